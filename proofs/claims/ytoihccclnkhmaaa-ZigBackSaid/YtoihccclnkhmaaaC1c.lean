/-
  What is proved: slices.Grow of nothing, and Concat. Conditions: none.
-/
import Derived.Test.YtoihccclnkhmaaaTy
import Derived.Test.YtoihccclnkhmaaaP1
import Derived.Test.YtoihccclnkhmaaaP0
set_option linter.unusedVariables false
set_option linter.unusedSimpArgs false
set_option maxRecDepth 4000
namespace Go.Proofs.Y
open Go.Rb
theorem flat_next {rs : List (List (List C))} {i : Nat} (h : i < rs.length) : (rs.take (i + 1)).flatten = (rs.take i).flatten ++ rs.getD i default := by
  rw [take_next h]; simp
theorem flat_le {rs : List (List (List C))} (i : Nat) : (rs.take i).flatten.length ≤ rs.flatten.length := by
  have h : (rs.take i).flatten ++ (rs.drop i).flatten = rs.flatten := by rw [← List.flatten_append, List.take_append_drop]
  rw [← h, List.length_append]; omega
theorem cp_bool : ycap Try.prog 36 .nils = some (.c (.int .i64 0)) := by simp [ycap, un36]
set_option maxHeartbeats 4000000 in
set_option maxRecDepth 50000 in
theorem grow_bool_fun (n : Int) (h0 : 0 ≤ n) (h1 : n * 1 ≤ 140737488355328) : Fun Try.prog 96 [.nils, .c (.int .i64 n)] nomem (.own false 0 4 []) nomem := by
 refine fun_of_awp Try.func96 rfl (by decide +kernel) (by decide +kernel) (Nat.le_of_ble_eq_true rfl) (fun _ _ => rfl) (fun _ _ => rfl) ?_
 refine awp_seq_k fun K1 hK1 => ?_
 refine awp_region_lit fun L2 hL2 => ?_
 refine aops_orunN 1 _ _ ?_
 simp only [qq, Nat.reduceBEq, reduceIte, Nat.reduceEqDiff, Nat.reduceAdd, Nat.reduceLeDiff, reduceCtorEq, Nat.reduceMul, Int.reduceToNat, cp_bool]
 refine aops_nil (hL2 _ ?_)
 simp only [qq, Nat.reduceBEq, reduceIte, Nat.reduceEqDiff, Nat.reduceAdd, Nat.reduceLeDiff, reduceCtorEq, Nat.reduceMul, Int.reduceToNat, cp_bool]
 try simp only [rk_state]
 refine hK1 _ ?_
 refine awp_seq_k fun K3 hK3 => ?_
 refine awp_seq_k fun K4 hK4 => ?_
 refine awp_region_lit fun L5 hL5 => ?_
 refine aops_orunN 2 _ _ ?_
 simp only [qq, Nat.reduceBEq, reduceIte, Nat.reduceEqDiff, Nat.reduceAdd, Nat.reduceLeDiff, reduceCtorEq, Nat.reduceMul, Int.reduceToNat, cp_bool]
 refine aops_nil (hL5 _ ?_)
 simp only [qq, Nat.reduceBEq, reduceIte, Nat.reduceEqDiff, Nat.reduceAdd, Nat.reduceLeDiff, reduceCtorEq, Nat.reduceMul, Int.reduceToNat, cp_bool]
 try simp only [rk_state]
 refine hK4 _ ?_
 refine awp_cond (t := ?t6) ?h6 (fun hb6 => ?a6) (fun hb6 => ?b6)
 case h6 => simp only [qq, Nat.reduceBEq, reduceIte, Nat.reduceEqDiff, Nat.reduceAdd, Nat.reduceLeDiff, reduceCtorEq, Nat.reduceMul, Int.reduceToNat, cp_bool]; rfl
 case a6 =>
  have hp6 := hb6
  try simp only [kb] at hp6
  all_goals try exact absurd hb6 (by decide)
  all_goals try (exfalso; omega)
  all_goals
   refine awp_region_lit fun L7 hL7 => ?_
   refine aops_orunN 2 _ _ ?_
   simp only [qq, Nat.reduceBEq, reduceIte, Nat.reduceEqDiff, Nat.reduceAdd, Nat.reduceLeDiff, reduceCtorEq, Nat.reduceMul, Int.reduceToNat, cp_bool, hb6]
   refine aops_nil (hL7 _ ?_)
   simp only [qq, Nat.reduceBEq, reduceIte, Nat.reduceEqDiff, Nat.reduceAdd, Nat.reduceLeDiff, reduceCtorEq, Nat.reduceMul, Int.reduceToNat, cp_bool, hb6]
   try simp only [rk_state]
   refine hK3 _ ?_
   as_aux_lemma =>
    refine awp_seq_k fun K8 hK8 => ?_
    refine awp_seq_k fun K9 hK9 => ?_
    refine awp_region_lit fun L10 hL10 => ?_
    refine aops_orunN 5 _ _ ?_
    simp only [qq, Nat.reduceBEq, reduceIte, Nat.reduceEqDiff, Nat.reduceAdd, Nat.reduceLeDiff, reduceCtorEq, Nat.reduceMul, Int.reduceToNat, cp_bool, hb6]
    refine aops_val (v := ?v11) rfl ?h11 ?_
    case h11 => simp only [qq, Nat.reduceBEq, reduceIte, Nat.reduceEqDiff, Nat.reduceAdd, Nat.reduceLeDiff, reduceCtorEq, Nat.reduceMul, Int.reduceToNat, cp_bool, hb6]; first | (rw [wr_id] <;> omega) | rfl
    simp only [qq, Nat.reduceBEq, reduceIte, Nat.reduceEqDiff, Nat.reduceAdd, Nat.reduceLeDiff, reduceCtorEq, Nat.reduceMul, Int.reduceToNat, cp_bool, hb6]
    refine aops_val (v := ?v12) rfl ?h12 ?_
    case h12 => simp only [qq, Nat.reduceBEq, reduceIte, Nat.reduceEqDiff, Nat.reduceAdd, Nat.reduceLeDiff, reduceCtorEq, Nat.reduceMul, Int.reduceToNat, cp_bool, hb6]; first | (rw [wr_id] <;> omega) | rfl
    simp only [qq, Nat.reduceBEq, reduceIte, Nat.reduceEqDiff, Nat.reduceAdd, Nat.reduceLeDiff, reduceCtorEq, Nat.reduceMul, Int.reduceToNat, cp_bool, hb6]
    refine aops_orunN 1 _ _ ?_
    simp only [qq, Nat.reduceBEq, reduceIte, Nat.reduceEqDiff, Nat.reduceAdd, Nat.reduceLeDiff, reduceCtorEq, Nat.reduceMul, Int.reduceToNat, cp_bool, hb6]
    refine aops_nil (hL10 _ ?_)
    simp only [qq, Nat.reduceBEq, reduceIte, Nat.reduceEqDiff, Nat.reduceAdd, Nat.reduceLeDiff, reduceCtorEq, Nat.reduceMul, Int.reduceToNat, cp_bool, hb6]
    try simp only [rk_state]
    refine hK9 _ ?_
    refine awp_seq_k fun K13 hK13 => ?_
    refine awp_region_lit fun L14 hL14 => ?_
    refine aops_orunN 2 _ _ ?_
    simp only [qq, Nat.reduceBEq, reduceIte, Nat.reduceEqDiff, Nat.reduceAdd, Nat.reduceLeDiff, reduceCtorEq, Nat.reduceMul, Int.reduceToNat, cp_bool, hb6]
    refine aops_nil (hL14 _ ?_)
    simp only [qq, Nat.reduceBEq, reduceIte, Nat.reduceEqDiff, Nat.reduceAdd, Nat.reduceLeDiff, reduceCtorEq, Nat.reduceMul, Int.reduceToNat, cp_bool, hb6]
    try simp only [rk_state]
    refine hK13 _ ?_
    refine awp_cond (t := ?t15) ?h15 (fun hb15 => ?a15) (fun hb15 => ?b15)
    case h15 => simp only [qq, Nat.reduceBEq, reduceIte, Nat.reduceEqDiff, Nat.reduceAdd, Nat.reduceLeDiff, reduceCtorEq, Nat.reduceMul, Int.reduceToNat, cp_bool, hb6]; rfl
    case a15 =>
     have hp15 := hb15
     try simp only [kb] at hp15
     all_goals try exact absurd hb15 (by decide)
     all_goals try (exfalso; omega)
     all_goals
      refine awp_region_lit fun L16 hL16 => ?_
      refine aops_orunN 3 _ _ ?_
      simp only [qq, Nat.reduceBEq, reduceIte, Nat.reduceEqDiff, Nat.reduceAdd, Nat.reduceLeDiff, reduceCtorEq, Nat.reduceMul, Int.reduceToNat, cp_bool, hb6, hb15]
      refine aops_nil0 (k := .i64) un36 if4 rfl rfl ?x17 ?y17 ?_
      case x17 => simp only [qq, Nat.reduceBEq, reduceIte, Nat.reduceEqDiff, Nat.reduceAdd, Nat.reduceLeDiff, reduceCtorEq, Nat.reduceMul, Int.reduceToNat, cp_bool, hb6, hb15]
      case y17 => (simp only [qq, Nat.reduceBEq, reduceIte, Nat.reduceEqDiff, Nat.reduceAdd, Nat.reduceLeDiff, reduceCtorEq, Nat.reduceMul, Int.reduceToNat, cp_bool, hb6, hb15] <;> rfl)
      simp only [qq, Nat.reduceBEq, reduceIte, Nat.reduceEqDiff, Nat.reduceAdd, Nat.reduceLeDiff, reduceCtorEq, Nat.reduceMul, Int.reduceToNat, cp_bool, hb6, hb15]
      refine aops_orunN 1 _ _ ?_
      simp only [qq, Nat.reduceBEq, reduceIte, Nat.reduceEqDiff, Nat.reduceAdd, Nat.reduceLeDiff, reduceCtorEq, Nat.reduceMul, Int.reduceToNat, cp_bool, hb6, hb15]
      refine aops_zeros (k := ?k18) (n := ?n18) 2022 un36 un3 (by simp only [tyf]; rfl) (by simp only [tyf]; rfl) (by simp only [tyf]; decide) rfl rfl rfl rfl rfl (by decide) ?m18 ?x18 ?y18 ?p18 ?b18 ?u18 ?_
      case m18 => simp only [qq, Nat.reduceBEq, reduceIte, Nat.reduceEqDiff, Nat.reduceAdd, Nat.reduceLeDiff, reduceCtorEq, Nat.reduceMul, Int.reduceToNat, cp_bool, hb6, hb15]
      case x18 => simp only [qq, Nat.reduceBEq, reduceIte, Nat.reduceEqDiff, Nat.reduceAdd, Nat.reduceLeDiff, reduceCtorEq, Nat.reduceMul, Int.reduceToNat, cp_bool, hb6, hb15]
      case y18 => (simp only [qq, Nat.reduceBEq, reduceIte, Nat.reduceEqDiff, Nat.reduceAdd, Nat.reduceLeDiff, reduceCtorEq, Nat.reduceMul, Int.reduceToNat, cp_bool, hb6, hb15] <;> rfl)
      case p18 => omega
      case b18 => (simp only [tyf]; omega)
      case u18 => omega
      simp only [qq, Nat.reduceBEq, reduceIte, Nat.reduceEqDiff, Nat.reduceAdd, Nat.reduceLeDiff, reduceCtorEq, Nat.reduceMul, Int.reduceToNat, cp_bool, hb6, hb15]
      refine aops_orunN 2 _ _ ?_
      simp only [qq, Nat.reduceBEq, reduceIte, Nat.reduceEqDiff, Nat.reduceAdd, Nat.reduceLeDiff, reduceCtorEq, Nat.reduceMul, Int.reduceToNat, cp_bool, hb6, hb15]
      refine aops_slice0 (l0 := ?la19) (len := ?lb19) (cap := ?lc19) (k := ?k19) (q := ?qq19) un36 if4 rfl rfl rfl (by simp only [qq, Nat.reduceBEq, reduceIte, Nat.reduceEqDiff, Nat.reduceAdd, Nat.reduceLeDiff, reduceCtorEq, Nat.reduceMul, Int.reduceToNat, cp_bool, hb6, hb15]) ?l19 ?x19 ?y19 ?q19 ?_
      case x19 => (simp only [qq, Nat.reduceBEq, reduceIte, Nat.reduceEqDiff, Nat.reduceAdd, Nat.reduceLeDiff, reduceCtorEq, Nat.reduceMul, Int.reduceToNat, cp_bool, hb6, hb15]; rfl)
      case y19 => (simp only [qq, Nat.reduceBEq, reduceIte, Nat.reduceEqDiff, Nat.reduceAdd, Nat.reduceLeDiff, reduceCtorEq, Nat.reduceMul, Int.reduceToNat, cp_bool, hb6, hb15] <;> rfl)
      case l19 => decide
      case q19 => rfl
      simp only [qq, Nat.reduceBEq, reduceIte, Nat.reduceEqDiff, Nat.reduceAdd, Nat.reduceLeDiff, reduceCtorEq, Nat.reduceMul, Int.reduceToNat, cp_bool, hb6, hb15]
      refine aops_orunN 1 _ _ ?_
      simp only [qq, Nat.reduceBEq, reduceIte, Nat.reduceEqDiff, Nat.reduceAdd, Nat.reduceLeDiff, reduceCtorEq, Nat.reduceMul, Int.reduceToNat, cp_bool, hb6, hb15]
      refine aops_nil (hL16 _ ?_)
      simp only [qq, Nat.reduceBEq, reduceIte, Nat.reduceEqDiff, Nat.reduceAdd, Nat.reduceLeDiff, reduceCtorEq, Nat.reduceMul, Int.reduceToNat, cp_bool, hb6, hb15]
      try simp only [rk_state]
      refine hK8 _ ?_
      as_aux_lemma =>
       refine awp_seq_k fun K20 hK20 => ?_
       refine awp_region_lit fun L21 hL21 => ?_
       refine aops_orunN 2 _ _ ?_
       simp only [qq, Nat.reduceBEq, reduceIte, Nat.reduceEqDiff, Nat.reduceAdd, Nat.reduceLeDiff, reduceCtorEq, Nat.reduceMul, Int.reduceToNat, cp_bool, hb6, hb15]
       refine aops_nil (hL21 _ ?_)
       simp only [qq, Nat.reduceBEq, reduceIte, Nat.reduceEqDiff, Nat.reduceAdd, Nat.reduceLeDiff, reduceCtorEq, Nat.reduceMul, Int.reduceToNat, cp_bool, hb6, hb15]
       try simp only [rk_state]
       refine hK20 _ ?_
       refine awp_ret ?_
       try simp only [rk_state]
       first | refine ⟨_, 25, by simp only [qq, Nat.reduceBEq, reduceIte, Nat.reduceEqDiff, Nat.reduceAdd, Nat.reduceLeDiff, reduceCtorEq, Nat.reduceMul, Int.reduceToNat, resA, Try.results96, cp_bool, hb6, hb15]; rfl, ?_, fun l hl => absurd rfl hl, fun l hl => absurd rfl hl⟩ | refine ⟨_, 0, by simp only [qq, Nat.reduceBEq, reduceIte, Nat.reduceEqDiff, Nat.reduceAdd, Nat.reduceLeDiff, reduceCtorEq, Nat.reduceMul, Int.reduceToNat, resA, Try.results96, cp_bool, hb6, hb15]; rfl, ?_, fun l hl => absurd rfl hl, fun l hl => absurd rfl hl⟩
       simp only [packA]
       first | exact wkR_nilsown | ((repeat' (first | exact .nil | exact wkR_c | exact wkR_own | exact wkR_nils | refine wkR_int ?_ | refine wkR_bool ?_ | refine wkR_sl ?_ | refine wkR_osl ?_ | refine wkR_nsl ?_ | refine wkR_oo ?_ | refine wkR_no ?_ | refine .cons ?_ ?_ | refine wkR_agg ?_ | refine wkR_tup ?_)) <;> simp_all)
    case b15 =>
     have hp15 := hb15
     try simp only [kb] at hp15
     all_goals try exact absurd hb15 (by decide)
     all_goals try (exfalso; omega)
     all_goals
      refine awp_skip ?_
      try simp only [rk_state]
      refine hK8 _ ?_
      refine awp_seq_k fun K22 hK22 => ?_
      refine awp_region_lit fun L23 hL23 => ?_
      refine aops_orunN 2 _ _ ?_
      simp only [qq, Nat.reduceBEq, reduceIte, Nat.reduceEqDiff, Nat.reduceAdd, Nat.reduceLeDiff, reduceCtorEq, Nat.reduceMul, Int.reduceToNat, cp_bool, hb6, hb15]
      refine aops_nil (hL23 _ ?_)
      simp only [qq, Nat.reduceBEq, reduceIte, Nat.reduceEqDiff, Nat.reduceAdd, Nat.reduceLeDiff, reduceCtorEq, Nat.reduceMul, Int.reduceToNat, cp_bool, hb6, hb15]
      try simp only [rk_state]
      refine hK22 _ ?_
      refine awp_ret ?_
      try simp only [rk_state]
      first | refine ⟨_, 25, by simp only [qq, Nat.reduceBEq, reduceIte, Nat.reduceEqDiff, Nat.reduceAdd, Nat.reduceLeDiff, reduceCtorEq, Nat.reduceMul, Int.reduceToNat, resA, Try.results96, cp_bool, hb6, hb15]; rfl, ?_, fun l hl => absurd rfl hl, fun l hl => absurd rfl hl⟩ | refine ⟨_, 0, by simp only [qq, Nat.reduceBEq, reduceIte, Nat.reduceEqDiff, Nat.reduceAdd, Nat.reduceLeDiff, reduceCtorEq, Nat.reduceMul, Int.reduceToNat, resA, Try.results96, cp_bool, hb6, hb15]; rfl, ?_, fun l hl => absurd rfl hl, fun l hl => absurd rfl hl⟩
      simp only [packA]
      first | exact wkR_nilsown | ((repeat' (first | exact .nil | exact wkR_c | exact wkR_own | exact wkR_nils | refine wkR_int ?_ | refine wkR_bool ?_ | refine wkR_sl ?_ | refine wkR_osl ?_ | refine wkR_nsl ?_ | refine wkR_oo ?_ | refine wkR_no ?_ | refine .cons ?_ ?_ | refine wkR_agg ?_ | refine wkR_tup ?_)) <;> simp_all)
 case b6 =>
  have hp6 := hb6
  try simp only [kb] at hp6
  all_goals try exact absurd hb6 (by decide)
  all_goals try (exfalso; omega)
  all_goals
   refine awp_skip ?_
   try simp only [rk_state]
   refine hK3 _ ?_
   refine awp_seq_k fun K24 hK24 => ?_
   refine awp_seq_k fun K25 hK25 => ?_
   refine awp_region_lit fun L26 hL26 => ?_
   refine aops_orunN 5 _ _ ?_
   simp only [qq, Nat.reduceBEq, reduceIte, Nat.reduceEqDiff, Nat.reduceAdd, Nat.reduceLeDiff, reduceCtorEq, Nat.reduceMul, Int.reduceToNat, cp_bool, hb6]
   refine aops_val (v := ?v27) rfl ?h27 ?_
   case h27 => simp only [qq, Nat.reduceBEq, reduceIte, Nat.reduceEqDiff, Nat.reduceAdd, Nat.reduceLeDiff, reduceCtorEq, Nat.reduceMul, Int.reduceToNat, cp_bool, hb6]; first | (rw [wr_id] <;> omega) | rfl
   simp only [qq, Nat.reduceBEq, reduceIte, Nat.reduceEqDiff, Nat.reduceAdd, Nat.reduceLeDiff, reduceCtorEq, Nat.reduceMul, Int.reduceToNat, cp_bool, hb6]
   refine aops_val (v := ?v28) rfl ?h28 ?_
   case h28 => simp only [qq, Nat.reduceBEq, reduceIte, Nat.reduceEqDiff, Nat.reduceAdd, Nat.reduceLeDiff, reduceCtorEq, Nat.reduceMul, Int.reduceToNat, cp_bool, hb6]; first | (rw [wr_id] <;> omega) | rfl
   simp only [qq, Nat.reduceBEq, reduceIte, Nat.reduceEqDiff, Nat.reduceAdd, Nat.reduceLeDiff, reduceCtorEq, Nat.reduceMul, Int.reduceToNat, cp_bool, hb6]
   refine aops_orunN 1 _ _ ?_
   simp only [qq, Nat.reduceBEq, reduceIte, Nat.reduceEqDiff, Nat.reduceAdd, Nat.reduceLeDiff, reduceCtorEq, Nat.reduceMul, Int.reduceToNat, cp_bool, hb6]
   refine aops_nil (hL26 _ ?_)
   simp only [qq, Nat.reduceBEq, reduceIte, Nat.reduceEqDiff, Nat.reduceAdd, Nat.reduceLeDiff, reduceCtorEq, Nat.reduceMul, Int.reduceToNat, cp_bool, hb6]
   try simp only [rk_state]
   refine hK25 _ ?_
   as_aux_lemma =>
    refine awp_seq_k fun K29 hK29 => ?_
    refine awp_region_lit fun L30 hL30 => ?_
    refine aops_orunN 2 _ _ ?_
    simp only [qq, Nat.reduceBEq, reduceIte, Nat.reduceEqDiff, Nat.reduceAdd, Nat.reduceLeDiff, reduceCtorEq, Nat.reduceMul, Int.reduceToNat, cp_bool, hb6]
    refine aops_nil (hL30 _ ?_)
    simp only [qq, Nat.reduceBEq, reduceIte, Nat.reduceEqDiff, Nat.reduceAdd, Nat.reduceLeDiff, reduceCtorEq, Nat.reduceMul, Int.reduceToNat, cp_bool, hb6]
    try simp only [rk_state]
    refine hK29 _ ?_
    refine awp_cond (t := ?t31) ?h31 (fun hb31 => ?a31) (fun hb31 => ?b31)
    case h31 => simp only [qq, Nat.reduceBEq, reduceIte, Nat.reduceEqDiff, Nat.reduceAdd, Nat.reduceLeDiff, reduceCtorEq, Nat.reduceMul, Int.reduceToNat, cp_bool, hb6]; rfl
    case a31 =>
     have hp31 := hb31
     try simp only [kb] at hp31
     all_goals try exact absurd hb31 (by decide)
     all_goals try (exfalso; omega)
     all_goals
      refine awp_region_lit fun L32 hL32 => ?_
      refine aops_orunN 3 _ _ ?_
      simp only [qq, Nat.reduceBEq, reduceIte, Nat.reduceEqDiff, Nat.reduceAdd, Nat.reduceLeDiff, reduceCtorEq, Nat.reduceMul, Int.reduceToNat, cp_bool, hb6, hb31]
      refine aops_nil0 (k := .i64) un36 if4 rfl rfl ?x33 ?y33 ?_
      case x33 => simp only [qq, Nat.reduceBEq, reduceIte, Nat.reduceEqDiff, Nat.reduceAdd, Nat.reduceLeDiff, reduceCtorEq, Nat.reduceMul, Int.reduceToNat, cp_bool, hb6, hb31]
      case y33 => (simp only [qq, Nat.reduceBEq, reduceIte, Nat.reduceEqDiff, Nat.reduceAdd, Nat.reduceLeDiff, reduceCtorEq, Nat.reduceMul, Int.reduceToNat, cp_bool, hb6, hb31] <;> rfl)
      simp only [qq, Nat.reduceBEq, reduceIte, Nat.reduceEqDiff, Nat.reduceAdd, Nat.reduceLeDiff, reduceCtorEq, Nat.reduceMul, Int.reduceToNat, cp_bool, hb6, hb31]
      refine aops_orunN 1 _ _ ?_
      simp only [qq, Nat.reduceBEq, reduceIte, Nat.reduceEqDiff, Nat.reduceAdd, Nat.reduceLeDiff, reduceCtorEq, Nat.reduceMul, Int.reduceToNat, cp_bool, hb6, hb31]
      refine aops_zeros (k := ?k34) (n := ?n34) 2022 un36 un3 (by simp only [tyf]; rfl) (by simp only [tyf]; rfl) (by simp only [tyf]; decide) rfl rfl rfl rfl rfl (by decide) ?m34 ?x34 ?y34 ?p34 ?b34 ?u34 ?_
      case m34 => simp only [qq, Nat.reduceBEq, reduceIte, Nat.reduceEqDiff, Nat.reduceAdd, Nat.reduceLeDiff, reduceCtorEq, Nat.reduceMul, Int.reduceToNat, cp_bool, hb6, hb31]
      case x34 => simp only [qq, Nat.reduceBEq, reduceIte, Nat.reduceEqDiff, Nat.reduceAdd, Nat.reduceLeDiff, reduceCtorEq, Nat.reduceMul, Int.reduceToNat, cp_bool, hb6, hb31]
      case y34 => (simp only [qq, Nat.reduceBEq, reduceIte, Nat.reduceEqDiff, Nat.reduceAdd, Nat.reduceLeDiff, reduceCtorEq, Nat.reduceMul, Int.reduceToNat, cp_bool, hb6, hb31] <;> rfl)
      case p34 => omega
      case b34 => (simp only [tyf]; omega)
      case u34 => omega
      simp only [qq, Nat.reduceBEq, reduceIte, Nat.reduceEqDiff, Nat.reduceAdd, Nat.reduceLeDiff, reduceCtorEq, Nat.reduceMul, Int.reduceToNat, cp_bool, hb6, hb31]
      refine aops_orunN 2 _ _ ?_
      simp only [qq, Nat.reduceBEq, reduceIte, Nat.reduceEqDiff, Nat.reduceAdd, Nat.reduceLeDiff, reduceCtorEq, Nat.reduceMul, Int.reduceToNat, cp_bool, hb6, hb31]
      refine aops_slice0 (l0 := ?la35) (len := ?lb35) (cap := ?lc35) (k := ?k35) (q := ?qq35) un36 if4 rfl rfl rfl (by simp only [qq, Nat.reduceBEq, reduceIte, Nat.reduceEqDiff, Nat.reduceAdd, Nat.reduceLeDiff, reduceCtorEq, Nat.reduceMul, Int.reduceToNat, cp_bool, hb6, hb31]) ?l35 ?x35 ?y35 ?q35 ?_
      case x35 => (simp only [qq, Nat.reduceBEq, reduceIte, Nat.reduceEqDiff, Nat.reduceAdd, Nat.reduceLeDiff, reduceCtorEq, Nat.reduceMul, Int.reduceToNat, cp_bool, hb6, hb31]; rfl)
      case y35 => (simp only [qq, Nat.reduceBEq, reduceIte, Nat.reduceEqDiff, Nat.reduceAdd, Nat.reduceLeDiff, reduceCtorEq, Nat.reduceMul, Int.reduceToNat, cp_bool, hb6, hb31] <;> rfl)
      case l35 => decide
      case q35 => rfl
      simp only [qq, Nat.reduceBEq, reduceIte, Nat.reduceEqDiff, Nat.reduceAdd, Nat.reduceLeDiff, reduceCtorEq, Nat.reduceMul, Int.reduceToNat, cp_bool, hb6, hb31]
      refine aops_orunN 1 _ _ ?_
      simp only [qq, Nat.reduceBEq, reduceIte, Nat.reduceEqDiff, Nat.reduceAdd, Nat.reduceLeDiff, reduceCtorEq, Nat.reduceMul, Int.reduceToNat, cp_bool, hb6, hb31]
      refine aops_nil (hL32 _ ?_)
      simp only [qq, Nat.reduceBEq, reduceIte, Nat.reduceEqDiff, Nat.reduceAdd, Nat.reduceLeDiff, reduceCtorEq, Nat.reduceMul, Int.reduceToNat, cp_bool, hb6, hb31]
      try simp only [rk_state]
      refine hK24 _ ?_
      refine awp_seq_k fun K36 hK36 => ?_
      refine awp_region_lit fun L37 hL37 => ?_
      refine aops_orunN 2 _ _ ?_
      simp only [qq, Nat.reduceBEq, reduceIte, Nat.reduceEqDiff, Nat.reduceAdd, Nat.reduceLeDiff, reduceCtorEq, Nat.reduceMul, Int.reduceToNat, cp_bool, hb6, hb31]
      refine aops_nil (hL37 _ ?_)
      simp only [qq, Nat.reduceBEq, reduceIte, Nat.reduceEqDiff, Nat.reduceAdd, Nat.reduceLeDiff, reduceCtorEq, Nat.reduceMul, Int.reduceToNat, cp_bool, hb6, hb31]
      try simp only [rk_state]
      refine hK36 _ ?_
      as_aux_lemma =>
       refine awp_ret ?_
       try simp only [rk_state]
       first | refine ⟨_, 25, by simp only [qq, Nat.reduceBEq, reduceIte, Nat.reduceEqDiff, Nat.reduceAdd, Nat.reduceLeDiff, reduceCtorEq, Nat.reduceMul, Int.reduceToNat, resA, Try.results96, cp_bool, hb6, hb31]; rfl, ?_, fun l hl => absurd rfl hl, fun l hl => absurd rfl hl⟩ | refine ⟨_, 0, by simp only [qq, Nat.reduceBEq, reduceIte, Nat.reduceEqDiff, Nat.reduceAdd, Nat.reduceLeDiff, reduceCtorEq, Nat.reduceMul, Int.reduceToNat, resA, Try.results96, cp_bool, hb6, hb31]; rfl, ?_, fun l hl => absurd rfl hl, fun l hl => absurd rfl hl⟩
       simp only [packA]
       first | exact wkR_nilsown | ((repeat' (first | exact .nil | exact wkR_c | exact wkR_own | exact wkR_nils | refine wkR_int ?_ | refine wkR_bool ?_ | refine wkR_sl ?_ | refine wkR_osl ?_ | refine wkR_nsl ?_ | refine wkR_oo ?_ | refine wkR_no ?_ | refine .cons ?_ ?_ | refine wkR_agg ?_ | refine wkR_tup ?_)) <;> simp_all)
    case b31 =>
     have hp31 := hb31
     try simp only [kb] at hp31
     all_goals try exact absurd hb31 (by decide)
     all_goals try (exfalso; omega)
     all_goals
      refine awp_skip ?_
      try simp only [rk_state]
      refine hK24 _ ?_
      refine awp_seq_k fun K38 hK38 => ?_
      refine awp_region_lit fun L39 hL39 => ?_
      refine aops_orunN 2 _ _ ?_
      simp only [qq, Nat.reduceBEq, reduceIte, Nat.reduceEqDiff, Nat.reduceAdd, Nat.reduceLeDiff, reduceCtorEq, Nat.reduceMul, Int.reduceToNat, cp_bool, hb6, hb31]
      refine aops_nil (hL39 _ ?_)
      simp only [qq, Nat.reduceBEq, reduceIte, Nat.reduceEqDiff, Nat.reduceAdd, Nat.reduceLeDiff, reduceCtorEq, Nat.reduceMul, Int.reduceToNat, cp_bool, hb6, hb31]
      try simp only [rk_state]
      refine hK38 _ ?_
      refine awp_ret ?_
      try simp only [rk_state]
      first | refine ⟨_, 25, by simp only [qq, Nat.reduceBEq, reduceIte, Nat.reduceEqDiff, Nat.reduceAdd, Nat.reduceLeDiff, reduceCtorEq, Nat.reduceMul, Int.reduceToNat, resA, Try.results96, cp_bool, hb6, hb31]; rfl, ?_, fun l hl => absurd rfl hl, fun l hl => absurd rfl hl⟩ | refine ⟨_, 0, by simp only [qq, Nat.reduceBEq, reduceIte, Nat.reduceEqDiff, Nat.reduceAdd, Nat.reduceLeDiff, reduceCtorEq, Nat.reduceMul, Int.reduceToNat, resA, Try.results96, cp_bool, hb6, hb31]; rfl, ?_, fun l hl => absurd rfl hl, fun l hl => absurd rfl hl⟩
      simp only [packA]
      first | exact wkR_nilsown | ((repeat' (first | exact .nil | exact wkR_c | exact wkR_own | exact wkR_nils | refine wkR_int ?_ | refine wkR_bool ?_ | refine wkR_sl ?_ | refine wkR_osl ?_ | refine wkR_nsl ?_ | refine wkR_oo ?_ | refine wkR_no ?_ | refine .cons ?_ ?_ | refine wkR_agg ?_ | refine wkR_tup ?_)) <;> simp_all)
theorem lr_bool : ∀ rows : List (List C), ylen Try.prog 36 (.c (.sl 4 rows)) = some (.c (.int .i64 (rows.length : Int))) := fun rows => by simp [ylen, un36, AV.rows]
set_option maxHeartbeats 4000000 in
set_option maxRecDepth 50000 in
theorem concat_bool_fun (rs : List (List (List C))) (hr : rs.length ≤ 1000000) (h1 : rs.flatten.length * 1 ≤ 140737488355328) : Fun Try.prog 38 [.c (.sl 36 (Rw (slC 4) rs))] nomem (.own false 0 4 rs.flatten) nomem := by
 refine fun_of_awp Try.func38 rfl (by decide +kernel) (by decide +kernel) (Nat.le_of_ble_eq_true rfl) (fun _ _ => rfl) (fun _ _ => rfl) ?_
 refine awp_seq_k fun K1 hK1 => ?_
 refine awp_region_lit fun L2 hL2 => ?_
 refine aops_orunN 1 _ _ ?_
 simp only [qq, Nat.reduceBEq, reduceIte, Nat.reduceEqDiff, Nat.reduceAdd, Nat.reduceLeDiff, reduceCtorEq, Nat.reduceMul, Int.reduceToNat, lr_bool]
 refine aops_nil (hL2 _ ?_)
 simp only [qq, Nat.reduceBEq, reduceIte, Nat.reduceEqDiff, Nat.reduceAdd, Nat.reduceLeDiff, reduceCtorEq, Nat.reduceMul, Int.reduceToNat, lr_bool]
 try simp only [rk_state]
 refine hK1 _ ?_
 refine awp_seq_k fun K3 hK3 => ?_
 refine awp_region_lit fun L4 hL4 => ?_
 refine aops_orunN 1 _ _ ?_
 simp only [qq, Nat.reduceBEq, reduceIte, Nat.reduceEqDiff, Nat.reduceAdd, Nat.reduceLeDiff, reduceCtorEq, Nat.reduceMul, Int.reduceToNat, lr_bool]
 refine aops_nil (hL4 _ ?_)
 simp only [qq, Nat.reduceBEq, reduceIte, Nat.reduceEqDiff, Nat.reduceAdd, Nat.reduceLeDiff, reduceCtorEq, Nat.reduceMul, Int.reduceToNat, lr_bool]
 try simp only [rk_state]
 refine hK3 _ ?_
 refine awp_seq_k fun K5 hK5 => ?_
 refine awp_seq_k fun K6 hK6 => ?_
 refine awp_region_lit fun L7 hL7 => ?_
 refine aops_orunN 3 _ _ ?_
 simp only [qq, Nat.reduceBEq, reduceIte, Nat.reduceEqDiff, Nat.reduceAdd, Nat.reduceLeDiff, reduceCtorEq, Nat.reduceMul, Int.reduceToNat, lr_bool]
 refine aops_nil (hL7 _ ?_)
 simp only [qq, Nat.reduceBEq, reduceIte, Nat.reduceEqDiff, Nat.reduceAdd, Nat.reduceLeDiff, reduceCtorEq, Nat.reduceMul, Int.reduceToNat, lr_bool]
 try simp only [rk_state]
 refine hK6 _ ?_
 as_aux_lemma =>
  refine awp_block ?_
  refine awp_loopW (W := [12, 13, 14, 5, 15, 16, 17, 18, 3, 19, 20, 21, 22, 11]) (M := []) rfl rfl (fun k s => ∃ (i : Nat), k = rs.length - i ∧ (i ≤ rs.length) ∧ s.t 3 = .c (.int .i64 ((rs.take i).flatten.length : Int)) ∧ s.t 11 = .c (.int .i64 (i : Int))) ((fun (i : Nat) => rs.length - i) (0)) ?i8 ?r8
  case i8 =>
   refine ⟨0, rfl, ?_, ?_, ?_⟩
   · first | omega | simp
   · (try simp only [qq, Nat.reduceBEq, reduceIte, Nat.reduceEqDiff, Nat.reduceAdd, Nat.reduceLeDiff, reduceCtorEq, Nat.reduceMul, Int.reduceToNat, lr_bool])
     all_goals (first | done | rfl | (simp only [AV.c.injEq, C.int.injEq, List.cons.injEq, and_true, true_and]; omega))
   · (try simp only [qq, Nat.reduceBEq, reduceIte, Nat.reduceEqDiff, Nat.reduceAdd, Nat.reduceLeDiff, reduceCtorEq, Nat.reduceMul, Int.reduceToNat, lr_bool])
     all_goals (first | done | rfl | (simp only [AV.c.injEq, C.int.injEq, List.cons.injEq, and_true, true_and]; omega))
  case r8 =>
   rintro k s hf ⟨i, rfl, hq3_0, s8t3, s8t11⟩ K8 hK8
   have s8f0 := hf 0 rfl (by (try simp only [qq, Nat.reduceBEq, reduceIte, Nat.reduceEqDiff, Nat.reduceAdd, Nat.reduceLeDiff, reduceCtorEq, Nat.reduceMul, Int.reduceToNat, kn, lr_bool]); all_goals rfl)
   simp only [qq, Nat.reduceBEq, reduceIte, Nat.reduceEqDiff, Nat.reduceAdd, Nat.reduceLeDiff, reduceCtorEq, Nat.reduceMul, Int.reduceToNat, lr_bool] at s8f0
   have s8f2 := hf 2 rfl (by (try simp only [qq, Nat.reduceBEq, reduceIte, Nat.reduceEqDiff, Nat.reduceAdd, Nat.reduceLeDiff, reduceCtorEq, Nat.reduceMul, Int.reduceToNat, kn, lr_bool]); all_goals rfl)
   simp only [qq, Nat.reduceBEq, reduceIte, Nat.reduceEqDiff, Nat.reduceAdd, Nat.reduceLeDiff, reduceCtorEq, Nat.reduceMul, Int.reduceToNat, lr_bool] at s8f2
   have s8f9 := hf 9 rfl (by (try simp only [qq, Nat.reduceBEq, reduceIte, Nat.reduceEqDiff, Nat.reduceAdd, Nat.reduceLeDiff, reduceCtorEq, Nat.reduceMul, Int.reduceToNat, kn, lr_bool]); all_goals rfl)
   simp only [qq, Nat.reduceBEq, reduceIte, Nat.reduceEqDiff, Nat.reduceAdd, Nat.reduceLeDiff, reduceCtorEq, Nat.reduceMul, Int.reduceToNat, lr_bool] at s8f9
   have s8f10 := hf 10 rfl (by (try simp only [qq, Nat.reduceBEq, reduceIte, Nat.reduceEqDiff, Nat.reduceAdd, Nat.reduceLeDiff, reduceCtorEq, Nat.reduceMul, Int.reduceToNat, kn, lr_bool]); all_goals rfl)
   simp only [qq, Nat.reduceBEq, reduceIte, Nat.reduceEqDiff, Nat.reduceAdd, Nat.reduceLeDiff, reduceCtorEq, Nat.reduceMul, Int.reduceToNat, lr_bool] at s8f10
   clear hf
   refine awp_seq_k fun K9 hK9 => ?_
   refine awp_region_lit fun L10 hL10 => ?_
   refine aops_orunN 1 _ _ ?_
   simp only [qq, Nat.reduceBEq, reduceIte, Nat.reduceEqDiff, Nat.reduceAdd, Nat.reduceLeDiff, reduceCtorEq, Nat.reduceMul, Int.reduceToNat, lr_bool, s8t3, s8t11, s8f0, s8f2, s8f9, s8f10]
   refine aops_nil (hL10 _ ?_)
   simp only [qq, Nat.reduceBEq, reduceIte, Nat.reduceEqDiff, Nat.reduceAdd, Nat.reduceLeDiff, reduceCtorEq, Nat.reduceMul, Int.reduceToNat, lr_bool, s8t3, s8t11, s8f0, s8f2, s8f9, s8f10]
   try simp only [rk_state]
   refine hK9 _ ?_
   refine awp_seq_k fun K11 hK11 => ?_
   refine awp_cond (t := ?t12) ?h12 (fun hb12 => ?a12) (fun hb12 => ?b12)
   case h12 => simp only [qq, Nat.reduceBEq, reduceIte, Nat.reduceEqDiff, Nat.reduceAdd, Nat.reduceLeDiff, reduceCtorEq, Nat.reduceMul, Int.reduceToNat, lr_bool, s8t3, s8t11, s8f0, s8f2, s8f9, s8f10]; rfl
   case a12 =>
    have hp12 := hb12
    try simp only [kb] at hp12
    all_goals try exact absurd hb12 (by decide)
    all_goals try (exfalso; omega)
    all_goals
     refine awp_skip ?_
     try simp only [rk_state]
     refine hK11 _ ?_
     refine awp_seq_k fun K13 hK13 => ?_
     refine awp_block ?_
     refine awp_seq_k fun K14 hK14 => ?_
     have hfn := flat_next (rs := rs) (i := i) (by omega)
     have hfl := flat_le (rs := rs) (i + 1)
     have hfe := congrArg List.length hfn
     rw [List.length_append] at hfe
     refine awp_region_lit fun L15 hL15 => ?_
     refine aops_val (v := ?v16) rfl ?h16 ?_
     case h16 => simp only [qq, Nat.reduceBEq, reduceIte, Nat.reduceEqDiff, Nat.reduceAdd, Nat.reduceLeDiff, reduceCtorEq, Nat.reduceMul, Int.reduceToNat, lr_bool, s8t3, s8t11, s8f0, s8f2, s8f9, s8f10, hb12]; first | (rw [idx_c un116 if36] <;> omega) | (rw [idx_o un116 if36] <;> omega) | (rw [idx_a un116 if36] <;> omega)
     simp only [qq, Nat.reduceBEq, reduceIte, Nat.reduceEqDiff, Nat.reduceAdd, Nat.reduceLeDiff, reduceCtorEq, Nat.reduceMul, Int.reduceToNat, lr_bool, s8t3, s8t11, s8f0, s8f2, s8f9, s8f10, hb12]
     refine aops_orunN 2 _ _ ?_
     simp only [qq, Nat.reduceBEq, reduceIte, Nat.reduceEqDiff, Nat.reduceAdd, Nat.reduceLeDiff, reduceCtorEq, Nat.reduceMul, Int.reduceToNat, lr_bool, s8t3, s8t11, s8f0, s8f2, s8f9, s8f10, hb12]
     refine aops_nil (hL15 _ ?_)
     simp only [qq, Nat.reduceBEq, reduceIte, Nat.reduceEqDiff, Nat.reduceAdd, Nat.reduceLeDiff, reduceCtorEq, Nat.reduceMul, Int.reduceToNat, lr_bool, s8t3, s8t11, s8f0, s8f2, s8f9, s8f10, hb12]
     try simp only [rk_state]
     refine hK14 _ ?_
     refine awp_seq_k fun K17 hK17 => ?_
     refine awp_region_lit fun L18 hL18 => ?_
     refine aops_orunN 3 _ _ ?_
     simp only [qq, Nat.reduceBEq, reduceIte, Nat.reduceEqDiff, Nat.reduceAdd, Nat.reduceLeDiff, reduceCtorEq, Nat.reduceMul, Int.reduceToNat, lr_bool, s8t3, s8t11, s8f0, s8f2, s8f9, s8f10, hb12]
     refine aops_val (v := ?v19) rfl ?h19 ?_
     case h19 => simp only [qq, Nat.reduceBEq, reduceIte, Nat.reduceEqDiff, Nat.reduceAdd, Nat.reduceLeDiff, reduceCtorEq, Nat.reduceMul, Int.reduceToNat, lr_bool, s8t3, s8t11, s8f0, s8f2, s8f9, s8f10, hb12]; first | (rw [wr_id] <;> omega) | rfl
     simp only [qq, Nat.reduceBEq, reduceIte, Nat.reduceEqDiff, Nat.reduceAdd, Nat.reduceLeDiff, reduceCtorEq, Nat.reduceMul, Int.reduceToNat, lr_bool, s8t3, s8t11, s8f0, s8f2, s8f9, s8f10, hb12]
     refine aops_orunN 1 _ _ ?_
     simp only [qq, Nat.reduceBEq, reduceIte, Nat.reduceEqDiff, Nat.reduceAdd, Nat.reduceLeDiff, reduceCtorEq, Nat.reduceMul, Int.reduceToNat, lr_bool, s8t3, s8t11, s8f0, s8f2, s8f9, s8f10, hb12]
     refine aops_nil (hL18 _ ?_)
     simp only [qq, Nat.reduceBEq, reduceIte, Nat.reduceEqDiff, Nat.reduceAdd, Nat.reduceLeDiff, reduceCtorEq, Nat.reduceMul, Int.reduceToNat, lr_bool, s8t3, s8t11, s8f0, s8f2, s8f9, s8f10, hb12]
     try simp only [rk_state]
     refine hK17 _ ?_
     as_aux_lemma =>
      refine awp_seq_k fun K20 hK20 => ?_
      refine awp_region_lit fun L21 hL21 => ?_
      refine aops_orunN 2 _ _ ?_
      simp only [qq, Nat.reduceBEq, reduceIte, Nat.reduceEqDiff, Nat.reduceAdd, Nat.reduceLeDiff, reduceCtorEq, Nat.reduceMul, Int.reduceToNat, lr_bool, s8t3, s8t11, s8f0, s8f2, s8f9, s8f10, hb12]
      refine aops_nil (hL21 _ ?_)
      simp only [qq, Nat.reduceBEq, reduceIte, Nat.reduceEqDiff, Nat.reduceAdd, Nat.reduceLeDiff, reduceCtorEq, Nat.reduceMul, Int.reduceToNat, lr_bool, s8t3, s8t11, s8f0, s8f2, s8f9, s8f10, hb12]
      try simp only [rk_state]
      refine hK20 _ ?_
      refine awp_cond (t := ?t22) ?h22 (fun hb22 => ?a22) (fun hb22 => ?b22)
      case h22 => simp only [qq, Nat.reduceBEq, reduceIte, Nat.reduceEqDiff, Nat.reduceAdd, Nat.reduceLeDiff, reduceCtorEq, Nat.reduceMul, Int.reduceToNat, lr_bool, s8t3, s8t11, s8f0, s8f2, s8f9, s8f10, hb12]; rfl
      case a22 =>
       have hp22 := hb22
       try simp only [kb] at hp22
       all_goals try exact absurd hb22 (by decide)
       all_goals try (exfalso; omega)
       all_goals
        refine awp_region_lit fun L23 hL23 => ?_
        refine aops_orunN 2 _ _ ?_
        simp only [qq, Nat.reduceBEq, reduceIte, Nat.reduceEqDiff, Nat.reduceAdd, Nat.reduceLeDiff, reduceCtorEq, Nat.reduceMul, Int.reduceToNat, lr_bool, s8t3, s8t11, s8f0, s8f2, s8f9, s8f10, hb12, hb22]
        refine aops_nil (hL23 _ ?_)
        simp only [qq, Nat.reduceBEq, reduceIte, Nat.reduceEqDiff, Nat.reduceAdd, Nat.reduceLeDiff, reduceCtorEq, Nat.reduceMul, Int.reduceToNat, lr_bool, s8t3, s8t11, s8f0, s8f2, s8f9, s8f10, hb12, hb22]
        try simp only [rk_state]
        try simp only [rk_state]
        refine hK13 _ ?_
        refine awp_region_lit fun L24 hL24 => ?_
        refine aops_val (v := ?v25) rfl ?h25 ?_
        case h25 => simp only [qq, Nat.reduceBEq, reduceIte, Nat.reduceEqDiff, Nat.reduceAdd, Nat.reduceLeDiff, reduceCtorEq, Nat.reduceMul, Int.reduceToNat, lr_bool, s8t3, s8t11, s8f0, s8f2, s8f9, s8f10, hb12, hb22]; first | (rw [wr_id] <;> omega) | rfl
        simp only [qq, Nat.reduceBEq, reduceIte, Nat.reduceEqDiff, Nat.reduceAdd, Nat.reduceLeDiff, reduceCtorEq, Nat.reduceMul, Int.reduceToNat, lr_bool, s8t3, s8t11, s8f0, s8f2, s8f9, s8f10, hb12, hb22]
        refine aops_orunN 1 _ _ ?_
        simp only [qq, Nat.reduceBEq, reduceIte, Nat.reduceEqDiff, Nat.reduceAdd, Nat.reduceLeDiff, reduceCtorEq, Nat.reduceMul, Int.reduceToNat, lr_bool, s8t3, s8t11, s8f0, s8f2, s8f9, s8f10, hb12, hb22]
        refine aops_nil (hL24 _ ?_)
        simp only [qq, Nat.reduceBEq, reduceIte, Nat.reduceEqDiff, Nat.reduceAdd, Nat.reduceLeDiff, reduceCtorEq, Nat.reduceMul, Int.reduceToNat, lr_bool, s8t3, s8t11, s8f0, s8f2, s8f9, s8f10, hb12, hb22]
        try simp only [rk_state]
        refine hK8 _ ((fun (i : Nat) => rs.length - i) (i + 1)) ?_ ⟨i + 1, rfl, ?_, ?_, ?_⟩
        · (try simp only []); omega
        · first | omega | simp
        · (try simp only [qq, Nat.reduceBEq, reduceIte, Nat.reduceEqDiff, Nat.reduceAdd, Nat.reduceLeDiff, reduceCtorEq, Nat.reduceMul, Int.reduceToNat, lr_bool, s8t3, s8t11, s8f0, s8f2, s8f9, s8f10, hb12, hb22])
          all_goals (first | done | rfl | (simp only [AV.c.injEq, C.int.injEq, List.cons.injEq, and_true, true_and]; omega))
        · (try simp only [qq, Nat.reduceBEq, reduceIte, Nat.reduceEqDiff, Nat.reduceAdd, Nat.reduceLeDiff, reduceCtorEq, Nat.reduceMul, Int.reduceToNat, lr_bool, s8t3, s8t11, s8f0, s8f2, s8f9, s8f10, hb12, hb22])
          all_goals (first | done | rfl | (simp only [AV.c.injEq, C.int.injEq, List.cons.injEq, and_true, true_and]; omega))
      case b22 =>
       have hp22 := hb22
       try simp only [kb] at hp22
       all_goals try exact absurd hb22 (by decide)
       all_goals try (exfalso; omega)
       all_goals
        refine awp_skip ?_
        try simp only [rk_state]
        try simp only [rk_state]
        refine hK13 _ ?_
        as_aux_lemma =>
         refine awp_region_lit fun L26 hL26 => ?_
         refine aops_val (v := ?v27) rfl ?h27 ?_
         case h27 => simp only [qq, Nat.reduceBEq, reduceIte, Nat.reduceEqDiff, Nat.reduceAdd, Nat.reduceLeDiff, reduceCtorEq, Nat.reduceMul, Int.reduceToNat, lr_bool, s8t3, s8t11, s8f0, s8f2, s8f9, s8f10, hb12, hb22]; first | (rw [wr_id] <;> omega) | rfl
         simp only [qq, Nat.reduceBEq, reduceIte, Nat.reduceEqDiff, Nat.reduceAdd, Nat.reduceLeDiff, reduceCtorEq, Nat.reduceMul, Int.reduceToNat, lr_bool, s8t3, s8t11, s8f0, s8f2, s8f9, s8f10, hb12, hb22]
         refine aops_orunN 1 _ _ ?_
         simp only [qq, Nat.reduceBEq, reduceIte, Nat.reduceEqDiff, Nat.reduceAdd, Nat.reduceLeDiff, reduceCtorEq, Nat.reduceMul, Int.reduceToNat, lr_bool, s8t3, s8t11, s8f0, s8f2, s8f9, s8f10, hb12, hb22]
         refine aops_nil (hL26 _ ?_)
         simp only [qq, Nat.reduceBEq, reduceIte, Nat.reduceEqDiff, Nat.reduceAdd, Nat.reduceLeDiff, reduceCtorEq, Nat.reduceMul, Int.reduceToNat, lr_bool, s8t3, s8t11, s8f0, s8f2, s8f9, s8f10, hb12, hb22]
         try simp only [rk_state]
         refine hK8 _ ((fun (i : Nat) => rs.length - i) (i + 1)) ?_ ⟨i + 1, rfl, ?_, ?_, ?_⟩
         · (try simp only []); omega
         · first | omega | simp
         · (try simp only [qq, Nat.reduceBEq, reduceIte, Nat.reduceEqDiff, Nat.reduceAdd, Nat.reduceLeDiff, reduceCtorEq, Nat.reduceMul, Int.reduceToNat, lr_bool, s8t3, s8t11, s8f0, s8f2, s8f9, s8f10, hb12, hb22])
           all_goals (first | done | rfl | (simp only [AV.c.injEq, C.int.injEq, List.cons.injEq, and_true, true_and]; omega))
         · (try simp only [qq, Nat.reduceBEq, reduceIte, Nat.reduceEqDiff, Nat.reduceAdd, Nat.reduceLeDiff, reduceCtorEq, Nat.reduceMul, Int.reduceToNat, lr_bool, s8t3, s8t11, s8f0, s8f2, s8f9, s8f10, hb12, hb22])
           all_goals (first | done | rfl | (simp only [AV.c.injEq, C.int.injEq, List.cons.injEq, and_true, true_and]; omega))
   case b12 =>
    have hp12 := hb12
    try simp only [kb] at hp12
    all_goals try exact absurd hb12 (by decide)
    all_goals try (exfalso; omega)
    all_goals
     refine awp_exit ?_
     simp only [rk_state, reduceIte, Nat.reduceEqDiff]
     try simp only [rk_state]
     refine hK5 _ ?_
     refine awp_seq_k fun K28 hK28 => ?_
     have hfl := flat_le (rs := rs) i
     refine awp_region_lit fun L29 hL29 => ?_
     refine aops_orunN 1 _ _ ?_
     simp only [qq, Nat.reduceBEq, reduceIte, Nat.reduceEqDiff, Nat.reduceAdd, Nat.reduceLeDiff, reduceCtorEq, Nat.reduceMul, Int.reduceToNat, lr_bool, s8t3, s8t11, s8f0, s8f2, s8f9, s8f10, hb12]
     refine aops_call_own (grow_bool_fun _ ?s30_0 ?s30_1) rfl rfl rfl rfl (by (try simp only [qq, Nat.reduceBEq, reduceIte, Nat.reduceEqDiff, Nat.reduceAdd, Nat.reduceLeDiff, reduceCtorEq, Nat.reduceMul, Int.reduceToNat, lr_bool, s8t3, s8t11, s8f0, s8f2, s8f9, s8f10, hb12]); (repeat' (first | exact .nil | exact wk_c | exact wk_ownc | exact wk_nilsc | exact wk_nils | exact wk_fn | refine .cons ?_ ?_ | refine wk_agg ?_ | refine wk_fnL ?_))) rfl rfl rfl (by simp only [qq, Nat.reduceBEq, reduceIte, Nat.reduceEqDiff, Nat.reduceAdd, Nat.reduceLeDiff, reduceCtorEq, Nat.reduceMul, Int.reduceToNat, lr_bool, s8t3, s8t11, s8f0, s8f2, s8f9, s8f10, hb12]) ?m30
     case s30_0 => omega
     case s30_1 => omega
     simp only [qq, Nat.reduceBEq, reduceIte, Nat.reduceEqDiff, Nat.reduceAdd, Nat.reduceLeDiff, reduceCtorEq, Nat.reduceMul, Int.reduceToNat, AV.setOwn, AV.setOwn1, lr_bool, s8t3, s8t11, s8f0, s8f2, s8f9, s8f10, hb12]
     refine aops_orunN 1 _ _ ?_
     simp only [qq, Nat.reduceBEq, reduceIte, Nat.reduceEqDiff, Nat.reduceAdd, Nat.reduceLeDiff, reduceCtorEq, Nat.reduceMul, Int.reduceToNat, lr_bool, s8t3, s8t11, s8f0, s8f2, s8f9, s8f10, hb12]
     refine aops_nil (hL29 _ ?_)
     simp only [qq, Nat.reduceBEq, reduceIte, Nat.reduceEqDiff, Nat.reduceAdd, Nat.reduceLeDiff, reduceCtorEq, Nat.reduceMul, Int.reduceToNat, lr_bool, s8t3, s8t11, s8f0, s8f2, s8f9, s8f10, hb12]
     try simp only [rk_state]
     refine hK28 _ ?_
     refine awp_seq_k fun K31 hK31 => ?_
     refine awp_seq_k fun K32 hK32 => ?_
     refine awp_region_lit fun L33 hL33 => ?_
     refine aops_orunN 3 _ _ ?_
     simp only [qq, Nat.reduceBEq, reduceIte, Nat.reduceEqDiff, Nat.reduceAdd, Nat.reduceLeDiff, reduceCtorEq, Nat.reduceMul, Int.reduceToNat, lr_bool, s8t3, s8t11, s8f0, s8f2, s8f9, s8f10, hb12]
     refine aops_nil (hL33 _ ?_)
     simp only [qq, Nat.reduceBEq, reduceIte, Nat.reduceEqDiff, Nat.reduceAdd, Nat.reduceLeDiff, reduceCtorEq, Nat.reduceMul, Int.reduceToNat, lr_bool, s8t3, s8t11, s8f0, s8f2, s8f9, s8f10, hb12]
     try simp only [rk_state]
     refine hK32 _ ?_
     as_aux_lemma =>
      refine awp_block ?_
      refine awp_loopW (W := [28, 29, 30, 8, 31, 32, 33, 6, 34, 27]) (M := []) rfl rfl (fun k s => ∃ (i : Nat) (d : Nat), k = rs.length - i ∧ (i ≤ rs.length) ∧ s.t 6 = .own false d 4 (rs.take i).flatten ∧ s.t 27 = .c (.int .i64 (i : Int))) ((fun (i : Nat) (d : Nat) => rs.length - i) (0) (24)) ?i34 ?r34
      case i34 =>
       refine ⟨0, 24, rfl, ?_, ?_, ?_⟩
       · first | omega | simp
       · (try simp only [qq, Nat.reduceBEq, reduceIte, Nat.reduceEqDiff, Nat.reduceAdd, Nat.reduceLeDiff, reduceCtorEq, Nat.reduceMul, Int.reduceToNat, lr_bool, s8t3, s8t11, s8f0, s8f2, s8f9, s8f10, hb12])
         all_goals (first | done | rfl | (simp only [AV.c.injEq, C.int.injEq, List.cons.injEq, and_true, true_and]; omega))
       · (try simp only [qq, Nat.reduceBEq, reduceIte, Nat.reduceEqDiff, Nat.reduceAdd, Nat.reduceLeDiff, reduceCtorEq, Nat.reduceMul, Int.reduceToNat, lr_bool, s8t3, s8t11, s8f0, s8f2, s8f9, s8f10, hb12])
         all_goals (first | done | rfl | (simp only [AV.c.injEq, C.int.injEq, List.cons.injEq, and_true, true_and]; omega))
      case r34 =>
       rintro k s hf ⟨i, d, rfl, hq11_0, s34t6, s34t27⟩ K34 hK34
       have s34f2 := hf 2 rfl (by (try simp only [qq, Nat.reduceBEq, reduceIte, Nat.reduceEqDiff, Nat.reduceAdd, Nat.reduceLeDiff, reduceCtorEq, Nat.reduceMul, Int.reduceToNat, kn, lr_bool, s8t3, s8t11, s8f0, s8f2, s8f9, s8f10, hb12]); all_goals rfl)
       simp only [qq, Nat.reduceBEq, reduceIte, Nat.reduceEqDiff, Nat.reduceAdd, Nat.reduceLeDiff, reduceCtorEq, Nat.reduceMul, Int.reduceToNat, lr_bool, s8t3, s8t11, s8f0, s8f2, s8f9, s8f10, hb12] at s34f2
       have s34f25 := hf 25 rfl (by (try simp only [qq, Nat.reduceBEq, reduceIte, Nat.reduceEqDiff, Nat.reduceAdd, Nat.reduceLeDiff, reduceCtorEq, Nat.reduceMul, Int.reduceToNat, kn, lr_bool, s8t3, s8t11, s8f0, s8f2, s8f9, s8f10, hb12]); all_goals rfl)
       simp only [qq, Nat.reduceBEq, reduceIte, Nat.reduceEqDiff, Nat.reduceAdd, Nat.reduceLeDiff, reduceCtorEq, Nat.reduceMul, Int.reduceToNat, lr_bool, s8t3, s8t11, s8f0, s8f2, s8f9, s8f10, hb12] at s34f25
       have s34f26 := hf 26 rfl (by (try simp only [qq, Nat.reduceBEq, reduceIte, Nat.reduceEqDiff, Nat.reduceAdd, Nat.reduceLeDiff, reduceCtorEq, Nat.reduceMul, Int.reduceToNat, kn, lr_bool, s8t3, s8t11, s8f0, s8f2, s8f9, s8f10, hb12]); all_goals rfl)
       simp only [qq, Nat.reduceBEq, reduceIte, Nat.reduceEqDiff, Nat.reduceAdd, Nat.reduceLeDiff, reduceCtorEq, Nat.reduceMul, Int.reduceToNat, lr_bool, s8t3, s8t11, s8f0, s8f2, s8f9, s8f10, hb12] at s34f26
       clear hf
       refine awp_seq_k fun K35 hK35 => ?_
       refine awp_region_lit fun L36 hL36 => ?_
       refine aops_orunN 1 _ _ ?_
       simp only [qq, Nat.reduceBEq, reduceIte, Nat.reduceEqDiff, Nat.reduceAdd, Nat.reduceLeDiff, reduceCtorEq, Nat.reduceMul, Int.reduceToNat, lr_bool, s8t3, s8t11, s8f0, s8f2, s8f9, s8f10, hb12, s34t6, s34t27, s34f2, s34f25, s34f26]
       refine aops_nil (hL36 _ ?_)
       simp only [qq, Nat.reduceBEq, reduceIte, Nat.reduceEqDiff, Nat.reduceAdd, Nat.reduceLeDiff, reduceCtorEq, Nat.reduceMul, Int.reduceToNat, lr_bool, s8t3, s8t11, s8f0, s8f2, s8f9, s8f10, hb12, s34t6, s34t27, s34f2, s34f25, s34f26]
       try simp only [rk_state]
       refine hK35 _ ?_
       refine awp_seq_k fun K37 hK37 => ?_
       refine awp_cond (t := ?t38) ?h38 (fun hb38 => ?a38) (fun hb38 => ?b38)
       case h38 => simp only [qq, Nat.reduceBEq, reduceIte, Nat.reduceEqDiff, Nat.reduceAdd, Nat.reduceLeDiff, reduceCtorEq, Nat.reduceMul, Int.reduceToNat, lr_bool, s8t3, s8t11, s8f0, s8f2, s8f9, s8f10, hb12, s34t6, s34t27, s34f2, s34f25, s34f26]; rfl
       case a38 =>
        have hp38 := hb38
        try simp only [kb] at hp38
        all_goals try exact absurd hb38 (by decide)
        all_goals try (exfalso; omega)
        all_goals
         refine awp_skip ?_
         try simp only [rk_state]
         refine hK37 _ ?_
         refine awp_seq_k fun K39 hK39 => ?_
         refine awp_block ?_
         refine awp_seq_k fun K40 hK40 => ?_
         have sn := flat_next (rs := rs) (i := i) (by omega)
         have hfl := flat_le (rs := rs) (i + 1)
         have hfe := congrArg List.length sn
         rw [List.length_append] at hfe
         refine awp_region_lit fun L41 hL41 => ?_
         refine aops_val (v := ?v42) rfl ?h42 ?_
         case h42 => simp only [qq, Nat.reduceBEq, reduceIte, Nat.reduceEqDiff, Nat.reduceAdd, Nat.reduceLeDiff, reduceCtorEq, Nat.reduceMul, Int.reduceToNat, lr_bool, s8t3, s8t11, s8f0, s8f2, s8f9, s8f10, hb12, s34t6, s34t27, s34f2, s34f25, s34f26, hb38, sn]; first | (rw [idx_c un116 if36] <;> omega) | (rw [idx_o un116 if36] <;> omega) | (rw [idx_a un116 if36] <;> omega)
         simp only [qq, Nat.reduceBEq, reduceIte, Nat.reduceEqDiff, Nat.reduceAdd, Nat.reduceLeDiff, reduceCtorEq, Nat.reduceMul, Int.reduceToNat, lr_bool, s8t3, s8t11, s8f0, s8f2, s8f9, s8f10, hb12, s34t6, s34t27, s34f2, s34f25, s34f26, hb38, sn]
         refine aops_orunN 2 _ _ ?_
         simp only [qq, Nat.reduceBEq, reduceIte, Nat.reduceEqDiff, Nat.reduceAdd, Nat.reduceLeDiff, reduceCtorEq, Nat.reduceMul, Int.reduceToNat, lr_bool, s8t3, s8t11, s8f0, s8f2, s8f9, s8f10, hb12, s34t6, s34t27, s34f2, s34f25, s34f26, hb38, sn]
         refine aops_nil (hL41 _ ?_)
         simp only [qq, Nat.reduceBEq, reduceIte, Nat.reduceEqDiff, Nat.reduceAdd, Nat.reduceLeDiff, reduceCtorEq, Nat.reduceMul, Int.reduceToNat, lr_bool, s8t3, s8t11, s8f0, s8f2, s8f9, s8f10, hb12, s34t6, s34t27, s34f2, s34f25, s34f26, hb38, sn]
         try simp only [rk_state]
         refine hK40 _ ?_
         refine awp_region_lit fun L43 hL43 => ?_
         refine aops_orunN 2 _ _ ?_
         simp only [qq, Nat.reduceBEq, reduceIte, Nat.reduceEqDiff, Nat.reduceAdd, Nat.reduceLeDiff, reduceCtorEq, Nat.reduceMul, Int.reduceToNat, lr_bool, s8t3, s8t11, s8f0, s8f2, s8f9, s8f10, hb12, s34t6, s34t27, s34f2, s34f25, s34f26, hb38, sn]
         refine aops_append (rows := ?rows44) (new := ?new44) rfl rfl rfl rfl rfl rfl un36 ?hx44 (by simp only [qq, Nat.reduceBEq, reduceIte, Nat.reduceEqDiff, Nat.reduceAdd, Nat.reduceLeDiff, reduceCtorEq, Nat.reduceMul, Int.reduceToNat, maskO, maskN, lr_bool, s8t3, s8t11, s8f0, s8f2, s8f9, s8f10, hb12, s34t6, s34t27, s34f2, s34f25, s34f26, hb38, sn]) (by simp only [qq, Nat.reduceBEq, reduceIte, Nat.reduceEqDiff, Nat.reduceAdd, Nat.reduceLeDiff, reduceCtorEq, Nat.reduceMul, Int.reduceToNat, maskO, maskN, lr_bool, s8t3, s8t11, s8f0, s8f2, s8f9, s8f10, hb12, s34t6, s34t27, s34f2, s34f25, s34f26, hb38, sn]) (by simp only [qq, Nat.reduceBEq, reduceIte, Nat.reduceEqDiff, Nat.reduceAdd, Nat.reduceLeDiff, reduceCtorEq, Nat.reduceMul, Int.reduceToNat, lr_bool, s8t3, s8t11, s8f0, s8f2, s8f9, s8f10, hb12, s34t6, s34t27, s34f2, s34f25, s34f26, hb38, sn]) ?hy44 (by simp only [tyf]; rfl) (by simp only [tyf]; decide) ?hsz44 ?hml44 ?hh44
         case hx44 => simp only [qq, Nat.reduceBEq, reduceIte, Nat.reduceEqDiff, Nat.reduceAdd, Nat.reduceLeDiff, reduceCtorEq, Nat.reduceMul, Int.reduceToNat, AV.base, lr_bool, s8t3, s8t11, s8f0, s8f2, s8f9, s8f10, hb12, s34t6, s34t27, s34f2, s34f25, s34f26, hb38, sn]; rfl
         case hy44 => simp only [qq, Nat.reduceBEq, reduceIte, Nat.reduceEqDiff, Nat.reduceAdd, Nat.reduceLeDiff, reduceCtorEq, Nat.reduceMul, Int.reduceToNat, lr_bool, s8t3, s8t11, s8f0, s8f2, s8f9, s8f10, hb12, s34t6, s34t27, s34f2, s34f25, s34f26, hb38, sn]; rfl
         case hsz44 => ((try simp only [tyf, rwR, List.length_append, List.length_cons, List.length_nil, List.length_take, List.length_drop]); omega)
         case hml44 => ((try simp only [maxLen, tyf, rwR, List.length_append, List.length_cons, List.length_nil, List.length_take, List.length_drop]); omega)
         simp only [qq, Nat.reduceBEq, reduceIte, Nat.reduceEqDiff, Nat.reduceAdd, Nat.reduceLeDiff, reduceCtorEq, Nat.reduceMul, Int.reduceToNat, maskO, maskN, lr_bool, s8t3, s8t11, s8f0, s8f2, s8f9, s8f10, hb12, s34t6, s34t27, s34f2, s34f25, s34f26, hb38, sn]
         refine aops_orunN 1 _ _ ?_
         simp only [qq, Nat.reduceBEq, reduceIte, Nat.reduceEqDiff, Nat.reduceAdd, Nat.reduceLeDiff, reduceCtorEq, Nat.reduceMul, Int.reduceToNat, lr_bool, s8t3, s8t11, s8f0, s8f2, s8f9, s8f10, hb12, s34t6, s34t27, s34f2, s34f25, s34f26, hb38, sn]
         refine aops_nil (hL43 _ ?_)
         simp only [qq, Nat.reduceBEq, reduceIte, Nat.reduceEqDiff, Nat.reduceAdd, Nat.reduceLeDiff, reduceCtorEq, Nat.reduceMul, Int.reduceToNat, lr_bool, s8t3, s8t11, s8f0, s8f2, s8f9, s8f10, hb12, s34t6, s34t27, s34f2, s34f25, s34f26, hb38, sn]
         try simp only [rk_state]
         try simp only [rk_state]
         refine hK39 _ ?_
         as_aux_lemma =>
          refine awp_region_lit fun L45 hL45 => ?_
          refine aops_val (v := ?v46) rfl ?h46 ?_
          case h46 => simp only [qq, Nat.reduceBEq, reduceIte, Nat.reduceEqDiff, Nat.reduceAdd, Nat.reduceLeDiff, reduceCtorEq, Nat.reduceMul, Int.reduceToNat, lr_bool, s8t3, s8t11, s8f0, s8f2, s8f9, s8f10, hb12, s34t6, s34t27, s34f2, s34f25, s34f26, hb38, sn]; first | (rw [wr_id] <;> omega) | rfl
          simp only [qq, Nat.reduceBEq, reduceIte, Nat.reduceEqDiff, Nat.reduceAdd, Nat.reduceLeDiff, reduceCtorEq, Nat.reduceMul, Int.reduceToNat, lr_bool, s8t3, s8t11, s8f0, s8f2, s8f9, s8f10, hb12, s34t6, s34t27, s34f2, s34f25, s34f26, hb38, sn]
          refine aops_orunN 1 _ _ ?_
          simp only [qq, Nat.reduceBEq, reduceIte, Nat.reduceEqDiff, Nat.reduceAdd, Nat.reduceLeDiff, reduceCtorEq, Nat.reduceMul, Int.reduceToNat, lr_bool, s8t3, s8t11, s8f0, s8f2, s8f9, s8f10, hb12, s34t6, s34t27, s34f2, s34f25, s34f26, hb38, sn]
          refine aops_nil (hL45 _ ?_)
          simp only [qq, Nat.reduceBEq, reduceIte, Nat.reduceEqDiff, Nat.reduceAdd, Nat.reduceLeDiff, reduceCtorEq, Nat.reduceMul, Int.reduceToNat, lr_bool, s8t3, s8t11, s8f0, s8f2, s8f9, s8f10, hb12, s34t6, s34t27, s34f2, s34f25, s34f26, hb38, sn]
          try simp only [rk_state]
          refine hK34 _ ((fun (i : Nat) (d : Nat) => rs.length - i) (i + 1) (33)) ?_ ⟨i + 1, 33, rfl, ?_, ?_, ?_⟩
          · (try simp only []); omega
          · first | omega | simp
          · (try simp only [qq, Nat.reduceBEq, reduceIte, Nat.reduceEqDiff, Nat.reduceAdd, Nat.reduceLeDiff, reduceCtorEq, Nat.reduceMul, Int.reduceToNat, lr_bool, s8t3, s8t11, s8f0, s8f2, s8f9, s8f10, hb12, s34t6, s34t27, s34f2, s34f25, s34f26, hb38, sn])
            all_goals (first | done | rfl | (simp only [AV.c.injEq, C.int.injEq, List.cons.injEq, and_true, true_and]; omega))
          · (try simp only [qq, Nat.reduceBEq, reduceIte, Nat.reduceEqDiff, Nat.reduceAdd, Nat.reduceLeDiff, reduceCtorEq, Nat.reduceMul, Int.reduceToNat, lr_bool, s8t3, s8t11, s8f0, s8f2, s8f9, s8f10, hb12, s34t6, s34t27, s34f2, s34f25, s34f26, hb38, sn])
            all_goals (first | done | rfl | (simp only [AV.c.injEq, C.int.injEq, List.cons.injEq, and_true, true_and]; omega))
       case b38 =>
        have hp38 := hb38
        try simp only [kb] at hp38
        all_goals try exact absurd hb38 (by decide)
        all_goals try (exfalso; omega)
        all_goals
         refine awp_exit ?_
         simp only [rk_state, reduceIte, Nat.reduceEqDiff]
         try simp only [rk_state]
         refine hK31 _ ?_
         refine awp_seq_k fun K47 hK47 => ?_
         refine awp_region_lit fun L48 hL48 => ?_
         refine aops_orunN 2 _ _ ?_
         simp only [qq, Nat.reduceBEq, reduceIte, Nat.reduceEqDiff, Nat.reduceAdd, Nat.reduceLeDiff, reduceCtorEq, Nat.reduceMul, Int.reduceToNat, lr_bool, s8t3, s8t11, s8f0, s8f2, s8f9, s8f10, hb12, s34t6, s34t27, s34f2, s34f25, s34f26, hb38]
         refine aops_nil (hL48 _ ?_)
         simp only [qq, Nat.reduceBEq, reduceIte, Nat.reduceEqDiff, Nat.reduceAdd, Nat.reduceLeDiff, reduceCtorEq, Nat.reduceMul, Int.reduceToNat, lr_bool, s8t3, s8t11, s8f0, s8f2, s8f9, s8f10, hb12, s34t6, s34t27, s34f2, s34f25, s34f26, hb38]
         try simp only [rk_state]
         refine hK47 _ ?_
         refine awp_ret ?_
         try simp only [rk_state]
         first | refine ⟨_, d, by simp only [qq, Nat.reduceBEq, reduceIte, Nat.reduceEqDiff, Nat.reduceAdd, Nat.reduceLeDiff, reduceCtorEq, Nat.reduceMul, Int.reduceToNat, resA, Try.results38, lr_bool, s8t3, s8t11, s8f0, s8f2, s8f9, s8f10, hb12, s34t6, s34t27, s34f2, s34f25, s34f26, hb38]; rfl, ?_, fun l hl => absurd rfl hl, fun l hl => absurd rfl hl⟩ | refine ⟨_, 0, by simp only [qq, Nat.reduceBEq, reduceIte, Nat.reduceEqDiff, Nat.reduceAdd, Nat.reduceLeDiff, reduceCtorEq, Nat.reduceMul, Int.reduceToNat, resA, Try.results38, lr_bool, s8t3, s8t11, s8f0, s8f2, s8f9, s8f10, hb12, s34t6, s34t27, s34f2, s34f25, s34f26, hb38]; rfl, ?_, fun l hl => absurd rfl hl, fun l hl => absurd rfl hl⟩
         simp only [packA]
         have e1 : rs.take i = rs := List.take_of_length_le (by omega); simp only [e1]; (repeat' (first | exact .nil | exact wkR_c | exact wkR_own | exact wkR_nils | refine wkR_int ?_ | refine wkR_bool ?_ | refine wkR_sl ?_ | refine wkR_osl ?_ | refine wkR_nsl ?_ | refine wkR_oo ?_ | refine wkR_no ?_ | refine .cons ?_ ?_ | refine wkR_agg ?_ | refine wkR_tup ?_)) <;> simp_all
end Go.Proofs.Y
