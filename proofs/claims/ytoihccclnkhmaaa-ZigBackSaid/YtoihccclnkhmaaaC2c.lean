/-
  What is proved: small numbers: what the law ZigBack computes. Conditions: none.
-/
import Derived.Test.YtoihccclnkhmaaaC2b
import Derived.Test.YtoihccclnkhmaaaP2b
import Derived.Test.YtoihccclnkhmaaaCA
set_option linter.unusedVariables false
set_option linter.unusedSimpArgs false
set_option maxRecDepth 4000
namespace Go.Proofs.Y
open Go.Rb
set_option maxHeartbeats 4000000 in
set_option maxRecDepth 50000 in
theorem zigBack_fun (v w : Int) (l : List Bool) (hl : l.length ≤ 140737488355200) : Fun Try.prog 9 [.c (.int .i64 v), .c (.int .i64 w), .c (.sl 4 (Rw boC l))] nomem (.c (.bool true)) nomem := by
 obtain ⟨V, sV⟩ : ∃ V, v % 8000001 - 4000000 = V := ⟨_, rfl⟩
 obtain ⟨U, sU⟩ : ∃ U, w % 8000001 - 4000000 = U := ⟨_, rfl⟩
 have hV : -4000000 ≤ V ∧ V ≤ 4000000 := by omega
 have hU : -4000000 ≤ U ∧ U ≤ 4000000 := by omega
 have hla := zenc_len 8 (foldN V)
 have hlc := zenc_len 8 (foldN U)
 have hal : (zenc 8 (foldN V) ++ zenc 8 (foldN U)).length = (zenc 8 (foldN V)).length + (zenc 8 (foldN U)).length := List.length_append
 refine fun_of_awp Try.func9 rfl (by decide +kernel) (by decide +kernel) (Nat.le_of_ble_eq_true rfl) (fun _ _ => rfl) (fun _ _ => rfl) ?_
 refine awp_seq_k fun K1 hK1 => ?_
 refine awp_region_lit fun L2 hL2 => ?_
 refine aops_orunN 1 _ _ ?_
 simp only [qq, Nat.reduceBEq, reduceIte, Nat.reduceEqDiff, Nat.reduceAdd, Nat.reduceLeDiff, reduceCtorEq, Nat.reduceMul, Int.reduceToNat, sV, sU]
 refine aops_nil (hL2 _ ?_)
 simp only [qq, Nat.reduceBEq, reduceIte, Nat.reduceEqDiff, Nat.reduceAdd, Nat.reduceLeDiff, reduceCtorEq, Nat.reduceMul, Int.reduceToNat, sV, sU]
 try simp only [rk_state]
 refine hK1 _ ?_
 refine awp_seq_k fun K3 hK3 => ?_
 refine awp_region_lit fun L4 hL4 => ?_
 refine aops_orunN 1 _ _ ?_
 simp only [qq, Nat.reduceBEq, reduceIte, Nat.reduceEqDiff, Nat.reduceAdd, Nat.reduceLeDiff, reduceCtorEq, Nat.reduceMul, Int.reduceToNat, sV, sU]
 refine aops_call (at_fun _ _ ?s5_0 ?s5_1) rfl rfl rfl rfl (by (try simp only [qq, Nat.reduceBEq, reduceIte, Nat.reduceEqDiff, Nat.reduceAdd, Nat.reduceLeDiff, reduceCtorEq, Nat.reduceMul, Int.reduceToNat, sV, sU]); (repeat' (first | exact .nil | exact wk_c | exact wk_ownc | exact wk_nilsc | exact wk_nils | exact wk_fn | refine .cons ?_ ?_ | refine wk_agg ?_ | refine wk_fnL ?_))) rfl rfl ?m5
 case s5_0 => omega
 case s5_1 => omega
 simp only [qq, Nat.reduceBEq, reduceIte, Nat.reduceEqDiff, Nat.reduceAdd, Nat.reduceLeDiff, reduceCtorEq, Nat.reduceMul, Int.reduceToNat, sV, sU]
 refine aops_val (v := ?v6) rfl ?h6 ?_
 case h6 => simp only [qq, Nat.reduceBEq, reduceIte, Nat.reduceEqDiff, Nat.reduceAdd, Nat.reduceLeDiff, reduceCtorEq, Nat.reduceMul, Int.reduceToNat, sV, sU]; first | (rw [wr_id] <;> omega) | rfl
 simp only [qq, Nat.reduceBEq, reduceIte, Nat.reduceEqDiff, Nat.reduceAdd, Nat.reduceLeDiff, reduceCtorEq, Nat.reduceMul, Int.reduceToNat, sV, sU]
 refine aops_orunN 1 _ _ ?_
 simp only [qq, Nat.reduceBEq, reduceIte, Nat.reduceEqDiff, Nat.reduceAdd, Nat.reduceLeDiff, reduceCtorEq, Nat.reduceMul, Int.reduceToNat, sV, sU]
 refine aops_call (at_fun _ _ ?s7_0 ?s7_1) rfl rfl rfl rfl (by (try simp only [qq, Nat.reduceBEq, reduceIte, Nat.reduceEqDiff, Nat.reduceAdd, Nat.reduceLeDiff, reduceCtorEq, Nat.reduceMul, Int.reduceToNat, sV, sU]); (repeat' (first | exact .nil | exact wk_c | exact wk_ownc | exact wk_nilsc | exact wk_nils | exact wk_fn | refine .cons ?_ ?_ | refine wk_agg ?_ | refine wk_fnL ?_))) rfl rfl ?m7
 case s7_0 => omega
 case s7_1 => omega
 simp only [qq, Nat.reduceBEq, reduceIte, Nat.reduceEqDiff, Nat.reduceAdd, Nat.reduceLeDiff, reduceCtorEq, Nat.reduceMul, Int.reduceToNat, sV, sU]
 refine aops_val (v := ?v8) rfl ?h8 ?_
 case h8 => simp only [qq, Nat.reduceBEq, reduceIte, Nat.reduceEqDiff, Nat.reduceAdd, Nat.reduceLeDiff, reduceCtorEq, Nat.reduceMul, Int.reduceToNat, sV, sU]; first | (rw [wr_id] <;> omega) | rfl
 simp only [qq, Nat.reduceBEq, reduceIte, Nat.reduceEqDiff, Nat.reduceAdd, Nat.reduceLeDiff, reduceCtorEq, Nat.reduceMul, Int.reduceToNat, sV, sU]
 refine aops_orunN 2 _ _ ?_
 simp only [qq, Nat.reduceBEq, reduceIte, Nat.reduceEqDiff, Nat.reduceAdd, Nat.reduceLeDiff, reduceCtorEq, Nat.reduceMul, Int.reduceToNat, sV, sU]
 refine aops_nil (hL4 _ ?_)
 simp only [qq, Nat.reduceBEq, reduceIte, Nat.reduceEqDiff, Nat.reduceAdd, Nat.reduceLeDiff, reduceCtorEq, Nat.reduceMul, Int.reduceToNat, sV, sU]
 try simp only [rk_state]
 refine hK3 _ ?_
 refine awp_seq_k fun K9 hK9 => ?_
 have s1 : zputR [] V = ((zenc 8 (foldN V)), 0) := zput_nil hV []
 refine awp_region_lit fun L10 hL10 => ?_
 refine aops_orunN 1 _ _ ?_
 simp only [qq, Nat.reduceBEq, reduceIte, Nat.reduceEqDiff, Nat.reduceAdd, Nat.reduceLeDiff, reduceCtorEq, Nat.reduceMul, Int.reduceToNat, sV, sU, s1]
 refine aops_call_own (zput_fun [] V (by simp)) rfl rfl rfl rfl (by (try simp only [qq, Nat.reduceBEq, reduceIte, Nat.reduceEqDiff, Nat.reduceAdd, Nat.reduceLeDiff, reduceCtorEq, Nat.reduceMul, Int.reduceToNat, sV, sU, s1]); (repeat' (first | exact .nil | exact wk_c | exact wk_ownc | exact wk_nilsc | exact wk_nils | exact wk_fn | refine .cons ?_ ?_ | refine wk_agg ?_ | refine wk_fnL ?_))) rfl rfl rfl (by simp only [qq, Nat.reduceBEq, reduceIte, Nat.reduceEqDiff, Nat.reduceAdd, Nat.reduceLeDiff, reduceCtorEq, Nat.reduceMul, Int.reduceToNat, sV, sU, s1]) ?_
 simp only [qq, Nat.reduceBEq, reduceIte, Nat.reduceEqDiff, Nat.reduceAdd, Nat.reduceLeDiff, reduceCtorEq, Nat.reduceMul, Int.reduceToNat, AV.setOwn, AV.setOwn1, sV, sU, s1]
 refine aops_orunN 5 _ _ ?_
 simp only [qq, Nat.reduceBEq, reduceIte, Nat.reduceEqDiff, Nat.reduceAdd, Nat.reduceLeDiff, reduceCtorEq, Nat.reduceMul, Int.reduceToNat, sV, sU, s1]
 refine aops_nil (hL10 _ ?_)
 simp only [qq, Nat.reduceBEq, reduceIte, Nat.reduceEqDiff, Nat.reduceAdd, Nat.reduceLeDiff, reduceCtorEq, Nat.reduceMul, Int.reduceToNat, sV, sU, s1]
 try simp only [rk_state]
 refine hK9 _ ?_
 as_aux_lemma =>
  refine awp_seq_k fun K12 hK12 => ?_
  have s2 : zputR (zenc 8 (foldN V)) U = ((zenc 8 (foldN V)) ++ (zenc 8 (foldN U)), 0) := zput_nil hU _
  refine awp_region_lit fun L13 hL13 => ?_
  refine aops_orunN 2 _ _ ?_
  simp only [qq, Nat.reduceBEq, reduceIte, Nat.reduceEqDiff, Nat.reduceAdd, Nat.reduceLeDiff, reduceCtorEq, Nat.reduceMul, Int.reduceToNat, sV, sU, s1, s2]
  refine aops_call_own (zput_fun _ _ ?s14_0) rfl rfl rfl rfl (by (try simp only [qq, Nat.reduceBEq, reduceIte, Nat.reduceEqDiff, Nat.reduceAdd, Nat.reduceLeDiff, reduceCtorEq, Nat.reduceMul, Int.reduceToNat, sV, sU, s1, s2]); (repeat' (first | exact .nil | exact wk_c | exact wk_ownc | exact wk_nilsc | exact wk_nils | exact wk_fn | refine .cons ?_ ?_ | refine wk_agg ?_ | refine wk_fnL ?_))) rfl rfl rfl (by simp only [qq, Nat.reduceBEq, reduceIte, Nat.reduceEqDiff, Nat.reduceAdd, Nat.reduceLeDiff, reduceCtorEq, Nat.reduceMul, Int.reduceToNat, sV, sU, s1, s2]) ?m14
  case s14_0 => first | assumption | omega | decide +kernel | (simp only [List.length_take, List.length_drop]; omega)
  simp only [qq, Nat.reduceBEq, reduceIte, Nat.reduceEqDiff, Nat.reduceAdd, Nat.reduceLeDiff, reduceCtorEq, Nat.reduceMul, Int.reduceToNat, AV.setOwn, AV.setOwn1, sV, sU, s1, s2]
  refine aops_orunN 5 _ _ ?_
  simp only [qq, Nat.reduceBEq, reduceIte, Nat.reduceEqDiff, Nat.reduceAdd, Nat.reduceLeDiff, reduceCtorEq, Nat.reduceMul, Int.reduceToNat, sV, sU, s1, s2]
  refine aops_nil (hL13 _ ?_)
  simp only [qq, Nat.reduceBEq, reduceIte, Nat.reduceEqDiff, Nat.reduceAdd, Nat.reduceLeDiff, reduceCtorEq, Nat.reduceMul, Int.reduceToNat, sV, sU, s1, s2]
  try simp only [rk_state]
  refine hK12 _ ?_
  refine awp_seq_k fun K15 hK15 => ?_
  refine awp_seq_k fun K16 hK16 => ?_
  refine awp_region_lit fun L17 hL17 => ?_
  refine aops_call folded_fun rfl rfl rfl rfl (by (try simp only [qq, Nat.reduceBEq, reduceIte, Nat.reduceEqDiff, Nat.reduceAdd, Nat.reduceLeDiff, reduceCtorEq, Nat.reduceMul, Int.reduceToNat, sV, sU, s1, s2]); (repeat' (first | exact .nil | exact wk_c | exact wk_ownc | exact wk_nilsc | exact wk_nils | exact wk_fn | refine .cons ?_ ?_ | refine wk_agg ?_ | refine wk_fnL ?_))) rfl rfl ?_
  simp only [qq, Nat.reduceBEq, reduceIte, Nat.reduceEqDiff, Nat.reduceAdd, Nat.reduceLeDiff, reduceCtorEq, Nat.reduceMul, Int.reduceToNat, sV, sU, s1, s2]
  refine aops_orunN 2 _ _ ?_
  simp only [qq, Nat.reduceBEq, reduceIte, Nat.reduceEqDiff, Nat.reduceAdd, Nat.reduceLeDiff, reduceCtorEq, Nat.reduceMul, Int.reduceToNat, sV, sU, s1, s2]
  refine aops_part (b := ?p19) 37 ?h19 (fun hb19 => ?a19) (fun hb19 => ?b19)
  case h19 => simp only [qq, Nat.reduceBEq, reduceIte, Nat.reduceEqDiff, Nat.reduceAdd, Nat.reduceLeDiff, reduceCtorEq, Nat.reduceMul, Int.reduceToNat, sV, sU, s1, s2]; rfl
  case a19 =>
   have hp19 := hb19
   try simp only [kb] at hp19
   all_goals try exact absurd hb19 (by decide)
   all_goals try (exfalso; omega)
   all_goals
    try simp only [hb19]
    refine aops_orunN 7 _ _ ?_
    simp only [qq, Nat.reduceBEq, reduceIte, Nat.reduceEqDiff, Nat.reduceAdd, Nat.reduceLeDiff, reduceCtorEq, Nat.reduceMul, Int.reduceToNat, sV, sU, s1, s2, hb19]
    refine aops_nil (hL17 _ ?_)
    simp only [qq, Nat.reduceBEq, reduceIte, Nat.reduceEqDiff, Nat.reduceAdd, Nat.reduceLeDiff, reduceCtorEq, Nat.reduceMul, Int.reduceToNat, sV, sU, s1, s2, hb19]
    try simp only [rk_state]
    refine hK16 _ ?_
    refine awp_cond (t := true) (by simp only [qq, Nat.reduceBEq, reduceIte, Nat.reduceEqDiff, Nat.reduceAdd, Nat.reduceLeDiff, reduceCtorEq, Nat.reduceMul, Int.reduceToNat, sV, sU, s1, s2, hb19]) (fun _ => ?_) (fun h => ?_)
    case refine_2 => cases h
    refine awp_seq_k fun K20 hK20 => ?_
    refine awp_region_lit fun L21 hL21 => ?_
    refine aops_orunN 1 _ _ ?_
    simp only [qq, Nat.reduceBEq, reduceIte, Nat.reduceEqDiff, Nat.reduceAdd, Nat.reduceLeDiff, reduceCtorEq, Nat.reduceMul, Int.reduceToNat, sV, sU, s1, s2, hb19]
    refine aops_nil (hL21 _ ?_)
    simp only [qq, Nat.reduceBEq, reduceIte, Nat.reduceEqDiff, Nat.reduceAdd, Nat.reduceLeDiff, reduceCtorEq, Nat.reduceMul, Int.reduceToNat, sV, sU, s1, s2, hb19]
    try simp only [rk_state]
    refine hK20 _ ?_
    as_aux_lemma =>
     refine awp_ret ?_
     try simp only [rk_state]
     refine ⟨_, 0, by simp only [qq, Nat.reduceBEq, reduceIte, Nat.reduceEqDiff, Nat.reduceAdd, Nat.reduceLeDiff, reduceCtorEq, Nat.reduceMul, Int.reduceToNat, resA, Try.results9, sV, sU, s1, s2, hb19]; rfl, ?_, fun l hl => absurd rfl hl, fun l hl => absurd rfl hl⟩
     simp only [packA]
     (repeat' (first | exact .nil | exact wkR_c | exact wkR_own | exact wkR_nils | refine wkR_int ?_ | refine wkR_bool ?_ | refine wkR_sl ?_ | refine wkR_osl ?_ | refine wkR_nsl ?_ | refine wkR_oo ?_ | refine wkR_no ?_ | refine .cons ?_ ?_ | refine wkR_agg ?_ | refine wkR_tup ?_))
  case b19 =>
   have hp19 := hb19
   try simp only [kb] at hp19
   all_goals try exact absurd hb19 (by decide)
   all_goals try (exfalso; omega)
   all_goals
    try simp only [hb19]
    refine aops_orunN 4 _ _ ?_
    simp only [qq, Nat.reduceBEq, reduceIte, Nat.reduceEqDiff, Nat.reduceAdd, Nat.reduceLeDiff, reduceCtorEq, Nat.reduceMul, Int.reduceToNat, sV, sU, s1, s2, hb19]
    refine aops_part (b := ?p22) 41 ?h22 (fun hb22 => ?a22) (fun hb22 => ?b22)
    case h22 => simp only [qq, Nat.reduceBEq, reduceIte, Nat.reduceEqDiff, Nat.reduceAdd, Nat.reduceLeDiff, reduceCtorEq, Nat.reduceMul, Int.reduceToNat, sV, sU, s1, s2, hb19]; rfl
    case a22 =>
     have hp22 := hb22
     try simp only [kb] at hp22
     all_goals try exact absurd hb22 (by decide)
     all_goals try (exfalso; omega)
     all_goals
      try simp only [hb22]
      refine aops_orunN 3 _ _ ?_
      simp only [qq, Nat.reduceBEq, reduceIte, Nat.reduceEqDiff, Nat.reduceAdd, Nat.reduceLeDiff, reduceCtorEq, Nat.reduceMul, Int.reduceToNat, sV, sU, s1, s2, hb19, hb22]
      refine aops_nil (hL17 _ ?_)
      simp only [qq, Nat.reduceBEq, reduceIte, Nat.reduceEqDiff, Nat.reduceAdd, Nat.reduceLeDiff, reduceCtorEq, Nat.reduceMul, Int.reduceToNat, sV, sU, s1, s2, hb19, hb22]
      try simp only [rk_state]
      refine hK16 _ ?_
      refine awp_cond (t := true) (by simp only [qq, Nat.reduceBEq, reduceIte, Nat.reduceEqDiff, Nat.reduceAdd, Nat.reduceLeDiff, reduceCtorEq, Nat.reduceMul, Int.reduceToNat, sV, sU, s1, s2, hb19, hb22]) (fun _ => ?_) (fun h => ?_)
      case refine_2 => cases h
      refine awp_seq_k fun K23 hK23 => ?_
      refine awp_region_lit fun L24 hL24 => ?_
      refine aops_orunN 1 _ _ ?_
      simp only [qq, Nat.reduceBEq, reduceIte, Nat.reduceEqDiff, Nat.reduceAdd, Nat.reduceLeDiff, reduceCtorEq, Nat.reduceMul, Int.reduceToNat, sV, sU, s1, s2, hb19, hb22]
      refine aops_nil (hL24 _ ?_)
      simp only [qq, Nat.reduceBEq, reduceIte, Nat.reduceEqDiff, Nat.reduceAdd, Nat.reduceLeDiff, reduceCtorEq, Nat.reduceMul, Int.reduceToNat, sV, sU, s1, s2, hb19, hb22]
      try simp only [rk_state]
      refine hK23 _ ?_
      refine awp_ret ?_
      try simp only [rk_state]
      refine ⟨_, 0, by simp only [qq, Nat.reduceBEq, reduceIte, Nat.reduceEqDiff, Nat.reduceAdd, Nat.reduceLeDiff, reduceCtorEq, Nat.reduceMul, Int.reduceToNat, resA, Try.results9, sV, sU, s1, s2, hb19, hb22]; rfl, ?_, fun l hl => absurd rfl hl, fun l hl => absurd rfl hl⟩
      simp only [packA]
      (repeat' (first | exact .nil | exact wkR_c | exact wkR_own | exact wkR_nils | refine wkR_int ?_ | refine wkR_bool ?_ | refine wkR_sl ?_ | refine wkR_osl ?_ | refine wkR_nsl ?_ | refine wkR_oo ?_ | refine wkR_no ?_ | refine .cons ?_ ?_ | refine wkR_agg ?_ | refine wkR_tup ?_))
    case b22 =>
     have hp22 := hb22
     try simp only [kb] at hp22
     all_goals try exact absurd hb22 (by decide)
     all_goals try (exfalso; omega)
     all_goals
      try simp only [hb22]
      refine aops_orunN 3 _ _ ?_
      simp only [qq, Nat.reduceBEq, reduceIte, Nat.reduceEqDiff, Nat.reduceAdd, Nat.reduceLeDiff, reduceCtorEq, Nat.reduceMul, Int.reduceToNat, sV, sU, s1, s2, hb19, hb22]
      refine aops_nil (hL17 _ ?_)
      simp only [qq, Nat.reduceBEq, reduceIte, Nat.reduceEqDiff, Nat.reduceAdd, Nat.reduceLeDiff, reduceCtorEq, Nat.reduceMul, Int.reduceToNat, sV, sU, s1, s2, hb19, hb22]
      try simp only [rk_state]
      refine hK16 _ ?_
      refine awp_cond (t := ?t25) ?h25 (fun hb25 => ?a25) (fun hb25 => ?b25)
      case h25 => simp only [qq, Nat.reduceBEq, reduceIte, Nat.reduceEqDiff, Nat.reduceAdd, Nat.reduceLeDiff, reduceCtorEq, Nat.reduceMul, Int.reduceToNat, sV, sU, s1, s2, hb19, hb22]; rfl
      case a25 =>
       have hp25 := hb25
       try simp only [kb] at hp25
       all_goals try exact absurd hb25 (by decide)
       all_goals try (exfalso; omega)
       all_goals
        refine awp_seq_k fun K26 hK26 => ?_
        refine awp_region_lit fun L27 hL27 => ?_
        refine aops_orunN 1 _ _ ?_
        simp only [qq, Nat.reduceBEq, reduceIte, Nat.reduceEqDiff, Nat.reduceAdd, Nat.reduceLeDiff, reduceCtorEq, Nat.reduceMul, Int.reduceToNat, sV, sU, s1, s2, hb19, hb22, hb25]
        refine aops_nil (hL27 _ ?_)
        simp only [qq, Nat.reduceBEq, reduceIte, Nat.reduceEqDiff, Nat.reduceAdd, Nat.reduceLeDiff, reduceCtorEq, Nat.reduceMul, Int.reduceToNat, sV, sU, s1, s2, hb19, hb22, hb25]
        try simp only [rk_state]
        refine hK26 _ ?_
        refine awp_ret ?_
        try simp only [rk_state]
        refine ⟨_, 0, by simp only [qq, Nat.reduceBEq, reduceIte, Nat.reduceEqDiff, Nat.reduceAdd, Nat.reduceLeDiff, reduceCtorEq, Nat.reduceMul, Int.reduceToNat, resA, Try.results9, sV, sU, s1, s2, hb19, hb22, hb25]; rfl, ?_, fun l hl => absurd rfl hl, fun l hl => absurd rfl hl⟩
        simp only [packA]
        (repeat' (first | exact .nil | exact wkR_c | exact wkR_own | exact wkR_nils | refine wkR_int ?_ | refine wkR_bool ?_ | refine wkR_sl ?_ | refine wkR_osl ?_ | refine wkR_nsl ?_ | refine wkR_oo ?_ | refine wkR_no ?_ | refine .cons ?_ ?_ | refine wkR_agg ?_ | refine wkR_tup ?_))
      case b25 =>
       have hp25 := hb25
       try simp only [kb] at hp25
       all_goals try exact absurd hb25 (by decide)
       all_goals try (exfalso; omega)
       all_goals
        refine awp_skip ?_
        try simp only [rk_state]
        refine hK15 _ ?_
        refine awp_seq_k fun K28 hK28 => ?_
        have s3 := zig_take hV (zenc 8 (foldN U))
        refine awp_region_lit fun L29 hL29 => ?_
        refine aops_orunN 1 _ _ ?_
        simp only [qq, Nat.reduceBEq, reduceIte, Nat.reduceEqDiff, Nat.reduceAdd, Nat.reduceLeDiff, reduceCtorEq, Nat.reduceMul, Int.reduceToNat, sV, sU, s1, s2, hb19, hb22, hb25, s3]
        refine aops_call_own (ztake_fun _ ?s30_0) rfl rfl rfl rfl (by (try simp only [qq, Nat.reduceBEq, reduceIte, Nat.reduceEqDiff, Nat.reduceAdd, Nat.reduceLeDiff, reduceCtorEq, Nat.reduceMul, Int.reduceToNat, sV, sU, s1, s2, hb19, hb22, hb25, s3]); (repeat' (first | exact .nil | exact wk_c | exact wk_ownc | exact wk_nilsc | exact wk_nils | exact wk_fn | refine .cons ?_ ?_ | refine wk_agg ?_ | refine wk_fnL ?_))) rfl rfl rfl (by simp only [qq, Nat.reduceBEq, reduceIte, Nat.reduceEqDiff, Nat.reduceAdd, Nat.reduceLeDiff, reduceCtorEq, Nat.reduceMul, Int.reduceToNat, sV, sU, s1, s2, hb19, hb22, hb25, s3]) ?m30
        case s30_0 => first | assumption | omega | decide +kernel | (simp only [List.length_take, List.length_drop]; omega)
        simp only [qq, Nat.reduceBEq, reduceIte, Nat.reduceEqDiff, Nat.reduceAdd, Nat.reduceLeDiff, reduceCtorEq, Nat.reduceMul, Int.reduceToNat, AV.setOwn, AV.setOwn1, sV, sU, s1, s2, hb19, hb22, hb25, s3]
        refine aops_orunN 7 _ _ ?_
        simp only [qq, Nat.reduceBEq, reduceIte, Nat.reduceEqDiff, Nat.reduceAdd, Nat.reduceLeDiff, reduceCtorEq, Nat.reduceMul, Int.reduceToNat, sV, sU, s1, s2, hb19, hb22, hb25, s3]
        refine aops_nil (hL29 _ ?_)
        simp only [qq, Nat.reduceBEq, reduceIte, Nat.reduceEqDiff, Nat.reduceAdd, Nat.reduceLeDiff, reduceCtorEq, Nat.reduceMul, Int.reduceToNat, sV, sU, s1, s2, hb19, hb22, hb25, s3]
        try simp only [rk_state]
        refine hK28 _ ?_
        as_aux_lemma =>
         refine awp_seq_k fun K31 hK31 => ?_
         have s4 := zig_take hU []
         rw [List.append_nil] at s4
         refine awp_region_lit fun L32 hL32 => ?_
         refine aops_orunN 1 _ _ ?_
         simp only [qq, Nat.reduceBEq, reduceIte, Nat.reduceEqDiff, Nat.reduceAdd, Nat.reduceLeDiff, reduceCtorEq, Nat.reduceMul, Int.reduceToNat, sV, sU, s1, s2, hb19, hb22, hb25, s3, s4]
         refine aops_call_own (ztake_fun _ ?s33_0) rfl rfl rfl rfl (by (try simp only [qq, Nat.reduceBEq, reduceIte, Nat.reduceEqDiff, Nat.reduceAdd, Nat.reduceLeDiff, reduceCtorEq, Nat.reduceMul, Int.reduceToNat, sV, sU, s1, s2, hb19, hb22, hb25, s3, s4]); (repeat' (first | exact .nil | exact wk_c | exact wk_ownc | exact wk_nilsc | exact wk_nils | exact wk_fn | refine .cons ?_ ?_ | refine wk_agg ?_ | refine wk_fnL ?_))) rfl rfl rfl (by simp only [qq, Nat.reduceBEq, reduceIte, Nat.reduceEqDiff, Nat.reduceAdd, Nat.reduceLeDiff, reduceCtorEq, Nat.reduceMul, Int.reduceToNat, sV, sU, s1, s2, hb19, hb22, hb25, s3, s4]) ?m33
         case s33_0 => first | assumption | omega | decide +kernel | (simp only [List.length_take, List.length_drop]; omega)
         simp only [qq, Nat.reduceBEq, reduceIte, Nat.reduceEqDiff, Nat.reduceAdd, Nat.reduceLeDiff, reduceCtorEq, Nat.reduceMul, Int.reduceToNat, AV.setOwn, AV.setOwn1, sV, sU, s1, s2, hb19, hb22, hb25, s3, s4]
         refine aops_orunN 7 _ _ ?_
         simp only [qq, Nat.reduceBEq, reduceIte, Nat.reduceEqDiff, Nat.reduceAdd, Nat.reduceLeDiff, reduceCtorEq, Nat.reduceMul, Int.reduceToNat, sV, sU, s1, s2, hb19, hb22, hb25, s3, s4]
         refine aops_nil (hL32 _ ?_)
         simp only [qq, Nat.reduceBEq, reduceIte, Nat.reduceEqDiff, Nat.reduceAdd, Nat.reduceLeDiff, reduceCtorEq, Nat.reduceMul, Int.reduceToNat, sV, sU, s1, s2, hb19, hb22, hb25, s3, s4]
         try simp only [rk_state]
         refine hK31 _ ?_
         refine awp_seq_k fun K34 hK34 => ?_
         refine awp_seq_k fun K35 hK35 => ?_
         refine awp_region_lit fun L36 hL36 => ?_
         refine aops_orunN 3 _ _ ?_
         simp only [qq, Nat.reduceBEq, reduceIte, Nat.reduceEqDiff, Nat.reduceAdd, Nat.reduceLeDiff, reduceCtorEq, Nat.reduceMul, Int.reduceToNat, sV, sU, s1, s2, hb19, hb22, hb25, s3, s4]
         refine aops_part (b := ?p37) 59 ?h37 (fun hb37 => ?a37) (fun hb37 => ?b37)
         case h37 => simp only [qq, Nat.reduceBEq, reduceIte, Nat.reduceEqDiff, Nat.reduceAdd, Nat.reduceLeDiff, reduceCtorEq, Nat.reduceMul, Int.reduceToNat, sV, sU, s1, s2, hb19, hb22, hb25, s3, s4]; rfl
         case a37 =>
          have hp37 := hb37
          try simp only [kb] at hp37
          all_goals try exact absurd hb37 (by decide)
          all_goals try (exfalso; omega)
          all_goals
           try simp only [hb37]
           refine aops_orunN 18 _ _ ?_
           simp only [qq, Nat.reduceBEq, reduceIte, Nat.reduceEqDiff, Nat.reduceAdd, Nat.reduceLeDiff, reduceCtorEq, Nat.reduceMul, Int.reduceToNat, sV, sU, s1, s2, hb19, hb22, hb25, s3, s4, hb37]
           refine aops_nil (hL36 _ ?_)
           simp only [qq, Nat.reduceBEq, reduceIte, Nat.reduceEqDiff, Nat.reduceAdd, Nat.reduceLeDiff, reduceCtorEq, Nat.reduceMul, Int.reduceToNat, sV, sU, s1, s2, hb19, hb22, hb25, s3, s4, hb37]
           try simp only [rk_state]
           refine hK35 _ ?_
           refine awp_cond (t := true) (by simp only [qq, Nat.reduceBEq, reduceIte, Nat.reduceEqDiff, Nat.reduceAdd, Nat.reduceLeDiff, reduceCtorEq, Nat.reduceMul, Int.reduceToNat, sV, sU, s1, s2, hb19, hb22, hb25, s3, s4, hb37]) (fun _ => ?_) (fun h => ?_)
           case refine_2 => cases h
           refine awp_seq_k fun K38 hK38 => ?_
           refine awp_region_lit fun L39 hL39 => ?_
           refine aops_orunN 1 _ _ ?_
           simp only [qq, Nat.reduceBEq, reduceIte, Nat.reduceEqDiff, Nat.reduceAdd, Nat.reduceLeDiff, reduceCtorEq, Nat.reduceMul, Int.reduceToNat, sV, sU, s1, s2, hb19, hb22, hb25, s3, s4, hb37]
           refine aops_nil (hL39 _ ?_)
           simp only [qq, Nat.reduceBEq, reduceIte, Nat.reduceEqDiff, Nat.reduceAdd, Nat.reduceLeDiff, reduceCtorEq, Nat.reduceMul, Int.reduceToNat, sV, sU, s1, s2, hb19, hb22, hb25, s3, s4, hb37]
           try simp only [rk_state]
           refine hK38 _ ?_
           as_aux_lemma =>
            refine awp_ret ?_
            try simp only [rk_state]
            refine ⟨_, 0, by simp only [qq, Nat.reduceBEq, reduceIte, Nat.reduceEqDiff, Nat.reduceAdd, Nat.reduceLeDiff, reduceCtorEq, Nat.reduceMul, Int.reduceToNat, resA, Try.results9, sV, sU, s1, s2, hb19, hb22, hb25, s3, s4, hb37]; rfl, ?_, fun l hl => absurd rfl hl, fun l hl => absurd rfl hl⟩
            simp only [packA]
            (repeat' (first | exact .nil | exact wkR_c | exact wkR_own | exact wkR_nils | refine wkR_int ?_ | refine wkR_bool ?_ | refine wkR_sl ?_ | refine wkR_osl ?_ | refine wkR_nsl ?_ | refine wkR_oo ?_ | refine wkR_no ?_ | refine .cons ?_ ?_ | refine wkR_agg ?_ | refine wkR_tup ?_))
         case b37 =>
          have hp37 := hb37
          try simp only [kb] at hp37
          all_goals try exact absurd hb37 (by decide)
          all_goals try (exfalso; omega)
          all_goals
           try simp only [hb37]
           refine aops_orunN 4 _ _ ?_
           simp only [qq, Nat.reduceBEq, reduceIte, Nat.reduceEqDiff, Nat.reduceAdd, Nat.reduceLeDiff, reduceCtorEq, Nat.reduceMul, Int.reduceToNat, sV, sU, s1, s2, hb19, hb22, hb25, s3, s4, hb37]
           refine aops_part (b := ?p40) 63 ?h40 (fun hb40 => ?a40) (fun hb40 => ?b40)
           case h40 => simp only [qq, Nat.reduceBEq, reduceIte, Nat.reduceEqDiff, Nat.reduceAdd, Nat.reduceLeDiff, reduceCtorEq, Nat.reduceMul, Int.reduceToNat, sV, sU, s1, s2, hb19, hb22, hb25, s3, s4, hb37]; rfl
           case a40 =>
            have hp40 := hb40
            try simp only [kb] at hp40
            all_goals try exact absurd hb40 (by decide)
            all_goals try (exfalso; omega)
            all_goals
             try simp only [hb40]
             refine aops_orunN 14 _ _ ?_
             simp only [qq, Nat.reduceBEq, reduceIte, Nat.reduceEqDiff, Nat.reduceAdd, Nat.reduceLeDiff, reduceCtorEq, Nat.reduceMul, Int.reduceToNat, sV, sU, s1, s2, hb19, hb22, hb25, s3, s4, hb37, hb40]
             refine aops_nil (hL36 _ ?_)
             simp only [qq, Nat.reduceBEq, reduceIte, Nat.reduceEqDiff, Nat.reduceAdd, Nat.reduceLeDiff, reduceCtorEq, Nat.reduceMul, Int.reduceToNat, sV, sU, s1, s2, hb19, hb22, hb25, s3, s4, hb37, hb40]
             try simp only [rk_state]
             refine hK35 _ ?_
             refine awp_cond (t := true) (by simp only [qq, Nat.reduceBEq, reduceIte, Nat.reduceEqDiff, Nat.reduceAdd, Nat.reduceLeDiff, reduceCtorEq, Nat.reduceMul, Int.reduceToNat, sV, sU, s1, s2, hb19, hb22, hb25, s3, s4, hb37, hb40]) (fun _ => ?_) (fun h => ?_)
             case refine_2 => cases h
             refine awp_seq_k fun K41 hK41 => ?_
             refine awp_region_lit fun L42 hL42 => ?_
             refine aops_orunN 1 _ _ ?_
             simp only [qq, Nat.reduceBEq, reduceIte, Nat.reduceEqDiff, Nat.reduceAdd, Nat.reduceLeDiff, reduceCtorEq, Nat.reduceMul, Int.reduceToNat, sV, sU, s1, s2, hb19, hb22, hb25, s3, s4, hb37, hb40]
             refine aops_nil (hL42 _ ?_)
             simp only [qq, Nat.reduceBEq, reduceIte, Nat.reduceEqDiff, Nat.reduceAdd, Nat.reduceLeDiff, reduceCtorEq, Nat.reduceMul, Int.reduceToNat, sV, sU, s1, s2, hb19, hb22, hb25, s3, s4, hb37, hb40]
             try simp only [rk_state]
             refine hK41 _ ?_
             refine awp_ret ?_
             try simp only [rk_state]
             refine ⟨_, 0, by simp only [qq, Nat.reduceBEq, reduceIte, Nat.reduceEqDiff, Nat.reduceAdd, Nat.reduceLeDiff, reduceCtorEq, Nat.reduceMul, Int.reduceToNat, resA, Try.results9, sV, sU, s1, s2, hb19, hb22, hb25, s3, s4, hb37, hb40]; rfl, ?_, fun l hl => absurd rfl hl, fun l hl => absurd rfl hl⟩
             simp only [packA]
             (repeat' (first | exact .nil | exact wkR_c | exact wkR_own | exact wkR_nils | refine wkR_int ?_ | refine wkR_bool ?_ | refine wkR_sl ?_ | refine wkR_osl ?_ | refine wkR_nsl ?_ | refine wkR_oo ?_ | refine wkR_no ?_ | refine .cons ?_ ?_ | refine wkR_agg ?_ | refine wkR_tup ?_))
           case b40 =>
            have hp40 := hb40
            try simp only [kb] at hp40
            all_goals try exact absurd hb40 (by decide)
            all_goals try (exfalso; omega)
            all_goals
             try simp only [hb40]
             refine aops_orunN 5 _ _ ?_
             simp only [qq, Nat.reduceBEq, reduceIte, Nat.reduceEqDiff, Nat.reduceAdd, Nat.reduceLeDiff, reduceCtorEq, Nat.reduceMul, Int.reduceToNat, sV, sU, s1, s2, hb19, hb22, hb25, s3, s4, hb37, hb40]
             refine aops_part (b := ?p43) 68 ?h43 (fun hb43 => ?a43) (fun hb43 => ?b43)
             case h43 => simp only [qq, Nat.reduceBEq, reduceIte, Nat.reduceEqDiff, Nat.reduceAdd, Nat.reduceLeDiff, reduceCtorEq, Nat.reduceMul, Int.reduceToNat, sV, sU, s1, s2, hb19, hb22, hb25, s3, s4, hb37, hb40]; rfl
             case a43 =>
              have hp43 := hb43
              try simp only [kb] at hp43
              all_goals try exact absurd hb43 (by decide)
              all_goals try (exfalso; omega)
              all_goals
               try simp only [hb43]
               refine aops_orunN 9 _ _ ?_
               simp only [qq, Nat.reduceBEq, reduceIte, Nat.reduceEqDiff, Nat.reduceAdd, Nat.reduceLeDiff, reduceCtorEq, Nat.reduceMul, Int.reduceToNat, sV, sU, s1, s2, hb19, hb22, hb25, s3, s4, hb37, hb40, hb43]
               refine aops_nil (hL36 _ ?_)
               simp only [qq, Nat.reduceBEq, reduceIte, Nat.reduceEqDiff, Nat.reduceAdd, Nat.reduceLeDiff, reduceCtorEq, Nat.reduceMul, Int.reduceToNat, sV, sU, s1, s2, hb19, hb22, hb25, s3, s4, hb37, hb40, hb43]
               try simp only [rk_state]
               refine hK35 _ ?_
               refine awp_cond (t := true) (by simp only [qq, Nat.reduceBEq, reduceIte, Nat.reduceEqDiff, Nat.reduceAdd, Nat.reduceLeDiff, reduceCtorEq, Nat.reduceMul, Int.reduceToNat, sV, sU, s1, s2, hb19, hb22, hb25, s3, s4, hb37, hb40, hb43]) (fun _ => ?_) (fun h => ?_)
               case refine_2 => cases h
               refine awp_seq_k fun K44 hK44 => ?_
               refine awp_region_lit fun L45 hL45 => ?_
               refine aops_orunN 1 _ _ ?_
               simp only [qq, Nat.reduceBEq, reduceIte, Nat.reduceEqDiff, Nat.reduceAdd, Nat.reduceLeDiff, reduceCtorEq, Nat.reduceMul, Int.reduceToNat, sV, sU, s1, s2, hb19, hb22, hb25, s3, s4, hb37, hb40, hb43]
               refine aops_nil (hL45 _ ?_)
               simp only [qq, Nat.reduceBEq, reduceIte, Nat.reduceEqDiff, Nat.reduceAdd, Nat.reduceLeDiff, reduceCtorEq, Nat.reduceMul, Int.reduceToNat, sV, sU, s1, s2, hb19, hb22, hb25, s3, s4, hb37, hb40, hb43]
               try simp only [rk_state]
               refine hK44 _ ?_
               refine awp_ret ?_
               try simp only [rk_state]
               refine ⟨_, 0, by simp only [qq, Nat.reduceBEq, reduceIte, Nat.reduceEqDiff, Nat.reduceAdd, Nat.reduceLeDiff, reduceCtorEq, Nat.reduceMul, Int.reduceToNat, resA, Try.results9, sV, sU, s1, s2, hb19, hb22, hb25, s3, s4, hb37, hb40, hb43]; rfl, ?_, fun l hl => absurd rfl hl, fun l hl => absurd rfl hl⟩
               simp only [packA]
               (repeat' (first | exact .nil | exact wkR_c | exact wkR_own | exact wkR_nils | refine wkR_int ?_ | refine wkR_bool ?_ | refine wkR_sl ?_ | refine wkR_osl ?_ | refine wkR_nsl ?_ | refine wkR_oo ?_ | refine wkR_no ?_ | refine .cons ?_ ?_ | refine wkR_agg ?_ | refine wkR_tup ?_))
             case b43 =>
              have hp43 := hb43
              try simp only [kb] at hp43
              all_goals try exact absurd hb43 (by decide)
              all_goals try (exfalso; omega)
              all_goals
               try simp only [hb43]
               refine aops_orunN 5 _ _ ?_
               simp only [qq, Nat.reduceBEq, reduceIte, Nat.reduceEqDiff, Nat.reduceAdd, Nat.reduceLeDiff, reduceCtorEq, Nat.reduceMul, Int.reduceToNat, sV, sU, s1, s2, hb19, hb22, hb25, s3, s4, hb37, hb40, hb43]
               refine aops_part (b := ?p46) 73 ?h46 (fun hb46 => ?a46) (fun hb46 => ?b46)
               case h46 => simp only [qq, Nat.reduceBEq, reduceIte, Nat.reduceEqDiff, Nat.reduceAdd, Nat.reduceLeDiff, reduceCtorEq, Nat.reduceMul, Int.reduceToNat, sV, sU, s1, s2, hb19, hb22, hb25, s3, s4, hb37, hb40, hb43]; rfl
               case a46 =>
                have hp46 := hb46
                try simp only [kb] at hp46
                all_goals try exact absurd hb46 (by decide)
                all_goals try (exfalso; omega)
                all_goals
                 try simp only [hb46]
                 refine aops_orunN 4 _ _ ?_
                 simp only [qq, Nat.reduceBEq, reduceIte, Nat.reduceEqDiff, Nat.reduceAdd, Nat.reduceLeDiff, reduceCtorEq, Nat.reduceMul, Int.reduceToNat, sV, sU, s1, s2, hb19, hb22, hb25, s3, s4, hb37, hb40, hb43, hb46]
                 refine aops_nil (hL36 _ ?_)
                 simp only [qq, Nat.reduceBEq, reduceIte, Nat.reduceEqDiff, Nat.reduceAdd, Nat.reduceLeDiff, reduceCtorEq, Nat.reduceMul, Int.reduceToNat, sV, sU, s1, s2, hb19, hb22, hb25, s3, s4, hb37, hb40, hb43, hb46]
                 try simp only [rk_state]
                 refine hK35 _ ?_
                 refine awp_cond (t := true) (by simp only [qq, Nat.reduceBEq, reduceIte, Nat.reduceEqDiff, Nat.reduceAdd, Nat.reduceLeDiff, reduceCtorEq, Nat.reduceMul, Int.reduceToNat, sV, sU, s1, s2, hb19, hb22, hb25, s3, s4, hb37, hb40, hb43, hb46]) (fun _ => ?_) (fun h => ?_)
                 case refine_2 => cases h
                 refine awp_seq_k fun K47 hK47 => ?_
                 refine awp_region_lit fun L48 hL48 => ?_
                 refine aops_orunN 1 _ _ ?_
                 simp only [qq, Nat.reduceBEq, reduceIte, Nat.reduceEqDiff, Nat.reduceAdd, Nat.reduceLeDiff, reduceCtorEq, Nat.reduceMul, Int.reduceToNat, sV, sU, s1, s2, hb19, hb22, hb25, s3, s4, hb37, hb40, hb43, hb46]
                 refine aops_nil (hL48 _ ?_)
                 simp only [qq, Nat.reduceBEq, reduceIte, Nat.reduceEqDiff, Nat.reduceAdd, Nat.reduceLeDiff, reduceCtorEq, Nat.reduceMul, Int.reduceToNat, sV, sU, s1, s2, hb19, hb22, hb25, s3, s4, hb37, hb40, hb43, hb46]
                 try simp only [rk_state]
                 refine hK47 _ ?_
                 as_aux_lemma =>
                  refine awp_ret ?_
                  try simp only [rk_state]
                  refine ⟨_, 0, by simp only [qq, Nat.reduceBEq, reduceIte, Nat.reduceEqDiff, Nat.reduceAdd, Nat.reduceLeDiff, reduceCtorEq, Nat.reduceMul, Int.reduceToNat, resA, Try.results9, sV, sU, s1, s2, hb19, hb22, hb25, s3, s4, hb37, hb40, hb43, hb46]; rfl, ?_, fun l hl => absurd rfl hl, fun l hl => absurd rfl hl⟩
                  simp only [packA]
                  (repeat' (first | exact .nil | exact wkR_c | exact wkR_own | exact wkR_nils | refine wkR_int ?_ | refine wkR_bool ?_ | refine wkR_sl ?_ | refine wkR_osl ?_ | refine wkR_nsl ?_ | refine wkR_oo ?_ | refine wkR_no ?_ | refine .cons ?_ ?_ | refine wkR_agg ?_ | refine wkR_tup ?_))
               case b46 =>
                have hp46 := hb46
                try simp only [kb] at hp46
                all_goals try exact absurd hb46 (by decide)
                all_goals try (exfalso; omega)
                all_goals
                 try simp only [hb46]
                 refine aops_orunN 4 _ _ ?_
                 simp only [qq, Nat.reduceBEq, reduceIte, Nat.reduceEqDiff, Nat.reduceAdd, Nat.reduceLeDiff, reduceCtorEq, Nat.reduceMul, Int.reduceToNat, sV, sU, s1, s2, hb19, hb22, hb25, s3, s4, hb37, hb40, hb43, hb46]
                 refine aops_nil (hL36 _ ?_)
                 simp only [qq, Nat.reduceBEq, reduceIte, Nat.reduceEqDiff, Nat.reduceAdd, Nat.reduceLeDiff, reduceCtorEq, Nat.reduceMul, Int.reduceToNat, sV, sU, s1, s2, hb19, hb22, hb25, s3, s4, hb37, hb40, hb43, hb46]
                 try simp only [rk_state]
                 refine hK35 _ ?_
                 refine awp_cond (t := ?t49) ?h49 (fun hb49 => ?a49) (fun hb49 => ?b49)
                 case h49 => simp only [qq, Nat.reduceBEq, reduceIte, Nat.reduceEqDiff, Nat.reduceAdd, Nat.reduceLeDiff, reduceCtorEq, Nat.reduceMul, Int.reduceToNat, sV, sU, s1, s2, hb19, hb22, hb25, s3, s4, hb37, hb40, hb43, hb46]; rfl
                 case a49 =>
                  have hp49 := hb49
                  try simp only [kb] at hp49
                  all_goals try exact absurd hb49 (by decide)
                  all_goals try (exfalso; omega)
                  all_goals
                   refine awp_seq_k fun K50 hK50 => ?_
                   refine awp_region_lit fun L51 hL51 => ?_
                   refine aops_orunN 1 _ _ ?_
                   simp only [qq, Nat.reduceBEq, reduceIte, Nat.reduceEqDiff, Nat.reduceAdd, Nat.reduceLeDiff, reduceCtorEq, Nat.reduceMul, Int.reduceToNat, sV, sU, s1, s2, hb19, hb22, hb25, s3, s4, hb37, hb40, hb43, hb46, hb49]
                   refine aops_nil (hL51 _ ?_)
                   simp only [qq, Nat.reduceBEq, reduceIte, Nat.reduceEqDiff, Nat.reduceAdd, Nat.reduceLeDiff, reduceCtorEq, Nat.reduceMul, Int.reduceToNat, sV, sU, s1, s2, hb19, hb22, hb25, s3, s4, hb37, hb40, hb43, hb46, hb49]
                   try simp only [rk_state]
                   refine hK50 _ ?_
                   refine awp_ret ?_
                   try simp only [rk_state]
                   refine ⟨_, 0, by simp only [qq, Nat.reduceBEq, reduceIte, Nat.reduceEqDiff, Nat.reduceAdd, Nat.reduceLeDiff, reduceCtorEq, Nat.reduceMul, Int.reduceToNat, resA, Try.results9, sV, sU, s1, s2, hb19, hb22, hb25, s3, s4, hb37, hb40, hb43, hb46, hb49]; rfl, ?_, fun l hl => absurd rfl hl, fun l hl => absurd rfl hl⟩
                   simp only [packA]
                   (repeat' (first | exact .nil | exact wkR_c | exact wkR_own | exact wkR_nils | refine wkR_int ?_ | refine wkR_bool ?_ | refine wkR_sl ?_ | refine wkR_osl ?_ | refine wkR_nsl ?_ | refine wkR_oo ?_ | refine wkR_no ?_ | refine .cons ?_ ?_ | refine wkR_agg ?_ | refine wkR_tup ?_))
                 case b49 =>
                  have hp49 := hb49
                  try simp only [kb] at hp49
                  all_goals try exact absurd hb49 (by decide)
                  all_goals try (exfalso; omega)
                  all_goals
                   refine awp_skip ?_
                   try simp only [rk_state]
                   refine hK34 _ ?_
                   refine awp_seq_k fun K52 hK52 => ?_
                   refine awp_seq_k fun K53 hK53 => ?_
                   refine awp_region_lit fun L54 hL54 => ?_
                   refine aops_orunN 2 _ _ ?_
                   simp only [qq, Nat.reduceBEq, reduceIte, Nat.reduceEqDiff, Nat.reduceAdd, Nat.reduceLeDiff, reduceCtorEq, Nat.reduceMul, Int.reduceToNat, sV, sU, s1, s2, hb19, hb22, hb25, s3, s4, hb37, hb40, hb43, hb46, hb49]
                   refine aops_val (v := ?v55) rfl ?h55 ?_
                   case h55 => simp only [qq, Nat.reduceBEq, reduceIte, Nat.reduceEqDiff, Nat.reduceAdd, Nat.reduceLeDiff, reduceCtorEq, Nat.reduceMul, Int.reduceToNat, sV, sU, s1, s2, hb19, hb22, hb25, s3, s4, hb37, hb40, hb43, hb46, hb49]; first | (rw [wr_id] <;> omega) | rfl
                   simp only [qq, Nat.reduceBEq, reduceIte, Nat.reduceEqDiff, Nat.reduceAdd, Nat.reduceLeDiff, reduceCtorEq, Nat.reduceMul, Int.reduceToNat, sV, sU, s1, s2, hb19, hb22, hb25, s3, s4, hb37, hb40, hb43, hb46, hb49]
                   refine aops_orunN 3 _ _ ?_
                   simp only [qq, Nat.reduceBEq, reduceIte, Nat.reduceEqDiff, Nat.reduceAdd, Nat.reduceLeDiff, reduceCtorEq, Nat.reduceMul, Int.reduceToNat, sV, sU, s1, s2, hb19, hb22, hb25, s3, s4, hb37, hb40, hb43, hb46, hb49]
                   refine aops_val (v := ?v56) rfl ?h56 ?_
                   case h56 => simp only [qq, Nat.reduceBEq, reduceIte, Nat.reduceEqDiff, Nat.reduceAdd, Nat.reduceLeDiff, reduceCtorEq, Nat.reduceMul, Int.reduceToNat, sV, sU, s1, s2, hb19, hb22, hb25, s3, s4, hb37, hb40, hb43, hb46, hb49]; first | (rw [wr_id] <;> omega) | rfl
                   simp only [qq, Nat.reduceBEq, reduceIte, Nat.reduceEqDiff, Nat.reduceAdd, Nat.reduceLeDiff, reduceCtorEq, Nat.reduceMul, Int.reduceToNat, sV, sU, s1, s2, hb19, hb22, hb25, s3, s4, hb37, hb40, hb43, hb46, hb49]
                   refine aops_orunN 3 _ _ ?_
                   simp only [qq, Nat.reduceBEq, reduceIte, Nat.reduceEqDiff, Nat.reduceAdd, Nat.reduceLeDiff, reduceCtorEq, Nat.reduceMul, Int.reduceToNat, sV, sU, s1, s2, hb19, hb22, hb25, s3, s4, hb37, hb40, hb43, hb46, hb49]
                   refine aops_nil (hL54 _ ?_)
                   simp only [qq, Nat.reduceBEq, reduceIte, Nat.reduceEqDiff, Nat.reduceAdd, Nat.reduceLeDiff, reduceCtorEq, Nat.reduceMul, Int.reduceToNat, sV, sU, s1, s2, hb19, hb22, hb25, s3, s4, hb37, hb40, hb43, hb46, hb49]
                   try simp only [rk_state]
                   refine hK53 _ ?_
                   refine awp_seq_k fun K57 hK57 => ?_
                   refine awp_region_lit fun L58 hL58 => ?_
                   refine aops_orunN 2 _ _ ?_
                   simp only [qq, Nat.reduceBEq, reduceIte, Nat.reduceEqDiff, Nat.reduceAdd, Nat.reduceLeDiff, reduceCtorEq, Nat.reduceMul, Int.reduceToNat, sV, sU, s1, s2, hb19, hb22, hb25, s3, s4, hb37, hb40, hb43, hb46, hb49]
                   refine aops_part (b := ?p59) 88 ?h59 (fun hb59 => ?a59) (fun hb59 => ?b59)
                   case h59 => simp only [qq, Nat.reduceBEq, reduceIte, Nat.reduceEqDiff, Nat.reduceAdd, Nat.reduceLeDiff, reduceCtorEq, Nat.reduceMul, Int.reduceToNat, sV, sU, s1, s2, hb19, hb22, hb25, s3, s4, hb37, hb40, hb43, hb46, hb49]; rfl
                   case a59 =>
                    have hp59 := hb59
                    try simp only [kb] at hp59
                    all_goals try exact absurd hb59 (by decide)
                    all_goals try (exfalso; omega)
                    all_goals
                     try simp only [hb59]
                     have hnr := fold_near (v := V) (w := U) (by omega)
                     refine aops_orunN 6 _ _ ?_
                     simp only [qq, Nat.reduceBEq, reduceIte, Nat.reduceEqDiff, Nat.reduceAdd, Nat.reduceLeDiff, reduceCtorEq, Nat.reduceMul, Int.reduceToNat, sV, sU, s1, s2, hb19, hb22, hb25, s3, s4, hb37, hb40, hb43, hb46, hb49, hb59]
                     refine aops_val (v := ?v60) (by simp only [qq, Nat.reduceBEq, reduceIte, Nat.reduceEqDiff, Nat.reduceAdd, Nat.reduceLeDiff, reduceCtorEq, Nat.reduceMul, Int.reduceToNat, sV, sU, s1, s2, hb19, hb22, hb25, s3, s4, hb37, hb40, hb43, hb46, hb49, hb59]) ?h60 ?_
                     case h60 => simp only [qq, Nat.reduceBEq, reduceIte, Nat.reduceEqDiff, Nat.reduceAdd, Nat.reduceLeDiff, reduceCtorEq, Nat.reduceMul, Int.reduceToNat, sV, sU, s1, s2, hb19, hb22, hb25, s3, s4, hb37, hb40, hb43, hb46, hb49, hb59]; first | (rw [wr_id] <;> omega) | rfl
                     simp only [qq, Nat.reduceBEq, reduceIte, Nat.reduceEqDiff, Nat.reduceAdd, Nat.reduceLeDiff, reduceCtorEq, Nat.reduceMul, Int.reduceToNat, sV, sU, s1, s2, hb19, hb22, hb25, s3, s4, hb37, hb40, hb43, hb46, hb49, hb59]
                     refine aops_orunN 2 _ _ ?_
                     simp only [qq, Nat.reduceBEq, reduceIte, Nat.reduceEqDiff, Nat.reduceAdd, Nat.reduceLeDiff, reduceCtorEq, Nat.reduceMul, Int.reduceToNat, sV, sU, s1, s2, hb19, hb22, hb25, s3, s4, hb37, hb40, hb43, hb46, hb49, hb59]
                     refine aops_nil (hL58 _ ?_)
                     simp only [qq, Nat.reduceBEq, reduceIte, Nat.reduceEqDiff, Nat.reduceAdd, Nat.reduceLeDiff, reduceCtorEq, Nat.reduceMul, Int.reduceToNat, sV, sU, s1, s2, hb19, hb22, hb25, s3, s4, hb37, hb40, hb43, hb46, hb49, hb59]
                     try simp only [rk_state]
                     refine hK57 _ ?_
                     as_aux_lemma =>
                      refine awp_cond (t := ?t61) ?h61 (fun hb61 => ?a61) (fun hb61 => ?b61)
                      case h61 => simp only [qq, Nat.reduceBEq, reduceIte, Nat.reduceEqDiff, Nat.reduceAdd, Nat.reduceLeDiff, reduceCtorEq, Nat.reduceMul, Int.reduceToNat, sV, sU, s1, s2, hb19, hb22, hb25, s3, s4, hb37, hb40, hb43, hb46, hb49, hb59]; rfl
                      case a61 =>
                       have hp61 := hb61
                       try simp only [kb] at hp61
                       all_goals try exact absurd hb61 (by decide)
                       all_goals try (exfalso; omega)
                       all_goals
                        refine awp_seq_k fun K62 hK62 => ?_
                        refine awp_region_lit fun L63 hL63 => ?_
                        refine aops_orunN 1 _ _ ?_
                        simp only [qq, Nat.reduceBEq, reduceIte, Nat.reduceEqDiff, Nat.reduceAdd, Nat.reduceLeDiff, reduceCtorEq, Nat.reduceMul, Int.reduceToNat, sV, sU, s1, s2, hb19, hb22, hb25, s3, s4, hb37, hb40, hb43, hb46, hb49, hb59, hb61]
                        refine aops_nil (hL63 _ ?_)
                        simp only [qq, Nat.reduceBEq, reduceIte, Nat.reduceEqDiff, Nat.reduceAdd, Nat.reduceLeDiff, reduceCtorEq, Nat.reduceMul, Int.reduceToNat, sV, sU, s1, s2, hb19, hb22, hb25, s3, s4, hb37, hb40, hb43, hb46, hb49, hb59, hb61]
                        try simp only [rk_state]
                        refine hK62 _ ?_
                        refine awp_ret ?_
                        try simp only [rk_state]
                        refine ⟨_, 0, by simp only [qq, Nat.reduceBEq, reduceIte, Nat.reduceEqDiff, Nat.reduceAdd, Nat.reduceLeDiff, reduceCtorEq, Nat.reduceMul, Int.reduceToNat, resA, Try.results9, sV, sU, s1, s2, hb19, hb22, hb25, s3, s4, hb37, hb40, hb43, hb46, hb49, hb59, hb61]; rfl, ?_, fun l hl => absurd rfl hl, fun l hl => absurd rfl hl⟩
                        simp only [packA]
                        (repeat' (first | exact .nil | exact wkR_c | exact wkR_own | exact wkR_nils | refine wkR_int ?_ | refine wkR_bool ?_ | refine wkR_sl ?_ | refine wkR_osl ?_ | refine wkR_nsl ?_ | refine wkR_oo ?_ | refine wkR_no ?_ | refine .cons ?_ ?_ | refine wkR_agg ?_ | refine wkR_tup ?_))
                      case b61 =>
                       have hp61 := hb61
                       try simp only [kb] at hp61
                       all_goals try exact absurd hb61 (by decide)
                       all_goals try (exfalso; omega)
                       all_goals
                        refine awp_skip ?_
                        try simp only [rk_state]
                        refine hK52 _ ?_
                        refine awp_seq_k fun K64 hK64 => ?_
                        refine awp_region_lit fun L65 hL65 => ?_
                        refine aops_orunN 1 _ _ ?_
                        simp only [qq, Nat.reduceBEq, reduceIte, Nat.reduceEqDiff, Nat.reduceAdd, Nat.reduceLeDiff, reduceCtorEq, Nat.reduceMul, Int.reduceToNat, sV, sU, s1, s2, hb19, hb22, hb25, s3, s4, hb37, hb40, hb43, hb46, hb49, hb59, hb61]
                        refine aops_call_own (ztake_fun _ ?s66_0) rfl rfl rfl rfl (by (try simp only [qq, Nat.reduceBEq, reduceIte, Nat.reduceEqDiff, Nat.reduceAdd, Nat.reduceLeDiff, reduceCtorEq, Nat.reduceMul, Int.reduceToNat, sV, sU, s1, s2, hb19, hb22, hb25, s3, s4, hb37, hb40, hb43, hb46, hb49, hb59, hb61]); (repeat' (first | exact .nil | exact wk_c | exact wk_ownc | exact wk_nilsc | exact wk_nils | exact wk_fn | refine .cons ?_ ?_ | refine wk_agg ?_ | refine wk_fnL ?_))) rfl rfl rfl (by simp only [qq, Nat.reduceBEq, reduceIte, Nat.reduceEqDiff, Nat.reduceAdd, Nat.reduceLeDiff, reduceCtorEq, Nat.reduceMul, Int.reduceToNat, sV, sU, s1, s2, hb19, hb22, hb25, s3, s4, hb37, hb40, hb43, hb46, hb49, hb59, hb61]) ?m66
                        case s66_0 => first | assumption | omega | decide +kernel | (simp only [List.length_take, List.length_drop]; omega)
                        simp only [qq, Nat.reduceBEq, reduceIte, Nat.reduceEqDiff, Nat.reduceAdd, Nat.reduceLeDiff, reduceCtorEq, Nat.reduceMul, Int.reduceToNat, AV.setOwn, AV.setOwn1, sV, sU, s1, s2, hb19, hb22, hb25, s3, s4, hb37, hb40, hb43, hb46, hb49, hb59, hb61]
                        refine aops_orunN 7 _ _ ?_
                        simp only [qq, Nat.reduceBEq, reduceIte, Nat.reduceEqDiff, Nat.reduceAdd, Nat.reduceLeDiff, reduceCtorEq, Nat.reduceMul, Int.reduceToNat, sV, sU, s1, s2, hb19, hb22, hb25, s3, s4, hb37, hb40, hb43, hb46, hb49, hb59, hb61]
                        refine aops_nil (hL65 _ ?_)
                        simp only [qq, Nat.reduceBEq, reduceIte, Nat.reduceEqDiff, Nat.reduceAdd, Nat.reduceLeDiff, reduceCtorEq, Nat.reduceMul, Int.reduceToNat, sV, sU, s1, s2, hb19, hb22, hb25, s3, s4, hb37, hb40, hb43, hb46, hb49, hb59, hb61]
                        try simp only [rk_state]
                        refine hK64 _ ?_
                        refine awp_seq_k fun K67 hK67 => ?_
                        refine awp_seq_k fun K68 hK68 => ?_
                        refine awp_region_lit fun L69 hL69 => ?_
                        refine aops_orunN 2 _ _ ?_
                        simp only [qq, Nat.reduceBEq, reduceIte, Nat.reduceEqDiff, Nat.reduceAdd, Nat.reduceLeDiff, reduceCtorEq, Nat.reduceMul, Int.reduceToNat, sV, sU, s1, s2, hb19, hb22, hb25, s3, s4, hb37, hb40, hb43, hb46, hb49, hb59, hb61]
                        refine aops_nil (hL69 _ ?_)
                        simp only [qq, Nat.reduceBEq, reduceIte, Nat.reduceEqDiff, Nat.reduceAdd, Nat.reduceLeDiff, reduceCtorEq, Nat.reduceMul, Int.reduceToNat, sV, sU, s1, s2, hb19, hb22, hb25, s3, s4, hb37, hb40, hb43, hb46, hb49, hb59, hb61]
                        try simp only [rk_state]
                        refine hK68 _ ?_
                        as_aux_lemma =>
                         refine awp_cond (t := ?t70) ?h70 (fun hb70 => ?a70) (fun hb70 => ?b70)
                         case h70 => simp only [qq, Nat.reduceBEq, reduceIte, Nat.reduceEqDiff, Nat.reduceAdd, Nat.reduceLeDiff, reduceCtorEq, Nat.reduceMul, Int.reduceToNat, sV, sU, s1, s2, hb19, hb22, hb25, s3, s4, hb37, hb40, hb43, hb46, hb49, hb59, hb61]; rfl
                         case a70 =>
                          have hp70 := hb70
                          try simp only [kb] at hp70
                          all_goals try exact absurd hb70 (by decide)
                          all_goals try (exfalso; omega)
                          all_goals
                           refine awp_seq_k fun K71 hK71 => ?_
                           refine awp_region_lit fun L72 hL72 => ?_
                           refine aops_orunN 1 _ _ ?_
                           simp only [qq, Nat.reduceBEq, reduceIte, Nat.reduceEqDiff, Nat.reduceAdd, Nat.reduceLeDiff, reduceCtorEq, Nat.reduceMul, Int.reduceToNat, sV, sU, s1, s2, hb19, hb22, hb25, s3, s4, hb37, hb40, hb43, hb46, hb49, hb59, hb61, hb70]
                           refine aops_nil (hL72 _ ?_)
                           simp only [qq, Nat.reduceBEq, reduceIte, Nat.reduceEqDiff, Nat.reduceAdd, Nat.reduceLeDiff, reduceCtorEq, Nat.reduceMul, Int.reduceToNat, sV, sU, s1, s2, hb19, hb22, hb25, s3, s4, hb37, hb40, hb43, hb46, hb49, hb59, hb61, hb70]
                           try simp only [rk_state]
                           refine hK71 _ ?_
                           refine awp_ret ?_
                           try simp only [rk_state]
                           refine ⟨_, 0, by simp only [qq, Nat.reduceBEq, reduceIte, Nat.reduceEqDiff, Nat.reduceAdd, Nat.reduceLeDiff, reduceCtorEq, Nat.reduceMul, Int.reduceToNat, resA, Try.results9, sV, sU, s1, s2, hb19, hb22, hb25, s3, s4, hb37, hb40, hb43, hb46, hb49, hb59, hb61, hb70]; rfl, ?_, fun l hl => absurd rfl hl, fun l hl => absurd rfl hl⟩
                           simp only [packA]
                           (repeat' (first | exact .nil | exact wkR_c | exact wkR_own | exact wkR_nils | refine wkR_int ?_ | refine wkR_bool ?_ | refine wkR_sl ?_ | refine wkR_osl ?_ | refine wkR_nsl ?_ | refine wkR_oo ?_ | refine wkR_no ?_ | refine .cons ?_ ?_ | refine wkR_agg ?_ | refine wkR_tup ?_))
                         case b70 =>
                          have hp70 := hb70
                          try simp only [kb] at hp70
                          all_goals try exact absurd hb70 (by decide)
                          all_goals try (exfalso; omega)
                          all_goals
                           refine awp_skip ?_
                           try simp only [rk_state]
                           refine hK67 _ ?_
                           refine awp_seq_k fun K73 hK73 => ?_
                           obtain ⟨Z, hZ1, hZ2, hZ3⟩ := zig_again' (l := l) (by omega)
                           have s5 := hZ1
                           have s6 := hZ2
                           refine awp_region_lit fun L74 hL74 => ?_
                           refine aops_orunN 1 _ _ ?_
                           simp only [qq, Nat.reduceBEq, reduceIte, Nat.reduceEqDiff, Nat.reduceAdd, Nat.reduceLeDiff, reduceCtorEq, Nat.reduceMul, Int.reduceToNat, sV, sU, s1, s2, hb19, hb22, hb25, s3, s4, hb37, hb40, hb43, hb46, hb49, hb59, hb61, hb70, s5, s6]
                           refine aops_call_own (zput_fun [] _ (by simp)) rfl rfl rfl rfl (by (try simp only [qq, Nat.reduceBEq, reduceIte, Nat.reduceEqDiff, Nat.reduceAdd, Nat.reduceLeDiff, reduceCtorEq, Nat.reduceMul, Int.reduceToNat, sV, sU, s1, s2, hb19, hb22, hb25, s3, s4, hb37, hb40, hb43, hb46, hb49, hb59, hb61, hb70, s5, s6]); (repeat' (first | exact .nil | exact wk_c | exact wk_ownc | exact wk_nilsc | exact wk_nils | exact wk_fn | refine .cons ?_ ?_ | refine wk_agg ?_ | refine wk_fnL ?_))) rfl rfl rfl (by simp only [qq, Nat.reduceBEq, reduceIte, Nat.reduceEqDiff, Nat.reduceAdd, Nat.reduceLeDiff, reduceCtorEq, Nat.reduceMul, Int.reduceToNat, sV, sU, s1, s2, hb19, hb22, hb25, s3, s4, hb37, hb40, hb43, hb46, hb49, hb59, hb61, hb70, s5, s6]) ?_
                           simp only [qq, Nat.reduceBEq, reduceIte, Nat.reduceEqDiff, Nat.reduceAdd, Nat.reduceLeDiff, reduceCtorEq, Nat.reduceMul, Int.reduceToNat, AV.setOwn, AV.setOwn1, sV, sU, s1, s2, hb19, hb22, hb25, s3, s4, hb37, hb40, hb43, hb46, hb49, hb59, hb61, hb70, s5, s6]
                           refine aops_orunN 5 _ _ ?_
                           simp only [qq, Nat.reduceBEq, reduceIte, Nat.reduceEqDiff, Nat.reduceAdd, Nat.reduceLeDiff, reduceCtorEq, Nat.reduceMul, Int.reduceToNat, sV, sU, s1, s2, hb19, hb22, hb25, s3, s4, hb37, hb40, hb43, hb46, hb49, hb59, hb61, hb70, s5, s6]
                           refine aops_nil (hL74 _ ?_)
                           simp only [qq, Nat.reduceBEq, reduceIte, Nat.reduceEqDiff, Nat.reduceAdd, Nat.reduceLeDiff, reduceCtorEq, Nat.reduceMul, Int.reduceToNat, sV, sU, s1, s2, hb19, hb22, hb25, s3, s4, hb37, hb40, hb43, hb46, hb49, hb59, hb61, hb70, s5, s6]
                           try simp only [rk_state]
                           refine hK73 _ ?_
                           refine awp_seq_k fun K76 hK76 => ?_
                           refine awp_region_lit fun L77 hL77 => ?_
                           refine aops_orunN 3 _ _ ?_
                           simp only [qq, Nat.reduceBEq, reduceIte, Nat.reduceEqDiff, Nat.reduceAdd, Nat.reduceLeDiff, reduceCtorEq, Nat.reduceMul, Int.reduceToNat, sV, sU, s1, s2, hb19, hb22, hb25, s3, s4, hb37, hb40, hb43, hb46, hb49, hb59, hb61, hb70, s5, s6]
                           refine aops_part (b := ?p78) 113 ?h78 (fun hb78 => ?a78) (fun hb78 => ?b78)
                           case h78 => simp only [qq, Nat.reduceBEq, reduceIte, Nat.reduceEqDiff, Nat.reduceAdd, Nat.reduceLeDiff, reduceCtorEq, Nat.reduceMul, Int.reduceToNat, sV, sU, s1, s2, hb19, hb22, hb25, s3, s4, hb37, hb40, hb43, hb46, hb49, hb59, hb61, hb70, s5, s6]; rfl
                           case a78 =>
                            have hp78 := hb78
                            try simp only [kb] at hp78
                            all_goals try exact absurd hb78 (by decide)
                            all_goals try (exfalso; omega)
                            all_goals
                             try simp only [hb78]
                             refine aops_orunN 3 _ _ ?_
                             simp only [qq, Nat.reduceBEq, reduceIte, Nat.reduceEqDiff, Nat.reduceAdd, Nat.reduceLeDiff, reduceCtorEq, Nat.reduceMul, Int.reduceToNat, sV, sU, s1, s2, hb19, hb22, hb25, s3, s4, hb37, hb40, hb43, hb46, hb49, hb59, hb61, hb70, s5, s6, hb78]
                             refine aops_call_own (concat_bool_fun _ ?s79_0 ?s79_1) (by simp only [qq, Nat.reduceBEq, reduceIte, Nat.reduceEqDiff, Nat.reduceAdd, Nat.reduceLeDiff, reduceCtorEq, Nat.reduceMul, Int.reduceToNat, sV, sU, s1, s2, hb19, hb22, hb25, s3, s4, hb37, hb40, hb43, hb46, hb49, hb59, hb61, hb70, s5, s6, hb78]) rfl rfl rfl (by (try simp only [qq, Nat.reduceBEq, reduceIte, Nat.reduceEqDiff, Nat.reduceAdd, Nat.reduceLeDiff, reduceCtorEq, Nat.reduceMul, Int.reduceToNat, sV, sU, s1, s2, hb19, hb22, hb25, s3, s4, hb37, hb40, hb43, hb46, hb49, hb59, hb61, hb70, s5, s6, hb78]); (repeat' (first | exact .nil | exact wk_c | exact wk_ownc | exact wk_nilsc | exact wk_nils | exact wk_fn | refine .cons ?_ ?_ | refine wk_agg ?_ | refine wk_fnL ?_))) rfl rfl rfl (by simp only [qq, Nat.reduceBEq, reduceIte, Nat.reduceEqDiff, Nat.reduceAdd, Nat.reduceLeDiff, reduceCtorEq, Nat.reduceMul, Int.reduceToNat, sV, sU, s1, s2, hb19, hb22, hb25, s3, s4, hb37, hb40, hb43, hb46, hb49, hb59, hb61, hb70, s5, s6, hb78]) ?m79
                             case s79_0 => (simp only [List.length_cons, List.length_nil]; omega)
                             case s79_1 => (first | omega | (simp only [List.flatten_cons, List.flatten_nil, List.append_nil, List.length_append, rwR]; omega))
                             simp only [qq, Nat.reduceBEq, reduceIte, Nat.reduceEqDiff, Nat.reduceAdd, Nat.reduceLeDiff, reduceCtorEq, Nat.reduceMul, Int.reduceToNat, List.flatten_cons, List.flatten_nil, List.append_nil, AV.setOwn, AV.setOwn1, sV, sU, s1, s2, hb19, hb22, hb25, s3, s4, hb37, hb40, hb43, hb46, hb49, hb59, hb61, hb70, s5, s6, hb78]
                             refine aops_orunN 1 _ _ ?_
                             simp only [qq, Nat.reduceBEq, reduceIte, Nat.reduceEqDiff, Nat.reduceAdd, Nat.reduceLeDiff, reduceCtorEq, Nat.reduceMul, Int.reduceToNat, sV, sU, s1, s2, hb19, hb22, hb25, s3, s4, hb37, hb40, hb43, hb46, hb49, hb59, hb61, hb70, s5, s6, hb78]
                             refine aops_call (equal_bool_fun _ _ ?s80_0) (by simp only [qq, Nat.reduceBEq, reduceIte, Nat.reduceEqDiff, Nat.reduceAdd, Nat.reduceLeDiff, reduceCtorEq, Nat.reduceMul, Int.reduceToNat, sV, sU, s1, s2, hb19, hb22, hb25, s3, s4, hb37, hb40, hb43, hb46, hb49, hb59, hb61, hb70, s5, s6, hb78]) rfl rfl rfl (by (try simp only [qq, Nat.reduceBEq, reduceIte, Nat.reduceEqDiff, Nat.reduceAdd, Nat.reduceLeDiff, reduceCtorEq, Nat.reduceMul, Int.reduceToNat, sV, sU, s1, s2, hb19, hb22, hb25, s3, s4, hb37, hb40, hb43, hb46, hb49, hb59, hb61, hb70, s5, s6, hb78]); (repeat' (first | exact .nil | exact wk_c | exact wk_ownc | exact wk_nilsc | exact wk_nils | exact wk_fn | refine .cons ?_ ?_ | refine wk_agg ?_ | refine wk_fnL ?_))) rfl rfl ?m80
                             case s80_0 => first | assumption | omega | decide +kernel | (simp only [List.length_take, List.length_drop]; omega)
                             simp only [qq, Nat.reduceBEq, reduceIte, Nat.reduceEqDiff, Nat.reduceAdd, Nat.reduceLeDiff, reduceCtorEq, Nat.reduceMul, Int.reduceToNat, sV, sU, s1, s2, hb19, hb22, hb25, s3, s4, hb37, hb40, hb43, hb46, hb49, hb59, hb61, hb70, s5, s6, hb78]
                             refine aops_orunN 2 _ _ ?_
                             simp only [qq, Nat.reduceBEq, reduceIte, Nat.reduceEqDiff, Nat.reduceAdd, Nat.reduceLeDiff, reduceCtorEq, Nat.reduceMul, Int.reduceToNat, sV, sU, s1, s2, hb19, hb22, hb25, s3, s4, hb37, hb40, hb43, hb46, hb49, hb59, hb61, hb70, s5, s6, hb78]
                             refine aops_nil (hL77 _ ?_)
                             simp only [qq, Nat.reduceBEq, reduceIte, Nat.reduceEqDiff, Nat.reduceAdd, Nat.reduceLeDiff, reduceCtorEq, Nat.reduceMul, Int.reduceToNat, sV, sU, s1, s2, hb19, hb22, hb25, s3, s4, hb37, hb40, hb43, hb46, hb49, hb59, hb61, hb70, s5, s6, hb78]
                             try simp only [rk_state]
                             refine hK76 _ ?_
                             as_aux_lemma =>
                              refine awp_ret ?_
                              try simp only [rk_state]
                              refine ⟨_, 0, by simp only [qq, Nat.reduceBEq, reduceIte, Nat.reduceEqDiff, Nat.reduceAdd, Nat.reduceLeDiff, reduceCtorEq, Nat.reduceMul, Int.reduceToNat, resA, Try.results9, sV, sU, s1, s2, hb19, hb22, hb25, s3, s4, hb37, hb40, hb43, hb46, hb49, hb59, hb61, hb70, s5, s6, hb78]; rfl, ?_, fun l hl => absurd rfl hl, fun l hl => absurd rfl hl⟩
                              simp only [packA]
                              (repeat' (first | exact .nil | exact wkR_c | exact wkR_own | exact wkR_nils | refine wkR_int ?_ | refine wkR_bool ?_ | refine wkR_sl ?_ | refine wkR_osl ?_ | refine wkR_nsl ?_ | refine wkR_oo ?_ | refine wkR_no ?_ | refine .cons ?_ ?_ | refine wkR_agg ?_ | refine wkR_tup ?_))
                           case b78 =>
                            have hp78 := hb78
                            try simp only [kb] at hp78
                            all_goals try exact absurd hb78 (by decide)
                            all_goals try (exfalso; omega)
                            all_goals
                             try simp only [hb78]
                             refine aops_orunN 8 _ _ ?_
                             simp only [qq, Nat.reduceBEq, reduceIte, Nat.reduceEqDiff, Nat.reduceAdd, Nat.reduceLeDiff, reduceCtorEq, Nat.reduceMul, Int.reduceToNat, sV, sU, s1, s2, hb19, hb22, hb25, s3, s4, hb37, hb40, hb43, hb46, hb49, hb59, hb61, hb70, s5, s6, hb78]
                             refine aops_nil (hL77 _ ?_)
                             simp only [qq, Nat.reduceBEq, reduceIte, Nat.reduceEqDiff, Nat.reduceAdd, Nat.reduceLeDiff, reduceCtorEq, Nat.reduceMul, Int.reduceToNat, sV, sU, s1, s2, hb19, hb22, hb25, s3, s4, hb37, hb40, hb43, hb46, hb49, hb59, hb61, hb70, s5, s6, hb78]
                             try simp only [rk_state]
                             refine hK76 _ ?_
                             refine awp_ret ?_
                             try simp only [rk_state]
                             refine ⟨_, 0, by simp only [qq, Nat.reduceBEq, reduceIte, Nat.reduceEqDiff, Nat.reduceAdd, Nat.reduceLeDiff, reduceCtorEq, Nat.reduceMul, Int.reduceToNat, resA, Try.results9, sV, sU, s1, s2, hb19, hb22, hb25, s3, s4, hb37, hb40, hb43, hb46, hb49, hb59, hb61, hb70, s5, s6, hb78]; rfl, ?_, fun l hl => absurd rfl hl, fun l hl => absurd rfl hl⟩
                             simp only [packA]
                             (repeat' (first | exact .nil | exact wkR_c | exact wkR_own | exact wkR_nils | refine wkR_int ?_ | refine wkR_bool ?_ | refine wkR_sl ?_ | refine wkR_osl ?_ | refine wkR_nsl ?_ | refine wkR_oo ?_ | refine wkR_no ?_ | refine .cons ?_ ?_ | refine wkR_agg ?_ | refine wkR_tup ?_))
                   case b59 =>
                    have hp59 := hb59
                    try simp only [kb] at hp59
                    all_goals try exact absurd hb59 (by decide)
                    all_goals try (exfalso; omega)
                    all_goals
                     try simp only [hb59]
                     refine aops_orunN 9 _ _ ?_
                     simp only [qq, Nat.reduceBEq, reduceIte, Nat.reduceEqDiff, Nat.reduceAdd, Nat.reduceLeDiff, reduceCtorEq, Nat.reduceMul, Int.reduceToNat, sV, sU, s1, s2, hb19, hb22, hb25, s3, s4, hb37, hb40, hb43, hb46, hb49, hb59]
                     refine aops_nil (hL58 _ ?_)
                     simp only [qq, Nat.reduceBEq, reduceIte, Nat.reduceEqDiff, Nat.reduceAdd, Nat.reduceLeDiff, reduceCtorEq, Nat.reduceMul, Int.reduceToNat, sV, sU, s1, s2, hb19, hb22, hb25, s3, s4, hb37, hb40, hb43, hb46, hb49, hb59]
                     try simp only [rk_state]
                     refine hK57 _ ?_
                     refine awp_cond (t := false) (by simp only [qq, Nat.reduceBEq, reduceIte, Nat.reduceEqDiff, Nat.reduceAdd, Nat.reduceLeDiff, reduceCtorEq, Nat.reduceMul, Int.reduceToNat, sV, sU, s1, s2, hb19, hb22, hb25, s3, s4, hb37, hb40, hb43, hb46, hb49, hb59]) (fun h => ?_) (fun _ => ?_)
                     case refine_1 => cases h
                     refine awp_skip ?_
                     try simp only [rk_state]
                     refine hK52 _ ?_
                     refine awp_seq_k fun K81 hK81 => ?_
                     refine awp_region_lit fun L82 hL82 => ?_
                     refine aops_orunN 1 _ _ ?_
                     simp only [qq, Nat.reduceBEq, reduceIte, Nat.reduceEqDiff, Nat.reduceAdd, Nat.reduceLeDiff, reduceCtorEq, Nat.reduceMul, Int.reduceToNat, sV, sU, s1, s2, hb19, hb22, hb25, s3, s4, hb37, hb40, hb43, hb46, hb49, hb59]
                     refine aops_call_own (ztake_fun _ ?s83_0) rfl rfl rfl rfl (by (try simp only [qq, Nat.reduceBEq, reduceIte, Nat.reduceEqDiff, Nat.reduceAdd, Nat.reduceLeDiff, reduceCtorEq, Nat.reduceMul, Int.reduceToNat, sV, sU, s1, s2, hb19, hb22, hb25, s3, s4, hb37, hb40, hb43, hb46, hb49, hb59]); (repeat' (first | exact .nil | exact wk_c | exact wk_ownc | exact wk_nilsc | exact wk_nils | exact wk_fn | refine .cons ?_ ?_ | refine wk_agg ?_ | refine wk_fnL ?_))) rfl rfl rfl (by simp only [qq, Nat.reduceBEq, reduceIte, Nat.reduceEqDiff, Nat.reduceAdd, Nat.reduceLeDiff, reduceCtorEq, Nat.reduceMul, Int.reduceToNat, sV, sU, s1, s2, hb19, hb22, hb25, s3, s4, hb37, hb40, hb43, hb46, hb49, hb59]) ?m83
                     case s83_0 => first | assumption | omega | decide +kernel | (simp only [List.length_take, List.length_drop]; omega)
                     simp only [qq, Nat.reduceBEq, reduceIte, Nat.reduceEqDiff, Nat.reduceAdd, Nat.reduceLeDiff, reduceCtorEq, Nat.reduceMul, Int.reduceToNat, AV.setOwn, AV.setOwn1, sV, sU, s1, s2, hb19, hb22, hb25, s3, s4, hb37, hb40, hb43, hb46, hb49, hb59]
                     refine aops_orunN 7 _ _ ?_
                     simp only [qq, Nat.reduceBEq, reduceIte, Nat.reduceEqDiff, Nat.reduceAdd, Nat.reduceLeDiff, reduceCtorEq, Nat.reduceMul, Int.reduceToNat, sV, sU, s1, s2, hb19, hb22, hb25, s3, s4, hb37, hb40, hb43, hb46, hb49, hb59]
                     refine aops_nil (hL82 _ ?_)
                     simp only [qq, Nat.reduceBEq, reduceIte, Nat.reduceEqDiff, Nat.reduceAdd, Nat.reduceLeDiff, reduceCtorEq, Nat.reduceMul, Int.reduceToNat, sV, sU, s1, s2, hb19, hb22, hb25, s3, s4, hb37, hb40, hb43, hb46, hb49, hb59]
                     try simp only [rk_state]
                     refine hK81 _ ?_
                     refine awp_seq_k fun K84 hK84 => ?_
                     refine awp_seq_k fun K85 hK85 => ?_
                     refine awp_region_lit fun L86 hL86 => ?_
                     refine aops_orunN 2 _ _ ?_
                     simp only [qq, Nat.reduceBEq, reduceIte, Nat.reduceEqDiff, Nat.reduceAdd, Nat.reduceLeDiff, reduceCtorEq, Nat.reduceMul, Int.reduceToNat, sV, sU, s1, s2, hb19, hb22, hb25, s3, s4, hb37, hb40, hb43, hb46, hb49, hb59]
                     refine aops_nil (hL86 _ ?_)
                     simp only [qq, Nat.reduceBEq, reduceIte, Nat.reduceEqDiff, Nat.reduceAdd, Nat.reduceLeDiff, reduceCtorEq, Nat.reduceMul, Int.reduceToNat, sV, sU, s1, s2, hb19, hb22, hb25, s3, s4, hb37, hb40, hb43, hb46, hb49, hb59]
                     try simp only [rk_state]
                     refine hK85 _ ?_
                     refine awp_cond (t := ?t87) ?h87 (fun hb87 => ?a87) (fun hb87 => ?b87)
                     case h87 => simp only [qq, Nat.reduceBEq, reduceIte, Nat.reduceEqDiff, Nat.reduceAdd, Nat.reduceLeDiff, reduceCtorEq, Nat.reduceMul, Int.reduceToNat, sV, sU, s1, s2, hb19, hb22, hb25, s3, s4, hb37, hb40, hb43, hb46, hb49, hb59]; rfl
                     case a87 =>
                      have hp87 := hb87
                      try simp only [kb] at hp87
                      all_goals try exact absurd hb87 (by decide)
                      all_goals try (exfalso; omega)
                      all_goals
                       refine awp_seq_k fun K88 hK88 => ?_
                       refine awp_region_lit fun L89 hL89 => ?_
                       refine aops_orunN 1 _ _ ?_
                       simp only [qq, Nat.reduceBEq, reduceIte, Nat.reduceEqDiff, Nat.reduceAdd, Nat.reduceLeDiff, reduceCtorEq, Nat.reduceMul, Int.reduceToNat, sV, sU, s1, s2, hb19, hb22, hb25, s3, s4, hb37, hb40, hb43, hb46, hb49, hb59, hb87]
                       refine aops_nil (hL89 _ ?_)
                       simp only [qq, Nat.reduceBEq, reduceIte, Nat.reduceEqDiff, Nat.reduceAdd, Nat.reduceLeDiff, reduceCtorEq, Nat.reduceMul, Int.reduceToNat, sV, sU, s1, s2, hb19, hb22, hb25, s3, s4, hb37, hb40, hb43, hb46, hb49, hb59, hb87]
                       try simp only [rk_state]
                       refine hK88 _ ?_
                       as_aux_lemma =>
                        refine awp_ret ?_
                        try simp only [rk_state]
                        refine ⟨_, 0, by simp only [qq, Nat.reduceBEq, reduceIte, Nat.reduceEqDiff, Nat.reduceAdd, Nat.reduceLeDiff, reduceCtorEq, Nat.reduceMul, Int.reduceToNat, resA, Try.results9, sV, sU, s1, s2, hb19, hb22, hb25, s3, s4, hb37, hb40, hb43, hb46, hb49, hb59, hb87]; rfl, ?_, fun l hl => absurd rfl hl, fun l hl => absurd rfl hl⟩
                        simp only [packA]
                        (repeat' (first | exact .nil | exact wkR_c | exact wkR_own | exact wkR_nils | refine wkR_int ?_ | refine wkR_bool ?_ | refine wkR_sl ?_ | refine wkR_osl ?_ | refine wkR_nsl ?_ | refine wkR_oo ?_ | refine wkR_no ?_ | refine .cons ?_ ?_ | refine wkR_agg ?_ | refine wkR_tup ?_))
                     case b87 =>
                      have hp87 := hb87
                      try simp only [kb] at hp87
                      all_goals try exact absurd hb87 (by decide)
                      all_goals try (exfalso; omega)
                      all_goals
                       refine awp_skip ?_
                       try simp only [rk_state]
                       refine hK84 _ ?_
                       refine awp_seq_k fun K90 hK90 => ?_
                       obtain ⟨Z, hZ1, hZ2, hZ3⟩ := zig_again' (l := l) (by omega)
                       have s5 := hZ1
                       have s6 := hZ2
                       refine awp_region_lit fun L91 hL91 => ?_
                       refine aops_orunN 1 _ _ ?_
                       simp only [qq, Nat.reduceBEq, reduceIte, Nat.reduceEqDiff, Nat.reduceAdd, Nat.reduceLeDiff, reduceCtorEq, Nat.reduceMul, Int.reduceToNat, sV, sU, s1, s2, hb19, hb22, hb25, s3, s4, hb37, hb40, hb43, hb46, hb49, hb59, hb87, s5, s6]
                       refine aops_call_own (zput_fun [] _ (by simp)) rfl rfl rfl rfl (by (try simp only [qq, Nat.reduceBEq, reduceIte, Nat.reduceEqDiff, Nat.reduceAdd, Nat.reduceLeDiff, reduceCtorEq, Nat.reduceMul, Int.reduceToNat, sV, sU, s1, s2, hb19, hb22, hb25, s3, s4, hb37, hb40, hb43, hb46, hb49, hb59, hb87, s5, s6]); (repeat' (first | exact .nil | exact wk_c | exact wk_ownc | exact wk_nilsc | exact wk_nils | exact wk_fn | refine .cons ?_ ?_ | refine wk_agg ?_ | refine wk_fnL ?_))) rfl rfl rfl (by simp only [qq, Nat.reduceBEq, reduceIte, Nat.reduceEqDiff, Nat.reduceAdd, Nat.reduceLeDiff, reduceCtorEq, Nat.reduceMul, Int.reduceToNat, sV, sU, s1, s2, hb19, hb22, hb25, s3, s4, hb37, hb40, hb43, hb46, hb49, hb59, hb87, s5, s6]) ?_
                       simp only [qq, Nat.reduceBEq, reduceIte, Nat.reduceEqDiff, Nat.reduceAdd, Nat.reduceLeDiff, reduceCtorEq, Nat.reduceMul, Int.reduceToNat, AV.setOwn, AV.setOwn1, sV, sU, s1, s2, hb19, hb22, hb25, s3, s4, hb37, hb40, hb43, hb46, hb49, hb59, hb87, s5, s6]
                       refine aops_orunN 5 _ _ ?_
                       simp only [qq, Nat.reduceBEq, reduceIte, Nat.reduceEqDiff, Nat.reduceAdd, Nat.reduceLeDiff, reduceCtorEq, Nat.reduceMul, Int.reduceToNat, sV, sU, s1, s2, hb19, hb22, hb25, s3, s4, hb37, hb40, hb43, hb46, hb49, hb59, hb87, s5, s6]
                       refine aops_nil (hL91 _ ?_)
                       simp only [qq, Nat.reduceBEq, reduceIte, Nat.reduceEqDiff, Nat.reduceAdd, Nat.reduceLeDiff, reduceCtorEq, Nat.reduceMul, Int.reduceToNat, sV, sU, s1, s2, hb19, hb22, hb25, s3, s4, hb37, hb40, hb43, hb46, hb49, hb59, hb87, s5, s6]
                       try simp only [rk_state]
                       refine hK90 _ ?_
                       refine awp_seq_k fun K93 hK93 => ?_
                       refine awp_region_lit fun L94 hL94 => ?_
                       refine aops_orunN 3 _ _ ?_
                       simp only [qq, Nat.reduceBEq, reduceIte, Nat.reduceEqDiff, Nat.reduceAdd, Nat.reduceLeDiff, reduceCtorEq, Nat.reduceMul, Int.reduceToNat, sV, sU, s1, s2, hb19, hb22, hb25, s3, s4, hb37, hb40, hb43, hb46, hb49, hb59, hb87, s5, s6]
                       refine aops_part (b := ?p95) 113 ?h95 (fun hb95 => ?a95) (fun hb95 => ?b95)
                       case h95 => simp only [qq, Nat.reduceBEq, reduceIte, Nat.reduceEqDiff, Nat.reduceAdd, Nat.reduceLeDiff, reduceCtorEq, Nat.reduceMul, Int.reduceToNat, sV, sU, s1, s2, hb19, hb22, hb25, s3, s4, hb37, hb40, hb43, hb46, hb49, hb59, hb87, s5, s6]; rfl
                       case a95 =>
                        have hp95 := hb95
                        try simp only [kb] at hp95
                        all_goals try exact absurd hb95 (by decide)
                        all_goals try (exfalso; omega)
                        all_goals
                         try simp only [hb95]
                         refine aops_orunN 3 _ _ ?_
                         simp only [qq, Nat.reduceBEq, reduceIte, Nat.reduceEqDiff, Nat.reduceAdd, Nat.reduceLeDiff, reduceCtorEq, Nat.reduceMul, Int.reduceToNat, sV, sU, s1, s2, hb19, hb22, hb25, s3, s4, hb37, hb40, hb43, hb46, hb49, hb59, hb87, s5, s6, hb95]
                         refine aops_call_own (concat_bool_fun _ ?s96_0 ?s96_1) (by simp only [qq, Nat.reduceBEq, reduceIte, Nat.reduceEqDiff, Nat.reduceAdd, Nat.reduceLeDiff, reduceCtorEq, Nat.reduceMul, Int.reduceToNat, sV, sU, s1, s2, hb19, hb22, hb25, s3, s4, hb37, hb40, hb43, hb46, hb49, hb59, hb87, s5, s6, hb95]) rfl rfl rfl (by (try simp only [qq, Nat.reduceBEq, reduceIte, Nat.reduceEqDiff, Nat.reduceAdd, Nat.reduceLeDiff, reduceCtorEq, Nat.reduceMul, Int.reduceToNat, sV, sU, s1, s2, hb19, hb22, hb25, s3, s4, hb37, hb40, hb43, hb46, hb49, hb59, hb87, s5, s6, hb95]); (repeat' (first | exact .nil | exact wk_c | exact wk_ownc | exact wk_nilsc | exact wk_nils | exact wk_fn | refine .cons ?_ ?_ | refine wk_agg ?_ | refine wk_fnL ?_))) rfl rfl rfl (by simp only [qq, Nat.reduceBEq, reduceIte, Nat.reduceEqDiff, Nat.reduceAdd, Nat.reduceLeDiff, reduceCtorEq, Nat.reduceMul, Int.reduceToNat, sV, sU, s1, s2, hb19, hb22, hb25, s3, s4, hb37, hb40, hb43, hb46, hb49, hb59, hb87, s5, s6, hb95]) ?m96
                         case s96_0 => (simp only [List.length_cons, List.length_nil]; omega)
                         case s96_1 => (first | omega | (simp only [List.flatten_cons, List.flatten_nil, List.append_nil, List.length_append, rwR]; omega))
                         simp only [qq, Nat.reduceBEq, reduceIte, Nat.reduceEqDiff, Nat.reduceAdd, Nat.reduceLeDiff, reduceCtorEq, Nat.reduceMul, Int.reduceToNat, List.flatten_cons, List.flatten_nil, List.append_nil, AV.setOwn, AV.setOwn1, sV, sU, s1, s2, hb19, hb22, hb25, s3, s4, hb37, hb40, hb43, hb46, hb49, hb59, hb87, s5, s6, hb95]
                         refine aops_orunN 1 _ _ ?_
                         simp only [qq, Nat.reduceBEq, reduceIte, Nat.reduceEqDiff, Nat.reduceAdd, Nat.reduceLeDiff, reduceCtorEq, Nat.reduceMul, Int.reduceToNat, sV, sU, s1, s2, hb19, hb22, hb25, s3, s4, hb37, hb40, hb43, hb46, hb49, hb59, hb87, s5, s6, hb95]
                         refine aops_call (equal_bool_fun _ _ ?s97_0) (by simp only [qq, Nat.reduceBEq, reduceIte, Nat.reduceEqDiff, Nat.reduceAdd, Nat.reduceLeDiff, reduceCtorEq, Nat.reduceMul, Int.reduceToNat, sV, sU, s1, s2, hb19, hb22, hb25, s3, s4, hb37, hb40, hb43, hb46, hb49, hb59, hb87, s5, s6, hb95]) rfl rfl rfl (by (try simp only [qq, Nat.reduceBEq, reduceIte, Nat.reduceEqDiff, Nat.reduceAdd, Nat.reduceLeDiff, reduceCtorEq, Nat.reduceMul, Int.reduceToNat, sV, sU, s1, s2, hb19, hb22, hb25, s3, s4, hb37, hb40, hb43, hb46, hb49, hb59, hb87, s5, s6, hb95]); (repeat' (first | exact .nil | exact wk_c | exact wk_ownc | exact wk_nilsc | exact wk_nils | exact wk_fn | refine .cons ?_ ?_ | refine wk_agg ?_ | refine wk_fnL ?_))) rfl rfl ?m97
                         case s97_0 => first | assumption | omega | decide +kernel | (simp only [List.length_take, List.length_drop]; omega)
                         simp only [qq, Nat.reduceBEq, reduceIte, Nat.reduceEqDiff, Nat.reduceAdd, Nat.reduceLeDiff, reduceCtorEq, Nat.reduceMul, Int.reduceToNat, sV, sU, s1, s2, hb19, hb22, hb25, s3, s4, hb37, hb40, hb43, hb46, hb49, hb59, hb87, s5, s6, hb95]
                         refine aops_orunN 2 _ _ ?_
                         simp only [qq, Nat.reduceBEq, reduceIte, Nat.reduceEqDiff, Nat.reduceAdd, Nat.reduceLeDiff, reduceCtorEq, Nat.reduceMul, Int.reduceToNat, sV, sU, s1, s2, hb19, hb22, hb25, s3, s4, hb37, hb40, hb43, hb46, hb49, hb59, hb87, s5, s6, hb95]
                         refine aops_nil (hL94 _ ?_)
                         simp only [qq, Nat.reduceBEq, reduceIte, Nat.reduceEqDiff, Nat.reduceAdd, Nat.reduceLeDiff, reduceCtorEq, Nat.reduceMul, Int.reduceToNat, sV, sU, s1, s2, hb19, hb22, hb25, s3, s4, hb37, hb40, hb43, hb46, hb49, hb59, hb87, s5, s6, hb95]
                         try simp only [rk_state]
                         refine hK93 _ ?_
                         refine awp_ret ?_
                         try simp only [rk_state]
                         refine ⟨_, 0, by simp only [qq, Nat.reduceBEq, reduceIte, Nat.reduceEqDiff, Nat.reduceAdd, Nat.reduceLeDiff, reduceCtorEq, Nat.reduceMul, Int.reduceToNat, resA, Try.results9, sV, sU, s1, s2, hb19, hb22, hb25, s3, s4, hb37, hb40, hb43, hb46, hb49, hb59, hb87, s5, s6, hb95]; rfl, ?_, fun l hl => absurd rfl hl, fun l hl => absurd rfl hl⟩
                         simp only [packA]
                         (repeat' (first | exact .nil | exact wkR_c | exact wkR_own | exact wkR_nils | refine wkR_int ?_ | refine wkR_bool ?_ | refine wkR_sl ?_ | refine wkR_osl ?_ | refine wkR_nsl ?_ | refine wkR_oo ?_ | refine wkR_no ?_ | refine .cons ?_ ?_ | refine wkR_agg ?_ | refine wkR_tup ?_))
                       case b95 =>
                        have hp95 := hb95
                        try simp only [kb] at hp95
                        all_goals try exact absurd hb95 (by decide)
                        all_goals try (exfalso; omega)
                        all_goals
                         try simp only [hb95]
                         refine aops_orunN 8 _ _ ?_
                         simp only [qq, Nat.reduceBEq, reduceIte, Nat.reduceEqDiff, Nat.reduceAdd, Nat.reduceLeDiff, reduceCtorEq, Nat.reduceMul, Int.reduceToNat, sV, sU, s1, s2, hb19, hb22, hb25, s3, s4, hb37, hb40, hb43, hb46, hb49, hb59, hb87, s5, s6, hb95]
                         refine aops_nil (hL94 _ ?_)
                         simp only [qq, Nat.reduceBEq, reduceIte, Nat.reduceEqDiff, Nat.reduceAdd, Nat.reduceLeDiff, reduceCtorEq, Nat.reduceMul, Int.reduceToNat, sV, sU, s1, s2, hb19, hb22, hb25, s3, s4, hb37, hb40, hb43, hb46, hb49, hb59, hb87, s5, s6, hb95]
                         try simp only [rk_state]
                         refine hK93 _ ?_
                         refine awp_ret ?_
                         try simp only [rk_state]
                         refine ⟨_, 0, by simp only [qq, Nat.reduceBEq, reduceIte, Nat.reduceEqDiff, Nat.reduceAdd, Nat.reduceLeDiff, reduceCtorEq, Nat.reduceMul, Int.reduceToNat, resA, Try.results9, sV, sU, s1, s2, hb19, hb22, hb25, s3, s4, hb37, hb40, hb43, hb46, hb49, hb59, hb87, s5, s6, hb95]; rfl, ?_, fun l hl => absurd rfl hl, fun l hl => absurd rfl hl⟩
                         simp only [packA]
                         (repeat' (first | exact .nil | exact wkR_c | exact wkR_own | exact wkR_nils | refine wkR_int ?_ | refine wkR_bool ?_ | refine wkR_sl ?_ | refine wkR_osl ?_ | refine wkR_nsl ?_ | refine wkR_oo ?_ | refine wkR_no ?_ | refine .cons ?_ ?_ | refine wkR_agg ?_ | refine wkR_tup ?_))
end Go.Proofs.Y
