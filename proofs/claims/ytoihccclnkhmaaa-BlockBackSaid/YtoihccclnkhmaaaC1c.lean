/-
  What is proved: slices.Grow of nothing, and Concat. Conditions: none.
-/
import Derived.Test.YtoihccclnkhmaaaTy
import Derived.Test.YtoihccclnkhmaaaPA
set_option linter.unusedVariables false
set_option linter.unusedSimpArgs false
set_option maxRecDepth 4000
namespace Go.Proofs.Y
open Go.Rb
theorem flat_next {rs : List (List (List C))} {i : Nat} (h : i < rs.length) : (rs.take (i + 1)).flatten = (rs.take i).flatten ++ rs.getD i default := by
  rw [take_next h]; simp
theorem flat_le {rs : List (List (List C))} (i : Nat) : (rs.take i).flatten.length ≤ rs.flatten.length := by
  have h : (rs.take i).flatten ++ (rs.drop i).flatten = rs.flatten := by rw [← List.flatten_append, List.take_append_drop]
  rw [← h, List.length_append]; omega
theorem cp_bool : ycap Try.prog 36 .nils = some (.c (.int .i64 0)) := by simp [ycap, un36]
set_option maxHeartbeats 4000000 in
set_option maxRecDepth 50000 in
theorem grow_bool_fun (n : Int) (h0 : 0 ≤ n) (h1 : n * 1 ≤ 140737488355328) : Fun Try.prog 96 [.nils, .c (.int .i64 n)] nomem (.own false 0 4 []) nomem := by
 refine fun_of_awp Try.func96 rfl (by decide +kernel) (by decide +kernel) (Nat.le_of_ble_eq_true rfl) (fun _ _ => rfl) (fun _ _ => rfl) ?_
 refine seq_reg 1 fun L1 hL1 => ?_
 simp only [qq, seval, -Nat.reducePow, reduceIte, reduceCtorEq, cp_bool]
 refine nil_z hL1 ?_
 refine awp_seq_k fun K2 hK2 => ?_
 refine seq_reg 2 fun L3 hL3 => ?_
 simp only [qq, seval, -Nat.reducePow, reduceIte, reduceCtorEq, cp_bool]
 refine nil_z hL3 ?_
 refine awp_cond (t := ?t4) ?h4 (fun hb4 => ?a4) (fun hb4 => ?b4)
 case h4 => simp only [qq, seval, -Nat.reducePow, reduceIte, reduceCtorEq, cp_bool]; rfl
 case a4 =>
  first | exact absurd hb4 (by decide) | (have hp4 := hb4; (try simp only [kb] at hp4); exfalso; omega)
 case b4 =>
  have hp4 := hb4
  try simp only [kb] at hp4
  refine awp_skip ?_
  refine hK2 _ ?_
  refine awp_seq_k fun K5 hK5 => ?_
  refine seq_reg 5 fun L6 hL6 => ?_
  simp only [qq, seval, -Nat.reducePow, reduceIte, reduceCtorEq, cp_bool, hb4]
  refine aops_val (v := ?v7) rfl ?h7 ?_
  case h7 => simp only [qq, seval, -Nat.reducePow, reduceIte, reduceCtorEq, cp_bool, hb4]; first | (rw [wr_id] <;> omega) | rfl
  simp only [qq, seval, -Nat.reducePow, reduceIte, reduceCtorEq, cp_bool, hb4]
  refine aops_val (v := ?v8) rfl ?h8 ?_
  case h8 => simp only [qq, seval, -Nat.reducePow, reduceIte, reduceCtorEq, cp_bool, hb4]; first | (rw [wr_id] <;> omega) | rfl
  simp only [qq, seval, -Nat.reducePow, reduceIte, reduceCtorEq, cp_bool, hb4]
  refine aops_orunN 1 _ _ ?_
  simp only [qq, seval, -Nat.reducePow, reduceIte, reduceCtorEq, cp_bool, hb4]
  refine nil_z hL6 ?_
  as_aux_lemma =>
   refine seq_reg 2 fun L9 hL9 => ?_
   simp only [qq, seval, -Nat.reducePow, reduceIte, reduceCtorEq, cp_bool, hb4]
   refine nil_z hL9 ?_
   refine awp_cond (t := ?t10) ?h10 (fun hb10 => ?a10) (fun hb10 => ?b10)
   case h10 => simp only [qq, seval, -Nat.reducePow, reduceIte, reduceCtorEq, cp_bool, hb4]; rfl
   case a10 =>
    have hp10 := hb10
    try simp only [kb] at hp10
    refine reg 3 fun L11 hL11 => ?_
    simp only [qq, seval, -Nat.reducePow, reduceIte, reduceCtorEq, cp_bool, hb4, hb10]
    refine aops_nil0 (k := .i64) un36 if4 rfl rfl ?x12 ?y12 ?_
    case x12 => simp only [qq, seval, -Nat.reducePow, reduceIte, reduceCtorEq, cp_bool, hb4, hb10]
    case y12 => (simp only [qq, seval, -Nat.reducePow, reduceIte, reduceCtorEq, cp_bool, hb4, hb10] <;> rfl)
    simp only [qq, seval, -Nat.reducePow, reduceIte, reduceCtorEq, cp_bool, hb4, hb10]
    refine aops_orunN 1 _ _ ?_
    simp only [qq, seval, -Nat.reducePow, reduceIte, reduceCtorEq, cp_bool, hb4, hb10]
    refine aops_zeros (k := ?k13) (n := ?n13) 2022 un36 un3 (by simp only [tyf]; rfl) (by simp only [tyf]; rfl) (by simp only [tyf]; decide) rfl rfl rfl rfl rfl (by decide) ?m13 ?x13 ?y13 ?p13 ?b13 ?u13 ?_
    case m13 => simp only [qq, seval, -Nat.reducePow, reduceIte, reduceCtorEq, cp_bool, hb4, hb10]
    case x13 => simp only [qq, seval, -Nat.reducePow, reduceIte, reduceCtorEq, cp_bool, hb4, hb10]
    case y13 => (simp only [qq, seval, -Nat.reducePow, reduceIte, reduceCtorEq, cp_bool, hb4, hb10] <;> rfl)
    case p13 => omega
    case b13 => (simp only [tyf]; omega)
    case u13 => omega
    simp only [qq, seval, -Nat.reducePow, reduceIte, reduceCtorEq, cp_bool, hb4, hb10]
    refine aops_orunN 2 _ _ ?_
    simp only [qq, seval, -Nat.reducePow, reduceIte, reduceCtorEq, cp_bool, hb4, hb10]
    refine aops_slice0 (l0 := ?la14) (len := ?lb14) (cap := ?lc14) (k := ?k14) (q := ?qq14) un36 if4 rfl rfl rfl (by simp only [qq, seval, -Nat.reducePow, reduceIte, reduceCtorEq, cp_bool, hb4, hb10]) ?l14 ?x14 ?y14 ?q14 ?_
    case x14 => (simp only [qq, seval, -Nat.reducePow, reduceIte, reduceCtorEq, cp_bool, hb4, hb10]; rfl)
    case y14 => (simp only [qq, seval, -Nat.reducePow, reduceIte, reduceCtorEq, cp_bool, hb4, hb10] <;> rfl)
    case l14 => decide
    case q14 => rfl
    simp only [qq, seval, -Nat.reducePow, reduceIte, reduceCtorEq, cp_bool, hb4, hb10]
    refine aops_orunN 1 _ _ ?_
    simp only [qq, seval, -Nat.reducePow, reduceIte, reduceCtorEq, cp_bool, hb4, hb10]
    refine aops_nil (hL11 _ ?_)
    simp only [qq, seval, -Nat.reducePow, reduceIte, reduceCtorEq, cp_bool, hb4, hb10]
    refine hK5 _ ?_
    refine seq_reg 2 fun L15 hL15 => ?_
    simp only [qq, seval, -Nat.reducePow, reduceIte, reduceCtorEq, cp_bool, hb4, hb10]
    refine nil_z hL15 ?_
    as_aux_lemma =>
     refine awp_ret ?_
     try simp only [rk_state]
     refine ⟨_, 25, by simp only [qq, seval, -Nat.reducePow, reduceIte, reduceCtorEq, resA, Try.results96, cp_bool, hb4, hb10]; rfl, ?_, nomem_a, nomem_a⟩
     simp only [packA]
     first | exact wkR_nilsown | ((repeat' (first | exact .nil | exact wkR_c | exact wkR_own | exact wkR_nils | refine wkR_int ?_ | refine wkR_bool ?_ | refine wkR_sl ?_ | refine wkR_osl ?_ | refine wkR_nsl ?_ | refine wkR_oo ?_ | refine wkR_no ?_ | refine .cons ?_ ?_ | refine wkR_agg ?_ | refine wkR_tup ?_)) <;> simp_all)
   case b10 =>
    have hp10 := hb10
    try simp only [kb] at hp10
    refine awp_skip ?_
    refine hK5 _ ?_
    refine seq_reg 2 fun L16 hL16 => ?_
    simp only [qq, seval, -Nat.reducePow, reduceIte, reduceCtorEq, cp_bool, hb4, hb10]
    refine nil_z hL16 ?_
    refine awp_ret ?_
    try simp only [rk_state]
    refine ⟨_, 25, by simp only [qq, seval, -Nat.reducePow, reduceIte, reduceCtorEq, resA, Try.results96, cp_bool, hb4, hb10]; rfl, ?_, nomem_a, nomem_a⟩
    simp only [packA]
    first | exact wkR_nilsown | ((repeat' (first | exact .nil | exact wkR_c | exact wkR_own | exact wkR_nils | refine wkR_int ?_ | refine wkR_bool ?_ | refine wkR_sl ?_ | refine wkR_osl ?_ | refine wkR_nsl ?_ | refine wkR_oo ?_ | refine wkR_no ?_ | refine .cons ?_ ?_ | refine wkR_agg ?_ | refine wkR_tup ?_)) <;> simp_all)
theorem lr_bool : ∀ rows : List (List C), ylen Try.prog 36 (.c (.sl 4 rows)) = some (.c (.int .i64 (rows.length : Int))) := fun rows => by simp [ylen, un36, AV.rows]
set_option maxHeartbeats 4000000 in
set_option maxRecDepth 50000 in
theorem concat_bool_fun (rs : List (List (List C))) (hr : rs.length ≤ 1000000) (h1 : rs.flatten.length * 1 ≤ 140737488355328) : Fun Try.prog 38 [.c (.sl 36 (Rw (slC 4) rs))] nomem (.own false 0 4 rs.flatten) nomem := by
 refine fun_of_awp Try.func38 rfl (by decide +kernel) (by decide +kernel) (Nat.le_of_ble_eq_true rfl) (fun _ _ => rfl) (fun _ _ => rfl) ?_
 refine seq_reg 1 fun L1 hL1 => ?_
 simp only [qq, seval, -Nat.reducePow, reduceIte, reduceCtorEq, lr_bool]
 refine nil_z hL1 ?_
 refine seq_reg 1 fun L2 hL2 => ?_
 simp only [qq, seval, -Nat.reducePow, reduceIte, reduceCtorEq, lr_bool]
 refine nil_z hL2 ?_
 refine awp_seq_k fun K3 hK3 => ?_
 refine seq_reg 3 fun L4 hL4 => ?_
 simp only [qq, seval, -Nat.reducePow, reduceIte, reduceCtorEq, lr_bool]
 refine nil_z hL4 ?_
 as_aux_lemma =>
  refine awp_block ?_
  refine awp_loopW (W := [12, 13, 14, 5, 15, 16, 17, 18, 3, 19, 20, 21, 22, 11]) (M := []) rfl rfl (fun kk s => ∃ (i : Nat), kk = rs.length - i ∧ (i ≤ rs.length) ∧ s.t 3 = .c (.int .i64 ((rs.take i).flatten.length : Int)) ∧ s.t 11 = .c (.int .i64 (i : Int))) ((fun (i : Nat) => rs.length - i) (0)) ?i5 ?r5
  case i5 =>
   refine ⟨0, rfl, ?_, ?_, ?_⟩
   · first | omega | simp
   · (try simp only [qq, seval, -Nat.reducePow, reduceIte, reduceCtorEq, lr_bool])
     all_goals (first | done | rfl | (simp only [AV.c.injEq, C.int.injEq, List.cons.injEq, and_true, true_and]; omega))
   · (try simp only [qq, seval, -Nat.reducePow, reduceIte, reduceCtorEq, lr_bool])
     all_goals (first | done | rfl | (simp only [AV.c.injEq, C.int.injEq, List.cons.injEq, and_true, true_and]; omega))
  case r5 =>
   rintro kk s hf ⟨i, rfl, hq3_0, s5t3, s5t11⟩ K5 hK5
   have s5f0 := hf 0 rfl (by (try simp only [qq, seval, -Nat.reducePow, reduceIte, reduceCtorEq, kn, lr_bool]); all_goals rfl)
   simp only [qq, seval, -Nat.reducePow, reduceIte, reduceCtorEq, lr_bool] at s5f0
   have s5f2 := hf 2 rfl (by (try simp only [qq, seval, -Nat.reducePow, reduceIte, reduceCtorEq, kn, lr_bool]); all_goals rfl)
   simp only [qq, seval, -Nat.reducePow, reduceIte, reduceCtorEq, lr_bool] at s5f2
   have s5f9 := hf 9 rfl (by (try simp only [qq, seval, -Nat.reducePow, reduceIte, reduceCtorEq, kn, lr_bool]); all_goals rfl)
   simp only [qq, seval, -Nat.reducePow, reduceIte, reduceCtorEq, lr_bool] at s5f9
   have s5f10 := hf 10 rfl (by (try simp only [qq, seval, -Nat.reducePow, reduceIte, reduceCtorEq, kn, lr_bool]); all_goals rfl)
   simp only [qq, seval, -Nat.reducePow, reduceIte, reduceCtorEq, lr_bool] at s5f10
   clear hf
   refine seq_reg 1 fun L6 hL6 => ?_
   simp only [qq, seval, -Nat.reducePow, reduceIte, reduceCtorEq, lr_bool, s5t3, s5t11, s5f0, s5f2, s5f9, s5f10]
   refine nil_z hL6 ?_
   refine awp_seq_k fun K7 hK7 => ?_
   refine awp_cond (t := ?t8) ?h8 (fun hb8 => ?a8) (fun hb8 => ?b8)
   case h8 => simp only [qq, seval, -Nat.reducePow, reduceIte, reduceCtorEq, lr_bool, s5t3, s5t11, s5f0, s5f2, s5f9, s5f10]; rfl
   case a8 =>
    have hp8 := hb8
    try simp only [kb] at hp8
    refine awp_skip ?_
    refine hK7 _ ?_
    refine awp_seq_k fun K9 hK9 => ?_
    refine awp_block ?_
    have hfn := flat_next (rs := rs) (i := i) (by omega)
    have hfl := flat_le (rs := rs) (i + 1)
    have hfe := congrArg List.length hfn
    rw [List.length_append] at hfe
    refine seq_reg0 fun L10 hL10 => ?_
    refine aops_val (v := ?v11) rfl ?h11 ?_
    case h11 => simp only [qq, seval, -Nat.reducePow, reduceIte, reduceCtorEq, lr_bool, s5t3, s5t11, s5f0, s5f2, s5f9, s5f10, hb8]; first | (rw [idx_c un116 if36] <;> omega) | (rw [idx_o un116 if36] <;> omega) | (rw [idx_a un116 if36] <;> omega)
    simp only [qq, seval, -Nat.reducePow, reduceIte, reduceCtorEq, lr_bool, s5t3, s5t11, s5f0, s5f2, s5f9, s5f10, hb8]
    refine aops_orunN 2 _ _ ?_
    simp only [qq, seval, -Nat.reducePow, reduceIte, reduceCtorEq, lr_bool, s5t3, s5t11, s5f0, s5f2, s5f9, s5f10, hb8]
    refine nil_z hL10 ?_
    refine seq_reg 3 fun L12 hL12 => ?_
    simp only [qq, seval, -Nat.reducePow, reduceIte, reduceCtorEq, lr_bool, s5t3, s5t11, s5f0, s5f2, s5f9, s5f10, hb8]
    refine aops_val (v := ?v13) rfl ?h13 ?_
    case h13 => simp only [qq, seval, -Nat.reducePow, reduceIte, reduceCtorEq, lr_bool, s5t3, s5t11, s5f0, s5f2, s5f9, s5f10, hb8]; first | (rw [wr_id] <;> omega) | rfl
    simp only [qq, seval, -Nat.reducePow, reduceIte, reduceCtorEq, lr_bool, s5t3, s5t11, s5f0, s5f2, s5f9, s5f10, hb8]
    refine aops_orunN 1 _ _ ?_
    simp only [qq, seval, -Nat.reducePow, reduceIte, reduceCtorEq, lr_bool, s5t3, s5t11, s5f0, s5f2, s5f9, s5f10, hb8]
    refine nil_z hL12 ?_
    as_aux_lemma =>
     refine seq_reg 2 fun L14 hL14 => ?_
     simp only [qq, seval, -Nat.reducePow, reduceIte, reduceCtorEq, lr_bool, s5t3, s5t11, s5f0, s5f2, s5f9, s5f10, hb8]
     refine nil_z hL14 ?_
     refine awp_cond (t := ?t15) ?h15 (fun hb15 => ?a15) (fun hb15 => ?b15)
     case h15 => simp only [qq, seval, -Nat.reducePow, reduceIte, reduceCtorEq, lr_bool, s5t3, s5t11, s5f0, s5f2, s5f9, s5f10, hb8]; rfl
     case a15 =>
      first | exact absurd hb15 (by decide) | (have hp15 := hb15; (try simp only [kb] at hp15); exfalso; omega)
     case b15 =>
      have hp15 := hb15
      try simp only [kb] at hp15
      refine awp_skip ?_
      try simp only [rk_state]
      refine hK9 _ ?_
      refine reg 0 fun L16 hL16 => ?_
      simp only [qq, seval, -Nat.reducePow, reduceIte, reduceCtorEq, lr_bool, s5t3, s5t11, s5f0, s5f2, s5f9, s5f10, hb8, hb15]
      refine aops_val (v := ?v17) rfl ?h17 ?_
      case h17 => simp only [qq, seval, -Nat.reducePow, reduceIte, reduceCtorEq, lr_bool, s5t3, s5t11, s5f0, s5f2, s5f9, s5f10, hb8, hb15]; first | (rw [wr_id] <;> omega) | rfl
      simp only [qq, seval, -Nat.reducePow, reduceIte, reduceCtorEq, lr_bool, s5t3, s5t11, s5f0, s5f2, s5f9, s5f10, hb8, hb15]
      refine aops_orunN 1 _ _ ?_
      simp only [qq, seval, -Nat.reducePow, reduceIte, reduceCtorEq, lr_bool, s5t3, s5t11, s5f0, s5f2, s5f9, s5f10, hb8, hb15]
      refine nil_q hL16 ?_
      try simp only [rk_state]
      refine hK5 _ ((fun (i : Nat) => rs.length - i) (i + 1)) ?_ ⟨i + 1, rfl, ?_, ?_, ?_⟩
      · (try simp only []); omega
      · first | omega | simp
      · (try simp only [qq, seval, -Nat.reducePow, reduceIte, reduceCtorEq, lr_bool, s5t3, s5t11, s5f0, s5f2, s5f9, s5f10, hb8, hb15])
        all_goals (first | done | rfl | (simp only [AV.c.injEq, C.int.injEq, List.cons.injEq, and_true, true_and]; omega))
      · (try simp only [qq, seval, -Nat.reducePow, reduceIte, reduceCtorEq, lr_bool, s5t3, s5t11, s5f0, s5f2, s5f9, s5f10, hb8, hb15])
        all_goals (first | done | rfl | (simp only [AV.c.injEq, C.int.injEq, List.cons.injEq, and_true, true_and]; omega))
   case b8 =>
    have hp8 := hb8
    try simp only [kb] at hp8
    refine awp_exit ?_
    simp only [rk_state, reduceIte, Nat.reduceEqDiff]
    refine hK3 _ ?_
    have hfl := flat_le (rs := rs) i
    refine seq_reg 1 fun L18 hL18 => ?_
    simp only [qq, seval, -Nat.reducePow, reduceIte, reduceCtorEq, lr_bool, s5t3, s5t11, s5f0, s5f2, s5f9, s5f10, hb8]
    refine aops_call_own (grow_bool_fun _ ?s19_0 ?s19_1) rfl rfl rfl rfl (by (try simp only [qq, seval, -Nat.reducePow, reduceIte, reduceCtorEq, lr_bool, s5t3, s5t11, s5f0, s5f2, s5f9, s5f10, hb8]); (repeat' (first | exact .nil | exact wk_c | exact wk_ownc | exact wk_nilsc | exact wk_nils | exact wk_fn | refine .cons ?_ ?_ | refine wk_agg ?_ | refine wk_fnL ?_))) rfl rfl rfl (by simp only [qq, seval, -Nat.reducePow, reduceIte, reduceCtorEq, lr_bool, s5t3, s5t11, s5f0, s5f2, s5f9, s5f10, hb8]) ?m19
    case s19_0 => omega
    case s19_1 => omega
    simp only [qq, seval, -Nat.reducePow, reduceIte, reduceCtorEq, AV.setOwn, AV.setOwn1, lr_bool, s5t3, s5t11, s5f0, s5f2, s5f9, s5f10, hb8]
    refine aops_orunN 1 _ _ ?_
    simp only [qq, seval, -Nat.reducePow, reduceIte, reduceCtorEq, lr_bool, s5t3, s5t11, s5f0, s5f2, s5f9, s5f10, hb8]
    refine aops_nil (hL18 _ ?_)
    simp only [qq, seval, -Nat.reducePow, reduceIte, reduceCtorEq, lr_bool, s5t3, s5t11, s5f0, s5f2, s5f9, s5f10, hb8]
    as_aux_lemma =>
     refine awp_seq_k fun K20 hK20 => ?_
     refine seq_reg 3 fun L21 hL21 => ?_
     simp only [qq, seval, -Nat.reducePow, reduceIte, reduceCtorEq, lr_bool, s5t3, s5t11, s5f0, s5f2, s5f9, s5f10, hb8]
     refine nil_z hL21 ?_
     refine awp_block ?_
     refine awp_loopW (W := [28, 29, 30, 8, 31, 32, 33, 6, 34, 27]) (M := []) rfl rfl (fun kk s => ∃ (i : Nat) (d : Nat), kk = rs.length - i ∧ (i ≤ rs.length) ∧ s.t 6 = .own false d 4 (rs.take i).flatten ∧ s.t 27 = .c (.int .i64 (i : Int))) ((fun (i : Nat) (d : Nat) => rs.length - i) (0) (24)) ?i22 ?r22
     case i22 =>
      refine ⟨0, 24, rfl, ?_, ?_, ?_⟩
      · first | omega | simp
      · (try simp only [qq, seval, -Nat.reducePow, reduceIte, reduceCtorEq, lr_bool, s5t3, s5t11, s5f0, s5f2, s5f9, s5f10, hb8])
        all_goals (first | done | rfl | (simp only [AV.c.injEq, C.int.injEq, List.cons.injEq, and_true, true_and]; omega))
      · (try simp only [qq, seval, -Nat.reducePow, reduceIte, reduceCtorEq, lr_bool, s5t3, s5t11, s5f0, s5f2, s5f9, s5f10, hb8])
        all_goals (first | done | rfl | (simp only [AV.c.injEq, C.int.injEq, List.cons.injEq, and_true, true_and]; omega))
     case r22 =>
      rintro kk s hf ⟨i, d, rfl, hq11_0, s22t6, s22t27⟩ K22 hK22
      have s22f2 := hf 2 rfl (by (try simp only [qq, seval, -Nat.reducePow, reduceIte, reduceCtorEq, kn, lr_bool, s5t3, s5t11, s5f0, s5f2, s5f9, s5f10, hb8]); all_goals rfl)
      simp only [qq, seval, -Nat.reducePow, reduceIte, reduceCtorEq, lr_bool, s5t3, s5t11, s5f0, s5f2, s5f9, s5f10, hb8] at s22f2
      have s22f25 := hf 25 rfl (by (try simp only [qq, seval, -Nat.reducePow, reduceIte, reduceCtorEq, kn, lr_bool, s5t3, s5t11, s5f0, s5f2, s5f9, s5f10, hb8]); all_goals rfl)
      simp only [qq, seval, -Nat.reducePow, reduceIte, reduceCtorEq, lr_bool, s5t3, s5t11, s5f0, s5f2, s5f9, s5f10, hb8] at s22f25
      have s22f26 := hf 26 rfl (by (try simp only [qq, seval, -Nat.reducePow, reduceIte, reduceCtorEq, kn, lr_bool, s5t3, s5t11, s5f0, s5f2, s5f9, s5f10, hb8]); all_goals rfl)
      simp only [qq, seval, -Nat.reducePow, reduceIte, reduceCtorEq, lr_bool, s5t3, s5t11, s5f0, s5f2, s5f9, s5f10, hb8] at s22f26
      clear hf
      refine seq_reg 1 fun L23 hL23 => ?_
      simp only [qq, seval, -Nat.reducePow, reduceIte, reduceCtorEq, lr_bool, s5t3, s5t11, s5f0, s5f2, s5f9, s5f10, hb8, s22t6, s22t27, s22f2, s22f25, s22f26]
      refine nil_z hL23 ?_
      refine awp_seq_k fun K24 hK24 => ?_
      refine awp_cond (t := ?t25) ?h25 (fun hb25 => ?a25) (fun hb25 => ?b25)
      case h25 => simp only [qq, seval, -Nat.reducePow, reduceIte, reduceCtorEq, lr_bool, s5t3, s5t11, s5f0, s5f2, s5f9, s5f10, hb8, s22t6, s22t27, s22f2, s22f25, s22f26]; rfl
      case a25 =>
       have hp25 := hb25
       try simp only [kb] at hp25
       refine awp_skip ?_
       refine hK24 _ ?_
       refine awp_seq_k fun K26 hK26 => ?_
       refine awp_block ?_
       have sn := flat_next (rs := rs) (i := i) (by omega)
       have hfl := flat_le (rs := rs) (i + 1)
       have hfe := congrArg List.length sn
       rw [List.length_append] at hfe
       refine seq_reg0 fun L27 hL27 => ?_
       refine aops_val (v := ?v28) rfl ?h28 ?_
       case h28 => simp only [qq, seval, -Nat.reducePow, reduceIte, reduceCtorEq, lr_bool, s5t3, s5t11, s5f0, s5f2, s5f9, s5f10, hb8, s22t6, s22t27, s22f2, s22f25, s22f26, hb25, sn]; first | (rw [idx_c un116 if36] <;> omega) | (rw [idx_o un116 if36] <;> omega) | (rw [idx_a un116 if36] <;> omega)
       simp only [qq, seval, -Nat.reducePow, reduceIte, reduceCtorEq, lr_bool, s5t3, s5t11, s5f0, s5f2, s5f9, s5f10, hb8, s22t6, s22t27, s22f2, s22f25, s22f26, hb25, sn]
       refine aops_orunN 2 _ _ ?_
       simp only [qq, seval, -Nat.reducePow, reduceIte, reduceCtorEq, lr_bool, s5t3, s5t11, s5f0, s5f2, s5f9, s5f10, hb8, s22t6, s22t27, s22f2, s22f25, s22f26, hb25, sn]
       refine nil_z hL27 ?_
       as_aux_lemma =>
        refine reg 2 fun L29 hL29 => ?_
        simp only [qq, seval, -Nat.reducePow, reduceIte, reduceCtorEq, lr_bool, s5t3, s5t11, s5f0, s5f2, s5f9, s5f10, hb8, s22t6, s22t27, s22f2, s22f25, s22f26, hb25, sn]
        refine aops_append (rows := ?rows30) (new := ?new30) rfl rfl rfl rfl rfl rfl un36 ?hx30 (by simp only [qq, seval, -Nat.reducePow, reduceIte, reduceCtorEq, maskO, maskN, lr_bool, s5t3, s5t11, s5f0, s5f2, s5f9, s5f10, hb8, s22t6, s22t27, s22f2, s22f25, s22f26, hb25, sn]) (by simp only [qq, seval, -Nat.reducePow, reduceIte, reduceCtorEq, maskO, maskN, lr_bool, s5t3, s5t11, s5f0, s5f2, s5f9, s5f10, hb8, s22t6, s22t27, s22f2, s22f25, s22f26, hb25, sn]) (by simp only [qq, seval, -Nat.reducePow, reduceIte, reduceCtorEq, lr_bool, s5t3, s5t11, s5f0, s5f2, s5f9, s5f10, hb8, s22t6, s22t27, s22f2, s22f25, s22f26, hb25, sn]) ?hy30 (by simp only [tyf]; rfl) (by simp only [tyf]; decide) ?hsz30 ?hml30 ?hh30
        case hx30 => simp only [qq, seval, -Nat.reducePow, reduceIte, reduceCtorEq, AV.base, lr_bool, s5t3, s5t11, s5f0, s5f2, s5f9, s5f10, hb8, s22t6, s22t27, s22f2, s22f25, s22f26, hb25, sn]; rfl
        case hy30 => simp only [qq, seval, -Nat.reducePow, reduceIte, reduceCtorEq, lr_bool, s5t3, s5t11, s5f0, s5f2, s5f9, s5f10, hb8, s22t6, s22t27, s22f2, s22f25, s22f26, hb25, sn]; rfl
        case hsz30 => ((try simp only [tyf, rwR, List.length_append, List.length_cons, List.length_nil, List.length_take, List.length_drop]); omega)
        case hml30 => ((try simp only [maxLen, tyf, rwR, List.length_append, List.length_cons, List.length_nil, List.length_take, List.length_drop]); omega)
        simp only [qq, seval, -Nat.reducePow, reduceIte, reduceCtorEq, maskO, maskN, lr_bool, s5t3, s5t11, s5f0, s5f2, s5f9, s5f10, hb8, s22t6, s22t27, s22f2, s22f25, s22f26, hb25, sn]
        refine aops_orunN 1 _ _ ?_
        simp only [qq, seval, -Nat.reducePow, reduceIte, reduceCtorEq, lr_bool, s5t3, s5t11, s5f0, s5f2, s5f9, s5f10, hb8, s22t6, s22t27, s22f2, s22f25, s22f26, hb25, sn]
        refine aops_nil (hL29 _ ?_)
        simp only [qq, seval, -Nat.reducePow, reduceIte, reduceCtorEq, lr_bool, s5t3, s5t11, s5f0, s5f2, s5f9, s5f10, hb8, s22t6, s22t27, s22f2, s22f25, s22f26, hb25, sn]
        try simp only [rk_state]
        refine hK26 _ ?_
        refine reg 0 fun L31 hL31 => ?_
        simp only [qq, seval, -Nat.reducePow, reduceIte, reduceCtorEq, lr_bool, s5t3, s5t11, s5f0, s5f2, s5f9, s5f10, hb8, s22t6, s22t27, s22f2, s22f25, s22f26, hb25, sn]
        refine aops_val (v := ?v32) rfl ?h32 ?_
        case h32 => simp only [qq, seval, -Nat.reducePow, reduceIte, reduceCtorEq, lr_bool, s5t3, s5t11, s5f0, s5f2, s5f9, s5f10, hb8, s22t6, s22t27, s22f2, s22f25, s22f26, hb25, sn]; first | (rw [wr_id] <;> omega) | rfl
        simp only [qq, seval, -Nat.reducePow, reduceIte, reduceCtorEq, lr_bool, s5t3, s5t11, s5f0, s5f2, s5f9, s5f10, hb8, s22t6, s22t27, s22f2, s22f25, s22f26, hb25, sn]
        refine aops_orunN 1 _ _ ?_
        simp only [qq, seval, -Nat.reducePow, reduceIte, reduceCtorEq, lr_bool, s5t3, s5t11, s5f0, s5f2, s5f9, s5f10, hb8, s22t6, s22t27, s22f2, s22f25, s22f26, hb25, sn]
        refine nil_q hL31 ?_
        try simp only [rk_state]
        refine hK22 _ ((fun (i : Nat) (d : Nat) => rs.length - i) (i + 1) (33)) ?_ ⟨i + 1, 33, rfl, ?_, ?_, ?_⟩
        · (try simp only []); omega
        · first | omega | simp
        · (try simp only [qq, seval, -Nat.reducePow, reduceIte, reduceCtorEq, lr_bool, s5t3, s5t11, s5f0, s5f2, s5f9, s5f10, hb8, s22t6, s22t27, s22f2, s22f25, s22f26, hb25, sn])
          all_goals (first | done | rfl | (simp only [AV.c.injEq, C.int.injEq, List.cons.injEq, and_true, true_and]; omega))
        · (try simp only [qq, seval, -Nat.reducePow, reduceIte, reduceCtorEq, lr_bool, s5t3, s5t11, s5f0, s5f2, s5f9, s5f10, hb8, s22t6, s22t27, s22f2, s22f25, s22f26, hb25, sn])
          all_goals (first | done | rfl | (simp only [AV.c.injEq, C.int.injEq, List.cons.injEq, and_true, true_and]; omega))
      case b25 =>
       have hp25 := hb25
       try simp only [kb] at hp25
       refine awp_exit ?_
       simp only [rk_state, reduceIte, Nat.reduceEqDiff]
       refine hK20 _ ?_
       refine seq_reg 2 fun L33 hL33 => ?_
       simp only [qq, seval, -Nat.reducePow, reduceIte, reduceCtorEq, lr_bool, s5t3, s5t11, s5f0, s5f2, s5f9, s5f10, hb8, s22t6, s22t27, s22f2, s22f25, s22f26, hb25]
       refine nil_z hL33 ?_
       as_aux_lemma =>
        refine awp_ret ?_
        try simp only [rk_state]
        first | refine ⟨_, d, by simp only [qq, seval, -Nat.reducePow, reduceIte, reduceCtorEq, resA, Try.results38, lr_bool, s5t3, s5t11, s5f0, s5f2, s5f9, s5f10, hb8, s22t6, s22t27, s22f2, s22f25, s22f26, hb25]; rfl, ?_, nomem_a, nomem_a⟩ | refine ⟨_, 0, by simp only [qq, seval, -Nat.reducePow, reduceIte, reduceCtorEq, resA, Try.results38, lr_bool, s5t3, s5t11, s5f0, s5f2, s5f9, s5f10, hb8, s22t6, s22t27, s22f2, s22f25, s22f26, hb25]; rfl, ?_, nomem_a, nomem_a⟩
        simp only [packA]
        have e1 : rs.take i = rs := List.take_of_length_le (by omega); simp only [e1]; (repeat' (first | exact .nil | exact wkR_c | exact wkR_own | exact wkR_nils | refine wkR_int ?_ | refine wkR_bool ?_ | refine wkR_sl ?_ | refine wkR_osl ?_ | refine wkR_nsl ?_ | refine wkR_oo ?_ | refine wkR_no ?_ | refine .cons ?_ ?_ | refine wkR_agg ?_ | refine wkR_tup ?_)) <;> simp_all
end Go.Proofs.Y
