/-
  What is proved: constants: what Names computes. Conditions: none.
-/
import Derived.Test.YtfemegcfgkabnaaTy
import Derived.Test.YtfemegcfgkabnaaPA
import Derived.Test.YtfemegcfgkabnaaBs
set_option linter.unusedVariables false
set_option linter.unusedSimpArgs false
set_option maxRecDepth 4000
namespace Go.Proofs.Y
open Go.Rb
set_option maxHeartbeats 4000000 in
set_option maxRecDepth 50000 in
theorem equal_int_fun (a b : List Int) (ha : a.length < 4611686018427387904) : Fun Try.prog 4 [.c (.sl 3 (Rw inC a)), .c (.sl 3 (Rw inC b))] nomem (.c (.bool (decide (a = b)))) nomem := by
 refine fun_of_awp Try.func4 rfl (by decide +kernel) (by decide +kernel) (Nat.le_of_ble_eq_true rfl) (fun _ _ => rfl) (fun _ _ => rfl) ?_
 refine seq_reg 1 fun L1 hL1 => ?_
 simp only [qq, seval, -Nat.reducePow, reduceIte, reduceCtorEq]
 refine nil_z hL1 ?_
 refine awp_seq_k fun K2 hK2 => ?_
 refine seq_reg 5 fun L3 hL3 => ?_
 simp only [qq, seval, -Nat.reducePow, reduceIte, reduceCtorEq]
 refine nil_z hL3 ?_
 refine awp_cond (t := ?t4) ?h4 (fun hb4 => ?a4) (fun hb4 => ?b4)
 case h4 => simp only [qq, seval, -Nat.reducePow, reduceIte, reduceCtorEq]; rfl
 case a4 =>
  have hp4 := hb4
  try simp only [kb] at hp4
  refine seq_reg 1 fun L5 hL5 => ?_
  simp only [qq, seval, -Nat.reducePow, reduceIte, reduceCtorEq, hb4]
  refine nil_z hL5 ?_
  as_aux_lemma =>
   refine awp_ret ?_
   try simp only [rk_state]
   refine ⟨_, 0, by simp only [qq, seval, -Nat.reducePow, reduceIte, reduceCtorEq, resA, Try.results4, hb4]; rfl, ?_, nomem_a, nomem_a⟩
   simp only [packA]
   (repeat' (first | exact .nil | exact wkR_c | exact wkR_own | exact wkR_nils | refine wkR_int ?_ | refine wkR_bool ?_ | refine wkR_sl ?_ | refine wkR_osl ?_ | refine wkR_nsl ?_ | refine wkR_oo ?_ | refine wkR_no ?_ | refine .cons ?_ ?_ | refine wkR_agg ?_ | refine wkR_tup ?_)) <;> first | (symm; apply decide_eq_false; intro he; subst he; simp_all; done) | (symm; apply decide_eq_true; exact eq_of_getD (by omega) (fun j hj => hq4_1 j (by omega)))
 case b4 =>
  have hp4 := hb4
  try simp only [kb] at hp4
  refine awp_skip ?_
  refine hK2 _ ?_
  refine awp_seq_k fun K6 hK6 => ?_
  refine seq_reg 3 fun L7 hL7 => ?_
  simp only [qq, seval, -Nat.reducePow, reduceIte, reduceCtorEq, hb4]
  refine nil_z hL7 ?_
  refine awp_block ?_
  refine awp_loopW (W := [14, 15, 5, 16, 17, 18, 19, 20, 21, 22, 23, 24, 4, 25, 13]) (M := []) rfl rfl (fun kk s => ∃ (i : Nat), kk = a.length - i ∧ (i ≤ a.length) ∧ (∀ j, j < i → a.getD j default = b.getD j default) ∧ s.t 13 = .c (.int .i64 (i : Int))) ((fun (i : Nat) => a.length - i) (0)) ?i8 ?r8
  case i8 =>
   refine ⟨0, rfl, ?_, ?_, ?_⟩
   · omega
   · intro j hj; omega
   · (try simp only [qq, seval, -Nat.reducePow, reduceIte, reduceCtorEq, hb4])
     all_goals (first | done | rfl | (simp only [AV.c.injEq, C.int.injEq, List.cons.injEq, and_true, true_and]; omega))
  case r8 =>
   rintro kk s hf ⟨i, rfl, hq4_0, hq4_1, s8t13⟩ K8 hK8
   have s8f0 := hf 0 rfl (by (try simp only [qq, seval, -Nat.reducePow, reduceIte, reduceCtorEq, kn, hb4]); all_goals rfl)
   simp only [qq, seval, -Nat.reducePow, reduceIte, reduceCtorEq, hb4] at s8f0
   have s8f1 := hf 1 rfl (by (try simp only [qq, seval, -Nat.reducePow, reduceIte, reduceCtorEq, kn, hb4]); all_goals rfl)
   simp only [qq, seval, -Nat.reducePow, reduceIte, reduceCtorEq, hb4] at s8f1
   have s8f12 := hf 12 rfl (by (try simp only [qq, seval, -Nat.reducePow, reduceIte, reduceCtorEq, kn, hb4]); all_goals rfl)
   simp only [qq, seval, -Nat.reducePow, reduceIte, reduceCtorEq, hb4] at s8f12
   clear hf
   refine seq_reg 1 fun L9 hL9 => ?_
   simp only [qq, seval, -Nat.reducePow, reduceIte, reduceCtorEq, hb4, s8t13, s8f0, s8f1, s8f12]
   refine nil_z hL9 ?_
   refine awp_seq_k fun K10 hK10 => ?_
   refine awp_cond (t := ?t11) ?h11 (fun hb11 => ?a11) (fun hb11 => ?b11)
   case h11 => simp only [qq, seval, -Nat.reducePow, reduceIte, reduceCtorEq, hb4, s8t13, s8f0, s8f1, s8f12]; rfl
   case a11 =>
    have hp11 := hb11
    try simp only [kb] at hp11
    refine awp_skip ?_
    refine hK10 _ ?_
    refine awp_seq_k fun K12 hK12 => ?_
    refine awp_block ?_
    refine seq_reg 2 fun L13 hL13 => ?_
    simp only [qq, seval, -Nat.reducePow, reduceIte, reduceCtorEq, hb4, s8t13, s8f0, s8f1, s8f12, hb11]
    refine nil_z hL13 ?_
    as_aux_lemma =>
     refine seq_regd 2 (by decide +kernel) fun L14 hL14 => ?_
     simp only [qq, seval, -Nat.reducePow, reduceIte, reduceCtorEq, hb4, s8t13, s8f0, s8f1, s8f12, hb11]
     refine aops_val (v := ?v15) rfl ?h15 ?_
     case h15 => simp only [qq, seval, -Nat.reducePow, reduceIte, reduceCtorEq, hb4, s8t13, s8f0, s8f1, s8f12, hb11]; first | (rw [idx_c un24 if3] <;> omega) | (rw [idx_o un24 if3] <;> omega) | (rw [idx_a un24 if3] <;> omega)
     simp only [qq, seval, -Nat.reducePow, reduceIte, reduceCtorEq, hb4, s8t13, s8f0, s8f1, s8f12, hb11]
     refine aops_orunN 3 _ _ ?_
     simp only [qq, seval, -Nat.reducePow, reduceIte, reduceCtorEq, hb4, s8t13, s8f0, s8f1, s8f12, hb11]
     refine aops_val (v := ?v16) rfl ?h16 ?_
     case h16 => simp only [qq, seval, -Nat.reducePow, reduceIte, reduceCtorEq, hb4, s8t13, s8f0, s8f1, s8f12, hb11]; first | (rw [idx_c un24 if3] <;> omega) | (rw [idx_o un24 if3] <;> omega) | (rw [idx_a un24 if3] <;> omega)
     simp only [qq, seval, -Nat.reducePow, reduceIte, reduceCtorEq, hb4, s8t13, s8f0, s8f1, s8f12, hb11]
     refine aops_orunN 2 _ _ ?_
     simp only [qq, seval, -Nat.reducePow, reduceIte, reduceCtorEq, hb4, s8t13, s8f0, s8f1, s8f12, hb11]
     refine nil_z hL14 ?_
     refine awp_cond (t := ?t17) ?h17 (fun hb17 => ?a17) (fun hb17 => ?b17)
     case h17 => simp only [qq, seval, -Nat.reducePow, reduceIte, reduceCtorEq, hb4, s8t13, s8f0, s8f1, s8f12, hb11]; rfl
     case a17 =>
      have hp17 := hb17
      try simp only [kb] at hp17
      refine seq_reg 1 fun L18 hL18 => ?_
      simp only [qq, seval, -Nat.reducePow, reduceIte, reduceCtorEq, hb4, s8t13, s8f0, s8f1, s8f12, hb11, hb17]
      refine nil_z hL18 ?_
      refine awp_ret ?_
      try simp only [rk_state]
      refine ⟨_, 0, by simp only [qq, seval, -Nat.reducePow, reduceIte, reduceCtorEq, resA, Try.results4, hb4, s8t13, s8f0, s8f1, s8f12, hb11, hb17]; rfl, ?_, nomem_a, nomem_a⟩
      simp only [packA]
      (repeat' (first | exact .nil | exact wkR_c | exact wkR_own | exact wkR_nils | refine wkR_int ?_ | refine wkR_bool ?_ | refine wkR_sl ?_ | refine wkR_osl ?_ | refine wkR_nsl ?_ | refine wkR_oo ?_ | refine wkR_no ?_ | refine .cons ?_ ?_ | refine wkR_agg ?_ | refine wkR_tup ?_)) <;> first | (symm; apply decide_eq_false; intro he; subst he; simp_all; done) | (symm; apply decide_eq_true; exact eq_of_getD (by omega) (fun j hj => hq4_1 j (by omega)))
     case b17 =>
      have hp17 := hb17
      try simp only [kb] at hp17
      refine awp_skip ?_
      try simp only [rk_state]
      refine hK12 _ ?_
      refine reg 0 fun L19 hL19 => ?_
      simp only [qq, seval, -Nat.reducePow, reduceIte, reduceCtorEq, hb4, s8t13, s8f0, s8f1, s8f12, hb11, hb17]
      refine aops_val (v := ?v20) rfl ?h20 ?_
      case h20 => simp only [qq, seval, -Nat.reducePow, reduceIte, reduceCtorEq, hb4, s8t13, s8f0, s8f1, s8f12, hb11, hb17]; first | (rw [wr_id] <;> omega) | rfl
      simp only [qq, seval, -Nat.reducePow, reduceIte, reduceCtorEq, hb4, s8t13, s8f0, s8f1, s8f12, hb11, hb17]
      refine aops_orunN 1 _ _ ?_
      simp only [qq, seval, -Nat.reducePow, reduceIte, reduceCtorEq, hb4, s8t13, s8f0, s8f1, s8f12, hb11, hb17]
      refine nil_q hL19 ?_
      try simp only [rk_state]
      refine hK8 _ ((fun (i : Nat) => a.length - i) (i + 1)) ?_ ⟨i + 1, rfl, ?_, ?_, ?_⟩
      · (try simp only []); omega
      · omega
      · (intro j hj; rcases Nat.lt_succ_iff_lt_or_eq.1 hj with hji | hji; exact hq4_1 j hji; rw [hji]; assumption)
      · (try simp only [qq, seval, -Nat.reducePow, reduceIte, reduceCtorEq, hb4, s8t13, s8f0, s8f1, s8f12, hb11, hb17])
        all_goals (first | done | rfl | (simp only [AV.c.injEq, C.int.injEq, List.cons.injEq, and_true, true_and]; omega))
   case b11 =>
    have hp11 := hb11
    try simp only [kb] at hp11
    refine awp_exit ?_
    simp only [rk_state, reduceIte, Nat.reduceEqDiff]
    refine hK6 _ ?_
    as_aux_lemma =>
     refine seq_reg 1 fun L21 hL21 => ?_
     simp only [qq, seval, -Nat.reducePow, reduceIte, reduceCtorEq, hb4, s8t13, s8f0, s8f1, s8f12, hb11]
     refine nil_z hL21 ?_
     refine awp_ret ?_
     try simp only [rk_state]
     refine ⟨_, 0, by simp only [qq, seval, -Nat.reducePow, reduceIte, reduceCtorEq, resA, Try.results4, hb4, s8t13, s8f0, s8f1, s8f12, hb11]; rfl, ?_, nomem_a, nomem_a⟩
     simp only [packA]
     (repeat' (first | exact .nil | exact wkR_c | exact wkR_own | exact wkR_nils | refine wkR_int ?_ | refine wkR_bool ?_ | refine wkR_sl ?_ | refine wkR_osl ?_ | refine wkR_nsl ?_ | refine wkR_oo ?_ | refine wkR_no ?_ | refine .cons ?_ ?_ | refine wkR_agg ?_ | refine wkR_tup ?_)) <;> first | (symm; apply decide_eq_false; intro he; subst he; simp_all; done) | (symm; apply decide_eq_true; exact eq_of_getD (by omega) (fun j hj => hq4_1 j (by omega)))
set_option maxHeartbeats 4000000 in
set_option maxRecDepth 50000 in
theorem names_fun  : Fun Try.prog 3 [] nomem (.c (.bool true)) nomem := by
 refine fun_of_awp Try.func3 rfl (by decide +kernel) (by decide +kernel) (Nat.le_of_ble_eq_true rfl) (fun _ _ => rfl) (fun _ _ => rfl) ?_
 refine seq_reg 1 fun L1 hL1 => ?_
 simp only [qq, seval, -Nat.reducePow, reduceIte, reduceCtorEq]
 refine nil_z hL1 ?_
 refine seq_reg0 fun L2 hL2 => ?_
 refine aops_build [0, 1, 2, 3, 4, 5, 6, 7, 8] rfl rfl un23 (by simp only [tyf]; rfl) (by simp only [tyf]) rfl (by decide) (by kernel_rfl) ?_
 simp only [qq, seval, -Nat.reducePow, reduceIte, reduceCtorEq]
 refine aops_orunN 1 _ _ ?_
 simp only [qq, seval, -Nat.reducePow, reduceIte, reduceCtorEq]
 refine nil_z hL2 ?_
 refine awp_seq_k fun K3 hK3 => ?_
 refine seq_reg 3 fun L4 hL4 => ?_
 simp only [qq, seval, -Nat.reducePow, reduceIte, reduceCtorEq]
 refine nil_z hL4 ?_
 as_aux_lemma =>
  refine awp_block ?_
  refine awp_loopW (W := [10, 11, 12, 13, 2, 3, 14, 15, 16, 0, 17, 9]) (M := []) rfl rfl (fun kk s => ∃ (i : Nat), kk = 9 - i ∧ (i ≤ 9) ∧ s.t 9 = .c (.int .i64 (i : Int))) ((fun (i : Nat) => 9 - i) (0)) ?i5 ?r5
  case i5 =>
   refine ⟨0, rfl, ?_, ?_⟩
   · first | omega | simp
   · (try simp only [qq, seval, -Nat.reducePow, reduceIte, reduceCtorEq])
     all_goals (first | done | rfl | (simp only [AV.c.injEq, C.int.injEq, List.cons.injEq, and_true, true_and]; omega))
  case r5 =>
   rintro kk s hf ⟨i, rfl, hq3_0, s5t9⟩ K5 hK5
   have s5f7 := hf 7 rfl (by (try simp only [qq, seval, -Nat.reducePow, reduceIte, reduceCtorEq, kn]); all_goals rfl)
   simp only [qq, seval, -Nat.reducePow, reduceIte, reduceCtorEq] at s5f7
   have s5f8 := hf 8 rfl (by (try simp only [qq, seval, -Nat.reducePow, reduceIte, reduceCtorEq, kn]); all_goals rfl)
   simp only [qq, seval, -Nat.reducePow, reduceIte, reduceCtorEq] at s5f8
   clear hf
   refine seq_reg 1 fun L6 hL6 => ?_
   simp only [qq, seval, -Nat.reducePow, reduceIte, reduceCtorEq, s5t9, s5f7, s5f8]
   try simp (disch := omega) only [dec_t, dec_f, beq_t, beq_f, bne_t, bne_f]
   try simp only [qq, seval, -Nat.reducePow, reduceIte, reduceCtorEq, s5t9, s5f7, s5f8]
   refine nil_z hL6 ?_
   refine awp_seq_k fun K7 hK7 => ?_
   refine awp_cond (t := ?t8) ?h8 (fun hb8 => ?a8) (fun hb8 => ?b8)
   case h8 => simp only [qq, seval, -Nat.reducePow, reduceIte, reduceCtorEq, s5t9, s5f7, s5f8]; rfl
   case a8 =>
    have hp8 := hb8
    try simp only [kb] at hp8
    refine awp_skip ?_
    refine hK7 _ ?_
    refine awp_seq_k fun K9 hK9 => ?_
    refine awp_block ?_
    have sE : ([0, 1, 2, 3, 4, 5, 6, 7, 8] : List Int).getD i default = (i : Int) := by
      have h9 : i = 0 ∨ i = 1 ∨ i = 2 ∨ i = 3 ∨ i = 4 ∨ i = 5 ∨ i = 6 ∨ i = 7 ∨ i = 8 := by omega
      rcases h9 with rfl | rfl | rfl | rfl | rfl | rfl | rfl | rfl | rfl <;> rfl
    have hE : ([0, 1, 2, 3, 4, 5, 6, 7, 8] : List Int).length = 9 := rfl
    refine seq_reg 1 fun L10 hL10 => ?_
    simp only [qq, seval, -Nat.reducePow, reduceIte, reduceCtorEq, s5t9, s5f7, s5f8, hb8, sE]
    refine aops_val (v := ?v11) rfl ?h11 ?_
    case h11 => simp only [qq, seval, -Nat.reducePow, reduceIte, reduceCtorEq, s5t9, s5f7, s5f8, hb8, sE]; first | (rw [idx_c un23 if22] <;> omega) | (rw [idx_o un23 if22] <;> omega) | (rw [idx_a un23 if22] <;> omega)
    simp only [qq, seval, -Nat.reducePow, reduceIte, reduceCtorEq, s5t9, s5f7, s5f8, hb8, sE]
    refine aops_orunN 3 _ _ ?_
    simp only [qq, seval, -Nat.reducePow, reduceIte, reduceCtorEq, s5t9, s5f7, s5f8, hb8, sE]
    refine nil_z hL10 ?_
    refine seq_reg 3 fun L12 hL12 => ?_
    simp only [qq, seval, -Nat.reducePow, reduceIte, reduceCtorEq, s5t9, s5f7, s5f8, hb8, sE]
    try simp (disch := omega) only [dec_t, dec_f, beq_t, beq_f, bne_t, bne_f]
    try simp only [qq, seval, -Nat.reducePow, reduceIte, reduceCtorEq, s5t9, s5f7, s5f8, hb8, sE]
    refine nil_z hL12 ?_
    as_aux_lemma =>
     refine awp_cond (t := ?t13) ?h13 (fun hb13 => ?a13) (fun hb13 => ?b13)
     case h13 => simp only [qq, seval, -Nat.reducePow, reduceIte, reduceCtorEq, s5t9, s5f7, s5f8, hb8, sE]; rfl
     case a13 =>
      first | exact absurd hb13 (by decide) | (have hp13 := hb13; (try simp only [kb] at hp13); exfalso; omega)
     case b13 =>
      have hp13 := hb13
      try simp only [kb] at hp13
      refine awp_skip ?_
      try simp only [rk_state]
      refine hK9 _ ?_
      refine reg 0 fun L14 hL14 => ?_
      simp only [qq, seval, -Nat.reducePow, reduceIte, reduceCtorEq, s5t9, s5f7, s5f8, hb8, sE, hb13]
      refine aops_val (v := ?v15) rfl ?h15 ?_
      case h15 => simp only [qq, seval, -Nat.reducePow, reduceIte, reduceCtorEq, s5t9, s5f7, s5f8, hb8, sE, hb13]; first | (rw [wr_id] <;> omega) | rfl
      simp only [qq, seval, -Nat.reducePow, reduceIte, reduceCtorEq, s5t9, s5f7, s5f8, hb8, sE, hb13]
      refine aops_orunN 1 _ _ ?_
      simp only [qq, seval, -Nat.reducePow, reduceIte, reduceCtorEq, s5t9, s5f7, s5f8, hb8, sE, hb13]
      refine nil_q hL14 ?_
      try simp only [rk_state]
      refine hK5 _ ((fun (i : Nat) => 9 - i) (i + 1)) ?_ ⟨i + 1, rfl, ?_, ?_⟩
      · (try simp only []); omega
      · first | omega | simp
      · (try simp only [qq, seval, -Nat.reducePow, reduceIte, reduceCtorEq, s5t9, s5f7, s5f8, hb8, sE, hb13])
        all_goals (first | done | rfl | (simp only [AV.c.injEq, C.int.injEq, List.cons.injEq, and_true, true_and]; omega))
   case b8 =>
    have hp8 := hb8
    try simp only [kb] at hp8
    refine awp_exit ?_
    simp only [rk_state, reduceIte, Nat.reduceEqDiff]
    refine hK3 _ ?_
    refine seq_reg0 fun L16 hL16 => ?_
    refine aops_build [40, 4000000, 100000, 1000000, 4, 40, 8, 10, 200, 60, 60000, 3, 100] rfl rfl un24 (by simp only [tyf]; rfl) (by simp only [tyf]) rfl (by decide) (by kernel_rfl) ?_
    simp only [qq, seval, -Nat.reducePow, reduceIte, reduceCtorEq, s5t9, s5f7, s5f8, hb8]
    refine aops_orunN 1 _ _ ?_
    simp only [qq, seval, -Nat.reducePow, reduceIte, reduceCtorEq, s5t9, s5f7, s5f8, hb8]
    refine nil_z hL16 ?_
    refine seq_reg0 fun L17 hL17 => ?_
    refine aops_build [1, 2, 3, 4, 1, 2, 3, 4, 5, 6, 7, 8, 9] rfl rfl un24 (by simp only [tyf]; rfl) (by simp only [tyf]) rfl (by decide) (by kernel_rfl) ?_
    simp only [qq, seval, -Nat.reducePow, reduceIte, reduceCtorEq, s5t9, s5f7, s5f8, hb8]
    refine aops_orunN 1 _ _ ?_
    simp only [qq, seval, -Nat.reducePow, reduceIte, reduceCtorEq, s5t9, s5f7, s5f8, hb8]
    refine nil_z hL17 ?_
    as_aux_lemma =>
     refine seq_reg 1 fun L18 hL18 => ?_
     simp only [qq, seval, -Nat.reducePow, reduceIte, reduceCtorEq, s5t9, s5f7, s5f8, hb8]
     refine aops_build [40, 4000000, 100000, 1000000, 4, 40, 8, 10, 200, 60, 60000, 3, 100] rfl rfl un24 (by simp only [tyf]; rfl) (by simp only [tyf]) rfl (by decide) (by kernel_rfl) ?_
     simp only [qq, seval, -Nat.reducePow, reduceIte, reduceCtorEq, s5t9, s5f7, s5f8, hb8]
     refine aops_call (equal_int_fun [40, 4000000, 100000, 1000000, 4, 40, 8, 10, 200, 60, 60000, 3, 100] [40, 4000000, 100000, 1000000, 4, 40, 8, 10, 200, 60, 60000, 3, 100] (by decide)) rfl rfl rfl rfl (by (try simp only [qq, seval, -Nat.reducePow, reduceIte, reduceCtorEq, s5t9, s5f7, s5f8, hb8]); (repeat' (first | exact .nil | exact wk_c | exact wk_ownc | exact wk_nilsc | exact wk_nils | exact wk_fn | refine .cons ?_ ?_ | refine wk_agg ?_ | refine wk_fnL ?_))) rfl rfl ?_
     simp only [qq, seval, -Nat.reducePow, reduceIte, reduceCtorEq, s5t9, s5f7, s5f8, hb8]
     refine aops_orunN 1 _ _ ?_
     simp only [qq, seval, -Nat.reducePow, reduceIte, reduceCtorEq, s5t9, s5f7, s5f8, hb8]
     refine aops_part (b := ?p20) 23 ?h20 (fun hb20 => ?a20) (fun hb20 => ?b20)
     case h20 => simp only [qq, seval, -Nat.reducePow, reduceIte, reduceCtorEq, s5t9, s5f7, s5f8, hb8]; rfl
     case a20 =>
      have hp20 := hb20
      try simp only [kb] at hp20
      try simp only [hb20]
      refine aops_orunN 1 _ _ ?_
      simp only [qq, seval, -Nat.reducePow, reduceIte, reduceCtorEq, s5t9, s5f7, s5f8, hb8, hb20]
      refine aops_build [1, 2, 3, 4, 1, 2, 3, 4, 5, 6, 7, 8, 9] (by simp only [qq, seval, -Nat.reducePow, reduceIte, reduceCtorEq, s5t9, s5f7, s5f8, hb8, hb20]) rfl un24 (by simp only [tyf]; rfl) (by simp only [tyf]) rfl (by decide) (by kernel_rfl) ?_
      simp only [qq, seval, -Nat.reducePow, reduceIte, reduceCtorEq, s5t9, s5f7, s5f8, hb8, hb20]
      refine aops_call (equal_int_fun [1, 2, 3, 4, 1, 2, 3, 4, 5, 6, 7, 8, 9] [1, 2, 3, 4, 1, 2, 3, 4, 5, 6, 7, 8, 9] (by decide)) (by simp only [qq, seval, -Nat.reducePow, reduceIte, reduceCtorEq, s5t9, s5f7, s5f8, hb8, hb20]) rfl rfl rfl (by (try simp only [qq, seval, -Nat.reducePow, reduceIte, reduceCtorEq, s5t9, s5f7, s5f8, hb8, hb20]); (repeat' (first | exact .nil | exact wk_c | exact wk_ownc | exact wk_nilsc | exact wk_nils | exact wk_fn | refine .cons ?_ ?_ | refine wk_agg ?_ | refine wk_fnL ?_))) rfl rfl ?_
      simp only [qq, seval, -Nat.reducePow, reduceIte, reduceCtorEq, s5t9, s5f7, s5f8, hb8, hb20]
      refine aops_orunN 2 _ _ ?_
      simp only [qq, seval, -Nat.reducePow, reduceIte, reduceCtorEq, s5t9, s5f7, s5f8, hb8, hb20]
      refine nil_z hL18 ?_
      refine awp_ret ?_
      try simp only [rk_state]
      refine ⟨_, 0, by simp only [qq, seval, -Nat.reducePow, reduceIte, reduceCtorEq, resA, Try.results3, s5t9, s5f7, s5f8, hb8, hb20]; rfl, ?_, nomem_a, nomem_a⟩
      simp only [packA]
      (repeat' (first | exact .nil | exact wkR_c | exact wkR_own | exact wkR_nils | refine wkR_int ?_ | refine wkR_bool ?_ | refine wkR_sl ?_ | refine wkR_osl ?_ | refine wkR_nsl ?_ | refine wkR_oo ?_ | refine wkR_no ?_ | refine .cons ?_ ?_ | refine wkR_agg ?_ | refine wkR_tup ?_))
     case b20 =>
      first | exact absurd hb20 (by decide) | (have hp20 := hb20; (try simp only [kb] at hp20); exfalso; omega)
end Go.Proofs.Y
