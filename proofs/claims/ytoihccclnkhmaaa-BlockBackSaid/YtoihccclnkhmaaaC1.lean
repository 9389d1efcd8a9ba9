/-
  What is proved: bits: what Clone, Equal, Put, Read, Take compute. Conditions: none.
-/
import Derived.Test.YtoihccclnkhmaaaTy
import Derived.Test.YtoihccclnkhmaaaPA
set_option linter.unusedVariables false
set_option linter.unusedSimpArgs false
set_option maxRecDepth 4000
namespace Go.Proofs.Y
open Go.Rb
set_option maxHeartbeats 4000000 in
set_option maxRecDepth 50000 in
theorem clone_bool_fun (l : List Bool) (hl : l.length ≤ 140737488355328) : Fun Try.prog 93 [.c (.sl 4 (Rw boC l))] nomem (.own false 0 4 (Rw boC l)) nomem := by
 refine fun_of_awp Try.func93 rfl (by decide +kernel) (by decide +kernel) (Nat.le_of_ble_eq_true rfl) (fun _ _ => rfl) (fun _ _ => rfl) ?_
 refine seq_reg 1 fun L1 hL1 => ?_
 simp only [qq, seval, -Nat.reducePow, reduceIte, reduceCtorEq]
 refine nil_z hL1 ?_
 refine awp_seq_k fun K2 hK2 => ?_
 refine seq_reg 1 fun L3 hL3 => ?_
 simp only [qq, seval, -Nat.reducePow, reduceIte, reduceCtorEq]
 refine aops_nilcmp (rows := ?r4) un36 rfl rfl (by decide) ?y4 ?x4 (fun b4 hnil4 => ?_)
 case y4 => simp only [qq, seval, -Nat.reducePow, reduceIte, reduceCtorEq]
 case x4 => simp only [qq, seval, -Nat.reducePow, reduceIte, reduceCtorEq]; rfl
 simp only [qq, seval, -Nat.reducePow, reduceIte, reduceCtorEq]
 refine nil_z hL3 ?_
 refine awp_cond (t := ?t5) ?h5 (fun hb5 => ?a5) (fun hb5 => ?b5)
 case h5 => simp only [qq, seval, -Nat.reducePow, reduceIte, reduceCtorEq]; rfl
 case a5 =>
  have hp5 := hb5
  try simp only [kb] at hp5
  refine seq_reg 1 fun L6 hL6 => ?_
  simp only [qq, seval, -Nat.reducePow, reduceIte, reduceCtorEq, hb5]
  refine nil_z hL6 ?_
  as_aux_lemma =>
   refine awp_ret ?_
   try simp only [rk_state]
   refine ⟨_, 7, by simp only [qq, seval, -Nat.reducePow, reduceIte, reduceCtorEq, resA, Try.results93, hb5]; rfl, ?_, nomem_a, nomem_a⟩
   simp only [packA]
   (repeat' (first | exact .nil | exact wkR_c | exact wkR_own | exact wkR_nils | refine wkR_int ?_ | refine wkR_bool ?_ | refine wkR_sl ?_ | refine wkR_osl ?_ | refine wkR_nsl ?_ | refine wkR_oo ?_ | refine wkR_no ?_ | refine .cons ?_ ?_ | refine wkR_agg ?_ | refine wkR_tup ?_)) <;> simp_all
 case b5 =>
  have hp5 := hb5
  try simp only [kb] at hp5
  refine awp_skip ?_
  refine hK2 _ ?_
  refine seq_reg 2 fun L7 hL7 => ?_
  simp only [qq, seval, -Nat.reducePow, reduceIte, reduceCtorEq, hb5]
  refine aops_append (rows := ?rows8) (new := ?new8) rfl rfl rfl rfl rfl rfl un36 ?hx8 (by simp only [qq, seval, -Nat.reducePow, reduceIte, reduceCtorEq, maskO, maskN, hb5]) (by simp only [qq, seval, -Nat.reducePow, reduceIte, reduceCtorEq, maskO, maskN, hb5]) (by simp only [qq, seval, -Nat.reducePow, reduceIte, reduceCtorEq, hb5]) ?hy8 (by simp only [tyf]; rfl) (by simp only [tyf]; decide) ?hsz8 ?hml8 ?hh8
  case hx8 => simp only [qq, seval, -Nat.reducePow, reduceIte, reduceCtorEq, AV.base, hb5]; rfl
  case hy8 => simp only [qq, seval, -Nat.reducePow, reduceIte, reduceCtorEq, hb5]; rfl
  case hsz8 => ((try simp only [tyf, rwR, List.length_append, List.length_cons, List.length_nil, List.length_take, List.length_drop]); omega)
  case hml8 => ((try simp only [maxLen, tyf, rwR, List.length_append, List.length_cons, List.length_nil, List.length_take, List.length_drop]); omega)
  simp only [qq, seval, -Nat.reducePow, reduceIte, reduceCtorEq, maskO, maskN, hb5]
  refine aops_orunN 1 _ _ ?_
  simp only [qq, seval, -Nat.reducePow, reduceIte, reduceCtorEq, hb5]
  refine aops_nil (hL7 _ ?_)
  simp only [qq, seval, -Nat.reducePow, reduceIte, reduceCtorEq, hb5]
  refine awp_ret ?_
  try simp only [rk_state]
  refine ⟨_, 7, by simp only [qq, seval, -Nat.reducePow, reduceIte, reduceCtorEq, resA, Try.results93, hb5]; rfl, ?_, nomem_a, nomem_a⟩
  simp only [packA]
  (repeat' (first | exact .nil | exact wkR_c | exact wkR_own | exact wkR_nils | refine wkR_int ?_ | refine wkR_bool ?_ | refine wkR_sl ?_ | refine wkR_osl ?_ | refine wkR_nsl ?_ | refine wkR_oo ?_ | refine wkR_no ?_ | refine .cons ?_ ?_ | refine wkR_agg ?_ | refine wkR_tup ?_)) <;> simp_all
set_option maxHeartbeats 4000000 in
set_option maxRecDepth 50000 in
theorem equal_bool_fun (a b : List Bool) (ha : a.length < 4611686018427387904) : Fun Try.prog 37 [.c (.sl 4 (Rw boC a)), .c (.sl 4 (Rw boC b))] nomem (.c (.bool (decide (a = b)))) nomem := by
 refine fun_of_awp Try.func37 rfl (by decide +kernel) (by decide +kernel) (Nat.le_of_ble_eq_true rfl) (fun _ _ => rfl) (fun _ _ => rfl) ?_
 refine seq_reg 1 fun L1 hL1 => ?_
 simp only [qq, seval, -Nat.reducePow, reduceIte, reduceCtorEq]
 refine nil_z hL1 ?_
 refine awp_seq_k fun K2 hK2 => ?_
 refine seq_reg 5 fun L3 hL3 => ?_
 simp only [qq, seval, -Nat.reducePow, reduceIte, reduceCtorEq]
 refine nil_z hL3 ?_
 refine awp_cond (t := ?t4) ?h4 (fun hb4 => ?a4) (fun hb4 => ?b4)
 case h4 => simp only [qq, seval, -Nat.reducePow, reduceIte, reduceCtorEq]; rfl
 case a4 =>
  have hp4 := hb4
  try simp only [kb] at hp4
  refine seq_reg 1 fun L5 hL5 => ?_
  simp only [qq, seval, -Nat.reducePow, reduceIte, reduceCtorEq, hb4]
  refine nil_z hL5 ?_
  as_aux_lemma =>
   refine awp_ret ?_
   try simp only [rk_state]
   refine ⟨_, 0, by simp only [qq, seval, -Nat.reducePow, reduceIte, reduceCtorEq, resA, Try.results37, hb4]; rfl, ?_, nomem_a, nomem_a⟩
   simp only [packA]
   (repeat' (first | exact .nil | exact wkR_c | exact wkR_own | exact wkR_nils | refine wkR_int ?_ | refine wkR_bool ?_ | refine wkR_sl ?_ | refine wkR_osl ?_ | refine wkR_nsl ?_ | refine wkR_oo ?_ | refine wkR_no ?_ | refine .cons ?_ ?_ | refine wkR_agg ?_ | refine wkR_tup ?_)) <;> first | (symm; apply decide_eq_false; intro he; subst he; simp_all; done) | (symm; apply decide_eq_true; exact eq_of_getD (by omega) (fun j hj => hq4_1 j (by omega)))
 case b4 =>
  have hp4 := hb4
  try simp only [kb] at hp4
  refine awp_skip ?_
  refine hK2 _ ?_
  refine awp_seq_k fun K6 hK6 => ?_
  refine seq_reg 3 fun L7 hL7 => ?_
  simp only [qq, seval, -Nat.reducePow, reduceIte, reduceCtorEq, hb4]
  refine nil_z hL7 ?_
  refine awp_block ?_
  refine awp_loopW (W := [14, 15, 5, 16, 17, 18, 19, 20, 21, 22, 23, 24, 4, 25, 13]) (M := []) rfl rfl (fun kk s => ∃ (i : Nat), kk = a.length - i ∧ (i ≤ a.length) ∧ (∀ j, j < i → a.getD j default = b.getD j default) ∧ s.t 13 = .c (.int .i64 (i : Int))) ((fun (i : Nat) => a.length - i) (0)) ?i8 ?r8
  case i8 =>
   refine ⟨0, rfl, ?_, ?_, ?_⟩
   · omega
   · intro j hj; omega
   · (try simp only [qq, seval, -Nat.reducePow, reduceIte, reduceCtorEq, hb4])
     all_goals (first | done | rfl | (simp only [AV.c.injEq, C.int.injEq, List.cons.injEq, and_true, true_and]; omega))
  case r8 =>
   rintro kk s hf ⟨i, rfl, hq4_0, hq4_1, s8t13⟩ K8 hK8
   have s8f0 := hf 0 rfl (by (try simp only [qq, seval, -Nat.reducePow, reduceIte, reduceCtorEq, kn, hb4]); all_goals rfl)
   simp only [qq, seval, -Nat.reducePow, reduceIte, reduceCtorEq, hb4] at s8f0
   have s8f1 := hf 1 rfl (by (try simp only [qq, seval, -Nat.reducePow, reduceIte, reduceCtorEq, kn, hb4]); all_goals rfl)
   simp only [qq, seval, -Nat.reducePow, reduceIte, reduceCtorEq, hb4] at s8f1
   have s8f12 := hf 12 rfl (by (try simp only [qq, seval, -Nat.reducePow, reduceIte, reduceCtorEq, kn, hb4]); all_goals rfl)
   simp only [qq, seval, -Nat.reducePow, reduceIte, reduceCtorEq, hb4] at s8f12
   clear hf
   refine seq_reg 1 fun L9 hL9 => ?_
   simp only [qq, seval, -Nat.reducePow, reduceIte, reduceCtorEq, hb4, s8t13, s8f0, s8f1, s8f12]
   refine nil_z hL9 ?_
   refine awp_seq_k fun K10 hK10 => ?_
   refine awp_cond (t := ?t11) ?h11 (fun hb11 => ?a11) (fun hb11 => ?b11)
   case h11 => simp only [qq, seval, -Nat.reducePow, reduceIte, reduceCtorEq, hb4, s8t13, s8f0, s8f1, s8f12]; rfl
   case a11 =>
    have hp11 := hb11
    try simp only [kb] at hp11
    refine awp_skip ?_
    refine hK10 _ ?_
    refine awp_seq_k fun K12 hK12 => ?_
    refine awp_block ?_
    refine seq_reg 2 fun L13 hL13 => ?_
    simp only [qq, seval, -Nat.reducePow, reduceIte, reduceCtorEq, hb4, s8t13, s8f0, s8f1, s8f12, hb11]
    refine nil_z hL13 ?_
    as_aux_lemma =>
     refine seq_regd 2 (by decide +kernel) fun L14 hL14 => ?_
     simp only [qq, seval, -Nat.reducePow, reduceIte, reduceCtorEq, hb4, s8t13, s8f0, s8f1, s8f12, hb11]
     refine aops_val (v := ?v15) rfl ?h15 ?_
     case h15 => simp only [qq, seval, -Nat.reducePow, reduceIte, reduceCtorEq, hb4, s8t13, s8f0, s8f1, s8f12, hb11]; first | (rw [idx_c un36 if4] <;> omega) | (rw [idx_o un36 if4] <;> omega) | (rw [idx_a un36 if4] <;> omega)
     simp only [qq, seval, -Nat.reducePow, reduceIte, reduceCtorEq, hb4, s8t13, s8f0, s8f1, s8f12, hb11]
     refine aops_orunN 3 _ _ ?_
     simp only [qq, seval, -Nat.reducePow, reduceIte, reduceCtorEq, hb4, s8t13, s8f0, s8f1, s8f12, hb11]
     refine aops_val (v := ?v16) rfl ?h16 ?_
     case h16 => simp only [qq, seval, -Nat.reducePow, reduceIte, reduceCtorEq, hb4, s8t13, s8f0, s8f1, s8f12, hb11]; first | (rw [idx_c un36 if4] <;> omega) | (rw [idx_o un36 if4] <;> omega) | (rw [idx_a un36 if4] <;> omega)
     simp only [qq, seval, -Nat.reducePow, reduceIte, reduceCtorEq, hb4, s8t13, s8f0, s8f1, s8f12, hb11]
     refine aops_orunN 2 _ _ ?_
     simp only [qq, seval, -Nat.reducePow, reduceIte, reduceCtorEq, hb4, s8t13, s8f0, s8f1, s8f12, hb11]
     refine nil_z hL14 ?_
     refine awp_cond (t := ?t17) ?h17 (fun hb17 => ?a17) (fun hb17 => ?b17)
     case h17 => simp only [qq, seval, -Nat.reducePow, reduceIte, reduceCtorEq, hb4, s8t13, s8f0, s8f1, s8f12, hb11]; rfl
     case a17 =>
      have hp17 := hb17
      try simp only [kb] at hp17
      refine seq_reg 1 fun L18 hL18 => ?_
      simp only [qq, seval, -Nat.reducePow, reduceIte, reduceCtorEq, hb4, s8t13, s8f0, s8f1, s8f12, hb11, hb17]
      refine nil_z hL18 ?_
      refine awp_ret ?_
      try simp only [rk_state]
      refine ⟨_, 0, by simp only [qq, seval, -Nat.reducePow, reduceIte, reduceCtorEq, resA, Try.results37, hb4, s8t13, s8f0, s8f1, s8f12, hb11, hb17]; rfl, ?_, nomem_a, nomem_a⟩
      simp only [packA]
      (repeat' (first | exact .nil | exact wkR_c | exact wkR_own | exact wkR_nils | refine wkR_int ?_ | refine wkR_bool ?_ | refine wkR_sl ?_ | refine wkR_osl ?_ | refine wkR_nsl ?_ | refine wkR_oo ?_ | refine wkR_no ?_ | refine .cons ?_ ?_ | refine wkR_agg ?_ | refine wkR_tup ?_)) <;> first | (symm; apply decide_eq_false; intro he; subst he; simp_all; done) | (symm; apply decide_eq_true; exact eq_of_getD (by omega) (fun j hj => hq4_1 j (by omega)))
     case b17 =>
      have hp17 := hb17
      try simp only [kb] at hp17
      refine awp_skip ?_
      try simp only [rk_state]
      refine hK12 _ ?_
      refine reg 0 fun L19 hL19 => ?_
      simp only [qq, seval, -Nat.reducePow, reduceIte, reduceCtorEq, hb4, s8t13, s8f0, s8f1, s8f12, hb11, hb17]
      refine aops_val (v := ?v20) rfl ?h20 ?_
      case h20 => simp only [qq, seval, -Nat.reducePow, reduceIte, reduceCtorEq, hb4, s8t13, s8f0, s8f1, s8f12, hb11, hb17]; first | (rw [wr_id] <;> omega) | rfl
      simp only [qq, seval, -Nat.reducePow, reduceIte, reduceCtorEq, hb4, s8t13, s8f0, s8f1, s8f12, hb11, hb17]
      refine aops_orunN 1 _ _ ?_
      simp only [qq, seval, -Nat.reducePow, reduceIte, reduceCtorEq, hb4, s8t13, s8f0, s8f1, s8f12, hb11, hb17]
      refine nil_q hL19 ?_
      try simp only [rk_state]
      refine hK8 _ ((fun (i : Nat) => a.length - i) (i + 1)) ?_ ⟨i + 1, rfl, ?_, ?_, ?_⟩
      · (try simp only []); omega
      · omega
      · (intro j hj; rcases Nat.lt_succ_iff_lt_or_eq.1 hj with hji | hji; exact hq4_1 j hji; rw [hji]; assumption)
      · (try simp only [qq, seval, -Nat.reducePow, reduceIte, reduceCtorEq, hb4, s8t13, s8f0, s8f1, s8f12, hb11, hb17])
        all_goals (first | done | rfl | (simp only [AV.c.injEq, C.int.injEq, List.cons.injEq, and_true, true_and]; omega))
   case b11 =>
    have hp11 := hb11
    try simp only [kb] at hp11
    refine awp_exit ?_
    simp only [rk_state, reduceIte, Nat.reduceEqDiff]
    refine hK6 _ ?_
    as_aux_lemma =>
     refine seq_reg 1 fun L21 hL21 => ?_
     simp only [qq, seval, -Nat.reducePow, reduceIte, reduceCtorEq, hb4, s8t13, s8f0, s8f1, s8f12, hb11]
     refine nil_z hL21 ?_
     refine awp_ret ?_
     try simp only [rk_state]
     refine ⟨_, 0, by simp only [qq, seval, -Nat.reducePow, reduceIte, reduceCtorEq, resA, Try.results37, hb4, s8t13, s8f0, s8f1, s8f12, hb11]; rfl, ?_, nomem_a, nomem_a⟩
     simp only [packA]
     (repeat' (first | exact .nil | exact wkR_c | exact wkR_own | exact wkR_nils | refine wkR_int ?_ | refine wkR_bool ?_ | refine wkR_sl ?_ | refine wkR_osl ?_ | refine wkR_nsl ?_ | refine wkR_oo ?_ | refine wkR_no ?_ | refine .cons ?_ ?_ | refine wkR_agg ?_ | refine wkR_tup ?_)) <;> first | (symm; apply decide_eq_false; intro he; subst he; simp_all; done) | (symm; apply decide_eq_true; exact eq_of_getD (by omega) (fun j hj => hq4_1 j (by omega)))
set_option maxHeartbeats 4000000 in
set_option maxRecDepth 50000 in
theorem in_fun (n a b : Int) : Fun Try.prog 95 [.c (.int .i64 n), .c (.int .i64 a), .c (.int .i64 b)] nomem (.c (.bool (decide (a ≤ n ∧ n ≤ b)))) nomem := by
 refine fun_of_awp Try.func95 rfl (by decide +kernel) (by decide +kernel) (Nat.le_of_ble_eq_true rfl) (fun _ _ => rfl) (fun _ _ => rfl) ?_
 refine seq_reg 1 fun L1 hL1 => ?_
 simp only [qq, seval, -Nat.reducePow, reduceIte, reduceCtorEq]
 refine nil_z hL1 ?_
 refine seq_reg 4 fun L2 hL2 => ?_
 simp only [qq, seval, -Nat.reducePow, reduceIte, reduceCtorEq]
 refine aops_part (b := ?p3) 10 ?h3 (fun hb3 => ?a3) (fun hb3 => ?b3)
 case h3 => simp only [qq, seval, -Nat.reducePow, reduceIte, reduceCtorEq]; rfl
 case a3 =>
  have hp3 := hb3
  try simp only [kb] at hp3
  try simp only [hb3]
  refine aops_orunN 5 _ _ ?_
  simp only [qq, seval, -Nat.reducePow, reduceIte, reduceCtorEq, hb3]
  refine nil_z hL2 ?_
  refine awp_ret ?_
  try simp only [rk_state]
  refine ⟨_, 0, by simp only [qq, seval, -Nat.reducePow, reduceIte, reduceCtorEq, resA, Try.results95, hb3]; rfl, ?_, nomem_a, nomem_a⟩
  simp only [packA]
  (repeat' (first | exact .nil | exact wkR_c | exact wkR_own | exact wkR_nils | refine wkR_int ?_ | refine wkR_bool ?_ | refine wkR_sl ?_ | refine wkR_osl ?_ | refine wkR_nsl ?_ | refine wkR_oo ?_ | refine wkR_no ?_ | refine .cons ?_ ?_ | refine wkR_agg ?_ | refine wkR_tup ?_)) <;> simp_all <;> omega
 case b3 =>
  have hp3 := hb3
  try simp only [kb] at hp3
  try simp only [hb3]
  refine aops_orunN 5 _ _ ?_
  simp only [qq, seval, -Nat.reducePow, reduceIte, reduceCtorEq, hb3]
  refine nil_z hL2 ?_
  refine awp_ret ?_
  try simp only [rk_state]
  refine ⟨_, 0, by simp only [qq, seval, -Nat.reducePow, reduceIte, reduceCtorEq, resA, Try.results95, hb3]; rfl, ?_, nomem_a, nomem_a⟩
  simp only [packA]
  (repeat' (first | exact .nil | exact wkR_c | exact wkR_own | exact wkR_nils | refine wkR_int ?_ | refine wkR_bool ?_ | refine wkR_sl ?_ | refine wkR_osl ?_ | refine wkR_nsl ?_ | refine wkR_oo ?_ | refine wkR_no ?_ | refine .cons ?_ ?_ | refine wkR_agg ?_ | refine wkR_tup ?_)) <;> simp_all <;> omega
set_option maxHeartbeats 4000000 in
set_option maxRecDepth 50000 in
theorem put_fun (l : List Bool) (n w : Int) (hl : l.length ≤ 140737488355288) (hn : n ≤ 9223372036854775807) : Fun Try.prog 32 [.c (.sl 4 (Rw boC l)), .c (.int .i64 n), .c (.int .i64 w)] nomem (.tup [.own false 0 4 (Rw boC (putR l n w).1), .c (.int .i64 (putR l n w).2)]) nomem := by
 refine fun_of_awp Try.func32 rfl (by decide +kernel) (by decide +kernel) (Nat.le_of_ble_eq_true rfl) (fun _ _ => rfl) (fun _ _ => rfl) ?_
 refine seq_reg 2 fun L1 hL1 => ?_
 simp only [qq, seval, -Nat.reducePow, reduceIte, reduceCtorEq]
 refine nil_z hL1 ?_
 refine awp_seq_k fun K2 hK2 => ?_
 refine seq_reg 3 fun L3 hL3 => ?_
 simp only [qq, seval, -Nat.reducePow, reduceIte, reduceCtorEq]
 refine aops_part (b := ?p4) 11 ?h4 (fun hb4 => ?a4) (fun hb4 => ?b4)
 case h4 => simp only [qq, seval, -Nat.reducePow, reduceIte, reduceCtorEq]; rfl
 case a4 =>
  have hp4 := hb4
  try simp only [kb] at hp4
  try simp only [hb4]
  refine aops_orunN 13 _ _ ?_
  simp only [qq, seval, -Nat.reducePow, reduceIte, reduceCtorEq, hb4]
  refine nil_z hL3 ?_
  refine awp_cond (t := true) (by simp only [qq, seval, -Nat.reducePow, reduceIte, reduceCtorEq, hb4]) (fun _ => ?_) (fun h => ?_)
  case refine_2 => cases h
  refine seq_reg 2 fun L5 hL5 => ?_
  simp only [qq, seval, -Nat.reducePow, reduceIte, reduceCtorEq, hb4]
  refine nil_z hL5 ?_
  as_aux_lemma =>
   refine awp_ret ?_
   try simp only [rk_state]
   first | refine ⟨_, d, by simp only [qq, seval, -Nat.reducePow, reduceIte, reduceCtorEq, resA, Try.results32, hb4]; rfl, ?_, nomem_a, nomem_a⟩ | refine ⟨_, 0, by simp only [qq, seval, -Nat.reducePow, reduceIte, reduceCtorEq, resA, Try.results32, hb4]; rfl, ?_, nomem_a, nomem_a⟩
   simp only [packA]
   (repeat' (first | exact .nil | exact wkR_c | exact wkR_own | exact wkR_nils | refine wkR_int ?_ | refine wkR_bool ?_ | refine wkR_sl ?_ | refine wkR_osl ?_ | refine wkR_nsl ?_ | refine wkR_oo ?_ | refine wkR_no ?_ | refine .cons ?_ ?_ | refine wkR_agg ?_ | refine wkR_tup ?_)) <;> (simp only [putR]; first | (rw [if_neg (by unfold putOk; omega)]; first | done | rfl) | (rw [if_neg (by intro hc; have := (shr_zero (n := n) (w := w.toNat) (by omega)).2 hc.2.2.2; omega)]; first | done | rfl) | (rw [if_pos (by refine ⟨by omega, by omega, by omega, (shr_zero (by omega)).1 (by omega)⟩)]; first | done | rfl | (rw [List.take_of_length_le (by rw [bitsN_len]; omega)])))
 case b4 =>
  have hp4 := hb4
  try simp only [kb] at hp4
  try simp only [hb4]
  refine aops_orunN 4 _ _ ?_
  simp only [qq, seval, -Nat.reducePow, reduceIte, reduceCtorEq, hb4]
  refine aops_part (b := ?p6) 15 ?h6 (fun hb6 => ?a6) (fun hb6 => ?b6)
  case h6 => simp only [qq, seval, -Nat.reducePow, reduceIte, reduceCtorEq, hb4]; rfl
  case a6 =>
   have hp6 := hb6
   try simp only [kb] at hp6
   try simp only [hb6]
   refine aops_orunN 9 _ _ ?_
   simp only [qq, seval, -Nat.reducePow, reduceIte, reduceCtorEq, hb4, hb6]
   refine nil_z hL3 ?_
   refine awp_cond (t := true) (by simp only [qq, seval, -Nat.reducePow, reduceIte, reduceCtorEq, hb4, hb6]) (fun _ => ?_) (fun h => ?_)
   case refine_2 => cases h
   refine seq_reg 2 fun L7 hL7 => ?_
   simp only [qq, seval, -Nat.reducePow, reduceIte, reduceCtorEq, hb4, hb6]
   refine nil_z hL7 ?_
   refine awp_ret ?_
   try simp only [rk_state]
   first | refine ⟨_, d, by simp only [qq, seval, -Nat.reducePow, reduceIte, reduceCtorEq, resA, Try.results32, hb4, hb6]; rfl, ?_, nomem_a, nomem_a⟩ | refine ⟨_, 0, by simp only [qq, seval, -Nat.reducePow, reduceIte, reduceCtorEq, resA, Try.results32, hb4, hb6]; rfl, ?_, nomem_a, nomem_a⟩
   simp only [packA]
   (repeat' (first | exact .nil | exact wkR_c | exact wkR_own | exact wkR_nils | refine wkR_int ?_ | refine wkR_bool ?_ | refine wkR_sl ?_ | refine wkR_osl ?_ | refine wkR_nsl ?_ | refine wkR_oo ?_ | refine wkR_no ?_ | refine .cons ?_ ?_ | refine wkR_agg ?_ | refine wkR_tup ?_)) <;> (simp only [putR]; first | (rw [if_neg (by unfold putOk; omega)]; first | done | rfl) | (rw [if_neg (by intro hc; have := (shr_zero (n := n) (w := w.toNat) (by omega)).2 hc.2.2.2; omega)]; first | done | rfl) | (rw [if_pos (by refine ⟨by omega, by omega, by omega, (shr_zero (by omega)).1 (by omega)⟩)]; first | done | rfl | (rw [List.take_of_length_le (by rw [bitsN_len]; omega)])))
  case b6 =>
   have hp6 := hb6
   try simp only [kb] at hp6
   try simp only [hb6]
   refine aops_orunN 4 _ _ ?_
   simp only [qq, seval, -Nat.reducePow, reduceIte, reduceCtorEq, hb4, hb6]
   refine aops_part (b := ?p8) 19 ?h8 (fun hb8 => ?a8) (fun hb8 => ?b8)
   case h8 => simp only [qq, seval, -Nat.reducePow, reduceIte, reduceCtorEq, hb4, hb6]; rfl
   case a8 =>
    have hp8 := hb8
    try simp only [kb] at hp8
    try simp only [hb8]
    refine aops_orunN 5 _ _ ?_
    simp only [qq, seval, -Nat.reducePow, reduceIte, reduceCtorEq, hb4, hb6, hb8]
    refine nil_z hL3 ?_
    refine awp_cond (t := true) (by simp only [qq, seval, -Nat.reducePow, reduceIte, reduceCtorEq, hb4, hb6, hb8]) (fun _ => ?_) (fun h => ?_)
    case refine_2 => cases h
    refine seq_reg 2 fun L9 hL9 => ?_
    simp only [qq, seval, -Nat.reducePow, reduceIte, reduceCtorEq, hb4, hb6, hb8]
    refine nil_z hL9 ?_
    refine awp_ret ?_
    try simp only [rk_state]
    first | refine ⟨_, d, by simp only [qq, seval, -Nat.reducePow, reduceIte, reduceCtorEq, resA, Try.results32, hb4, hb6, hb8]; rfl, ?_, nomem_a, nomem_a⟩ | refine ⟨_, 0, by simp only [qq, seval, -Nat.reducePow, reduceIte, reduceCtorEq, resA, Try.results32, hb4, hb6, hb8]; rfl, ?_, nomem_a, nomem_a⟩
    simp only [packA]
    (repeat' (first | exact .nil | exact wkR_c | exact wkR_own | exact wkR_nils | refine wkR_int ?_ | refine wkR_bool ?_ | refine wkR_sl ?_ | refine wkR_osl ?_ | refine wkR_nsl ?_ | refine wkR_oo ?_ | refine wkR_no ?_ | refine .cons ?_ ?_ | refine wkR_agg ?_ | refine wkR_tup ?_)) <;> (simp only [putR]; first | (rw [if_neg (by unfold putOk; omega)]; first | done | rfl) | (rw [if_neg (by intro hc; have := (shr_zero (n := n) (w := w.toNat) (by omega)).2 hc.2.2.2; omega)]; first | done | rfl) | (rw [if_pos (by refine ⟨by omega, by omega, by omega, (shr_zero (by omega)).1 (by omega)⟩)]; first | done | rfl | (rw [List.take_of_length_le (by rw [bitsN_len]; omega)])))
   case b8 =>
    have hp8 := hb8
    try simp only [kb] at hp8
    try simp only [hb8]
    refine aops_orunN 2 _ _ ?_
    simp only [qq, seval, -Nat.reducePow, reduceIte, reduceCtorEq, hb4, hb6, hb8]
    have s8 : min w.toNat IntKind.i64.bits = w.toNat := by show min w.toNat 64 = _; omega
    have s9 : n.fdiv (2 ^ w.toNat) = n / 2 ^ w.toNat := fdiv_pow (by omega) _
    refine aops_val (v := ?v10) (by simp only [qq, seval, -Nat.reducePow, reduceIte, reduceCtorEq, hb4, hb6, hb8, s8, s9]) ?h10 ?_
    case h10 => simp only [qq, seval, -Nat.reducePow, reduceIte, reduceCtorEq, hb4, hb6, hb8, s8, s9]; (rw [y_shr] <;> omega)
    simp only [qq, seval, -Nat.reducePow, reduceIte, reduceCtorEq, hb4, hb6, hb8, s8, s9]
    refine aops_orunN 2 _ _ ?_
    simp only [qq, seval, -Nat.reducePow, reduceIte, reduceCtorEq, hb4, hb6, hb8, s8, s9]
    refine nil_z hL3 ?_
    refine awp_cond (t := ?t11) ?h11 (fun hb11 => ?a11) (fun hb11 => ?b11)
    case h11 => simp only [qq, seval, -Nat.reducePow, reduceIte, reduceCtorEq, hb4, hb6, hb8, s8, s9]; rfl
    case a11 =>
     have hp11 := hb11
     try simp only [kb] at hp11
     refine seq_reg 2 fun L12 hL12 => ?_
     simp only [qq, seval, -Nat.reducePow, reduceIte, reduceCtorEq, hb4, hb6, hb8, s8, s9, hb11]
     refine nil_z hL12 ?_
     as_aux_lemma =>
      refine awp_ret ?_
      try simp only [rk_state]
      first | refine ⟨_, d, by simp only [qq, seval, -Nat.reducePow, reduceIte, reduceCtorEq, resA, Try.results32, hb4, hb6, hb8, s8, s9, hb11]; rfl, ?_, nomem_a, nomem_a⟩ | refine ⟨_, 0, by simp only [qq, seval, -Nat.reducePow, reduceIte, reduceCtorEq, resA, Try.results32, hb4, hb6, hb8, s8, s9, hb11]; rfl, ?_, nomem_a, nomem_a⟩
      simp only [packA]
      (repeat' (first | exact .nil | exact wkR_c | exact wkR_own | exact wkR_nils | refine wkR_int ?_ | refine wkR_bool ?_ | refine wkR_sl ?_ | refine wkR_osl ?_ | refine wkR_nsl ?_ | refine wkR_oo ?_ | refine wkR_no ?_ | refine .cons ?_ ?_ | refine wkR_agg ?_ | refine wkR_tup ?_)) <;> (simp only [putR]; first | (rw [if_neg (by unfold putOk; omega)]; first | done | rfl) | (rw [if_neg (by intro hc; have := (shr_zero (n := n) (w := w.toNat) (by omega)).2 hc.2.2.2; omega)]; first | done | rfl) | (rw [if_pos (by refine ⟨by omega, by omega, by omega, (shr_zero (by omega)).1 (by omega)⟩)]; first | done | rfl | (rw [List.take_of_length_le (by rw [bitsN_len]; omega)])))
    case b11 =>
     have hp11 := hb11
     try simp only [kb] at hp11
     refine awp_skip ?_
     refine hK2 _ ?_
     refine seq_reg 1 fun L13 hL13 => ?_
     simp only [qq, seval, -Nat.reducePow, reduceIte, reduceCtorEq, hb4, hb6, hb8, s8, s9, hb11]
     refine aops_call_own (clone_bool_fun _ ?s14_0) rfl rfl rfl rfl (by (try simp only [qq, seval, -Nat.reducePow, reduceIte, reduceCtorEq, hb4, hb6, hb8, s8, s9, hb11]); (repeat' (first | exact .nil | exact wk_c | exact wk_ownc | exact wk_nilsc | exact wk_nils | exact wk_fn | refine .cons ?_ ?_ | refine wk_agg ?_ | refine wk_fnL ?_))) rfl rfl rfl (by simp only [qq, seval, -Nat.reducePow, reduceIte, reduceCtorEq, hb4, hb6, hb8, s8, s9, hb11]) ?m14
     case s14_0 => first | assumption | omega | decide +kernel | (simp only [List.length_take, List.length_drop]; omega)
     simp only [qq, seval, -Nat.reducePow, reduceIte, reduceCtorEq, AV.setOwn, AV.setOwn1, hb4, hb6, hb8, s8, s9, hb11]
     refine aops_orunN 1 _ _ ?_
     simp only [qq, seval, -Nat.reducePow, reduceIte, reduceCtorEq, hb4, hb6, hb8, s8, s9, hb11]
     refine aops_nil (hL13 _ ?_)
     simp only [qq, seval, -Nat.reducePow, reduceIte, reduceCtorEq, hb4, hb6, hb8, s8, s9, hb11]
     refine awp_seq_k fun K15 hK15 => ?_
     refine seq_reg 1 fun L16 hL16 => ?_
     simp only [qq, seval, -Nat.reducePow, reduceIte, reduceCtorEq, hb4, hb6, hb8, s8, s9, hb11]
     refine aops_val (v := ?v17) rfl ?h17 ?_
     case h17 => simp only [qq, seval, -Nat.reducePow, reduceIte, reduceCtorEq, hb4, hb6, hb8, s8, s9, hb11]; first | (rw [wr_id] <;> omega) | rfl
     simp only [qq, seval, -Nat.reducePow, reduceIte, reduceCtorEq, hb4, hb6, hb8, s8, s9, hb11]
     refine aops_orunN 1 _ _ ?_
     simp only [qq, seval, -Nat.reducePow, reduceIte, reduceCtorEq, hb4, hb6, hb8, s8, s9, hb11]
     refine nil_z hL16 ?_
     refine awp_block ?_
     refine awp_loopW (W := [29, 30, 33, 34, 35, 36, 37, 38, 39, 40, 0, 31, 32, 8]) (M := []) rfl rfl (fun kk s => ∃ (j : Nat) (d : Nat), kk = w.toNat - j ∧ (j ≤ w.toNat) ∧ s.t 0 = .own false d 4 (Rw boC (l ++ (bitsN w.toNat n).take j)) ∧ s.t 8 = .c (.int .i64 (w - 1 - (j : Int)))) ((fun (j : Nat) (d : Nat) => w.toNat - j) (0) (26)) ?i18 ?r18
     case i18 =>
      refine ⟨0, 26, rfl, ?_, ?_, ?_⟩
      · first | omega | simp
      · (try simp only [qq, seval, -Nat.reducePow, reduceIte, reduceCtorEq, hb4, hb6, hb8, s8, s9, hb11])
        all_goals first | done | (simp only [List.take_zero, List.append_nil]; done)
      · (try simp only [qq, seval, -Nat.reducePow, reduceIte, reduceCtorEq, hb4, hb6, hb8, s8, s9, hb11])
        all_goals (first | done | rfl | (simp only [AV.c.injEq, C.int.injEq, List.cons.injEq, and_true, true_and]; omega))
     case r18 =>
      rintro kk s hf ⟨j, d, rfl, hq5_0, s18t0, s18t8⟩ K18 hK18
      have s18f1 := hf 1 rfl (by (try simp only [qq, seval, -Nat.reducePow, reduceIte, reduceCtorEq, kn, hb4, hb6, hb8, s8, s9, hb11]); all_goals rfl)
      simp only [qq, seval, -Nat.reducePow, reduceIte, reduceCtorEq, hb4, hb6, hb8, s8, s9, hb11] at s18f1
      have s18f6 := hf 6 rfl (by (try simp only [qq, seval, -Nat.reducePow, reduceIte, reduceCtorEq, kn, hb4, hb6, hb8, s8, s9, hb11]); all_goals rfl)
      simp only [qq, seval, -Nat.reducePow, reduceIte, reduceCtorEq, hb4, hb6, hb8, s8, s9, hb11] at s18f6
      have s18f7 := hf 7 rfl (by (try simp only [qq, seval, -Nat.reducePow, reduceIte, reduceCtorEq, kn, hb4, hb6, hb8, s8, s9, hb11]); all_goals rfl)
      simp only [qq, seval, -Nat.reducePow, reduceIte, reduceCtorEq, hb4, hb6, hb8, s8, s9, hb11] at s18f7
      clear hf
      refine awp_seq_k fun K19 hK19 => ?_
      refine seq_reg 2 fun L20 hL20 => ?_
      simp only [qq, seval, -Nat.reducePow, reduceIte, reduceCtorEq, hb4, hb6, hb8, s8, s9, hb11, s18t0, s18t8, s18f1, s18f6, s18f7]
      refine nil_z hL20 ?_
      as_aux_lemma =>
       refine awp_cond (t := ?t21) ?h21 (fun hb21 => ?a21) (fun hb21 => ?b21)
       case h21 => simp only [qq, seval, -Nat.reducePow, reduceIte, reduceCtorEq, hb4, hb6, hb8, s8, s9, hb11, s18t0, s18t8, s18f1, s18f6, s18f7]; rfl
       case a21 =>
        have hp21 := hb21
        try simp only [kb] at hp21
        refine awp_skip ?_
        refine hK19 _ ?_
        refine awp_seq_k fun K22 hK22 => ?_
        refine awp_block ?_
        refine reg 3 fun L23 hL23 => ?_
        simp only [qq, seval, -Nat.reducePow, reduceIte, reduceCtorEq, hb4, hb6, hb8, s8, s9, hb11, s18t0, s18t8, s18f1, s18f6, s18f7, hb21]
        have s10 : (w - 1 - (j : Int)).toNat = w.toNat - 1 - j := by omega
        have s11 : min (w.toNat - 1 - j) IntKind.i64.bits = w.toNat - 1 - j := by show min _ 64 = _; omega
        have s12 := fdiv_pow (a := n) (by omega) (w.toNat - 1 - j)
        have hdp := div_pow_le (a := n) (by omega) (w.toNat - 1 - j)
        have s13 := and_one (a := n / 2 ^ (w.toNat - 1 - j)) (by omega) (by omega)
        have s14 : (n / 2 ^ (w.toNat - 1 - j) % 2 == 1) = bitAt n (w.toNat - 1 - j) := rfl
        refine aops_val (v := ?v24) rfl ?h24 ?_
        case h24 => simp only [qq, seval, -Nat.reducePow, reduceIte, reduceCtorEq, hb4, hb6, hb8, s8, s9, hb11, s18t0, s18t8, s18f1, s18f6, s18f7, hb21, s10, s11, s12, s13, s14]; (rw [y_shr] <;> omega)
        simp only [qq, seval, -Nat.reducePow, reduceIte, reduceCtorEq, hb4, hb6, hb8, s8, s9, hb11, s18t0, s18t8, s18f1, s18f6, s18f7, hb21, s10, s11, s12, s13, s14]
        refine aops_orunN 3 _ _ ?_
        simp only [qq, seval, -Nat.reducePow, reduceIte, reduceCtorEq, hb4, hb6, hb8, s8, s9, hb11, s18t0, s18t8, s18f1, s18f6, s18f7, hb21, s10, s11, s12, s13, s14]
        refine aops_append (rows := ?rows25) (new := ?new25) rfl rfl rfl rfl rfl rfl un36 ?hx25 (by simp only [qq, seval, -Nat.reducePow, reduceIte, reduceCtorEq, maskO, maskN, hb4, hb6, hb8, s8, s9, hb11, s18t0, s18t8, s18f1, s18f6, s18f7, hb21, s10, s11, s12, s13, s14]) (by simp only [qq, seval, -Nat.reducePow, reduceIte, reduceCtorEq, maskO, maskN, hb4, hb6, hb8, s8, s9, hb11, s18t0, s18t8, s18f1, s18f6, s18f7, hb21, s10, s11, s12, s13, s14]) (by simp only [qq, seval, -Nat.reducePow, reduceIte, reduceCtorEq, hb4, hb6, hb8, s8, s9, hb11, s18t0, s18t8, s18f1, s18f6, s18f7, hb21, s10, s11, s12, s13, s14]) ?hy25 (by simp only [tyf]; rfl) (by simp only [tyf]; decide) ?hsz25 ?hml25 ?hh25
        case hx25 => simp only [qq, seval, -Nat.reducePow, reduceIte, reduceCtorEq, AV.base, hb4, hb6, hb8, s8, s9, hb11, s18t0, s18t8, s18f1, s18f6, s18f7, hb21, s10, s11, s12, s13, s14]; rfl
        case hy25 => simp only [qq, seval, -Nat.reducePow, reduceIte, reduceCtorEq, hb4, hb6, hb8, s8, s9, hb11, s18t0, s18t8, s18f1, s18f6, s18f7, hb21, s10, s11, s12, s13, s14]; rfl
        case hsz25 => ((try simp only [tyf, rwR, List.length_append, List.length_cons, List.length_nil, List.length_take, List.length_drop]); omega)
        case hml25 => ((try simp only [maxLen, tyf, rwR, List.length_append, List.length_cons, List.length_nil, List.length_take, List.length_drop]); omega)
        simp only [qq, seval, -Nat.reducePow, reduceIte, reduceCtorEq, maskO, maskN, hb4, hb6, hb8, s8, s9, hb11, s18t0, s18t8, s18f1, s18f6, s18f7, hb21, s10, s11, s12, s13, s14]
        refine aops_orunN 1 _ _ ?_
        simp only [qq, seval, -Nat.reducePow, reduceIte, reduceCtorEq, hb4, hb6, hb8, s8, s9, hb11, s18t0, s18t8, s18f1, s18f6, s18f7, hb21, s10, s11, s12, s13, s14]
        refine aops_nil (hL23 _ ?_)
        simp only [qq, seval, -Nat.reducePow, reduceIte, reduceCtorEq, hb4, hb6, hb8, s8, s9, hb11, s18t0, s18t8, s18f1, s18f6, s18f7, hb21, s10, s11, s12, s13, s14]
        try simp only [rk_state]
        refine hK22 _ ?_
        refine reg 1 fun L26 hL26 => ?_
        simp only [qq, seval, -Nat.reducePow, reduceIte, reduceCtorEq, hb4, hb6, hb8, s8, s9, hb11, s18t0, s18t8, s18f1, s18f6, s18f7, hb21, s10, s11, s12, s13, s14]
        refine aops_val (v := ?v27) rfl ?h27 ?_
        case h27 => simp only [qq, seval, -Nat.reducePow, reduceIte, reduceCtorEq, hb4, hb6, hb8, s8, s9, hb11, s18t0, s18t8, s18f1, s18f6, s18f7, hb21, s10, s11, s12, s13, s14]; first | (rw [wr_id] <;> omega) | rfl
        simp only [qq, seval, -Nat.reducePow, reduceIte, reduceCtorEq, hb4, hb6, hb8, s8, s9, hb11, s18t0, s18t8, s18f1, s18f6, s18f7, hb21, s10, s11, s12, s13, s14]
        refine aops_orunN 1 _ _ ?_
        simp only [qq, seval, -Nat.reducePow, reduceIte, reduceCtorEq, hb4, hb6, hb8, s8, s9, hb11, s18t0, s18t8, s18f1, s18f6, s18f7, hb21, s10, s11, s12, s13, s14]
        refine nil_q hL26 ?_
        try simp only [rk_state]
        have hsn : (bitsN w.toNat n).take (j + 1) = (bitsN w.toNat n).take j ++ [bitAt n (w.toNat - 1 - j)] := by rw [take_next (by rw [bitsN_len]; omega), bitsN_get (by omega)]
        refine hK18 _ ((fun (j : Nat) (d : Nat) => w.toNat - j) (j + 1) (40)) ?_ ⟨j + 1, 40, rfl, ?_, ?_, ?_⟩
        · (try simp only []); omega
        · first | omega | simp
        · (try simp only [qq, seval, -Nat.reducePow, reduceIte, reduceCtorEq, hb4, hb6, hb8, s8, s9, hb11, s18t0, s18t8, s18f1, s18f6, s18f7, hb21, s10, s11, s12, s13, s14])
          all_goals first | done | (rw [hsn, ← List.append_assoc])
        · (try simp only [qq, seval, -Nat.reducePow, reduceIte, reduceCtorEq, hb4, hb6, hb8, s8, s9, hb11, s18t0, s18t8, s18f1, s18f6, s18f7, hb21, s10, s11, s12, s13, s14])
          all_goals (first | done | rfl | (simp only [AV.c.injEq, C.int.injEq, List.cons.injEq, and_true, true_and]; omega))
       case b21 =>
        have hp21 := hb21
        try simp only [kb] at hp21
        refine awp_exit ?_
        simp only [rk_state, reduceIte, Nat.reduceEqDiff]
        refine hK15 _ ?_
        refine seq_reg 3 fun L28 hL28 => ?_
        simp only [qq, seval, -Nat.reducePow, reduceIte, reduceCtorEq, hb4, hb6, hb8, s8, s9, hb11, s18t0, s18t8, s18f1, s18f6, s18f7, hb21]
        refine nil_z hL28 ?_
        as_aux_lemma =>
         refine awp_ret ?_
         try simp only [rk_state]
         first | refine ⟨_, d, by simp only [qq, seval, -Nat.reducePow, reduceIte, reduceCtorEq, resA, Try.results32, hb4, hb6, hb8, s8, s9, hb11, s18t0, s18t8, s18f1, s18f6, s18f7, hb21]; rfl, ?_, nomem_a, nomem_a⟩ | refine ⟨_, 0, by simp only [qq, seval, -Nat.reducePow, reduceIte, reduceCtorEq, resA, Try.results32, hb4, hb6, hb8, s8, s9, hb11, s18t0, s18t8, s18f1, s18f6, s18f7, hb21]; rfl, ?_, nomem_a, nomem_a⟩
         simp only [packA]
         (repeat' (first | exact .nil | exact wkR_c | exact wkR_own | exact wkR_nils | refine wkR_int ?_ | refine wkR_bool ?_ | refine wkR_sl ?_ | refine wkR_osl ?_ | refine wkR_nsl ?_ | refine wkR_oo ?_ | refine wkR_no ?_ | refine .cons ?_ ?_ | refine wkR_agg ?_ | refine wkR_tup ?_)) <;> (simp only [putR]; first | (rw [if_neg (by unfold putOk; omega)]; first | done | rfl) | (rw [if_neg (by intro hc; have := (shr_zero (n := n) (w := w.toNat) (by omega)).2 hc.2.2.2; omega)]; first | done | rfl) | (rw [if_pos (by refine ⟨by omega, by omega, by omega, (shr_zero (by omega)).1 (by omega)⟩)]; first | done | rfl | (rw [List.take_of_length_le (by rw [bitsN_len]; omega)])))
end Go.Proofs.Y
