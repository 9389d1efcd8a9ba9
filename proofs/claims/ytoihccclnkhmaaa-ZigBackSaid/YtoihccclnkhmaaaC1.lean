/-
  What is proved: bits: what Clone, Equal, Put, Read, Take compute. Conditions: none.
-/
import Derived.Test.YtoihccclnkhmaaaTy
import Derived.Test.YtoihccclnkhmaaaP1
import Derived.Test.YtoihccclnkhmaaaP0
set_option linter.unusedVariables false
set_option linter.unusedSimpArgs false
set_option maxRecDepth 4000
namespace Go.Proofs.Y
open Go.Rb
set_option maxHeartbeats 4000000 in
set_option maxRecDepth 50000 in
theorem clone_bool_fun (l : List Bool) (hl : l.length ≤ 140737488355328) : Fun Try.prog 93 [.c (.sl 4 (Rw boC l))] nomem (.own false 0 4 (Rw boC l)) nomem := by
 refine fun_of_awp Try.func93 rfl (by decide +kernel) (by decide +kernel) (Nat.le_of_ble_eq_true rfl) (fun _ _ => rfl) (fun _ _ => rfl) ?_
 refine awp_seq_k fun K1 hK1 => ?_
 refine awp_region_lit fun L2 hL2 => ?_
 refine aops_orunN 1 _ _ ?_
 simp only [qq, Nat.reduceBEq, reduceIte, Nat.reduceEqDiff, Nat.reduceAdd, Nat.reduceLeDiff, reduceCtorEq, Nat.reduceMul, Int.reduceToNat]
 refine aops_nil (hL2 _ ?_)
 simp only [qq, Nat.reduceBEq, reduceIte, Nat.reduceEqDiff, Nat.reduceAdd, Nat.reduceLeDiff, reduceCtorEq, Nat.reduceMul, Int.reduceToNat]
 try simp only [rk_state]
 refine hK1 _ ?_
 refine awp_seq_k fun K3 hK3 => ?_
 refine awp_seq_k fun K4 hK4 => ?_
 refine awp_region_lit fun L5 hL5 => ?_
 refine aops_orunN 1 _ _ ?_
 simp only [qq, Nat.reduceBEq, reduceIte, Nat.reduceEqDiff, Nat.reduceAdd, Nat.reduceLeDiff, reduceCtorEq, Nat.reduceMul, Int.reduceToNat]
 refine aops_nilcmp (rows := ?r6) un36 rfl rfl (by decide) ?y6 ?x6 (fun b6 hnil6 => ?_)
 case y6 => simp only [qq, Nat.reduceBEq, reduceIte, Nat.reduceEqDiff, Nat.reduceAdd, Nat.reduceLeDiff, reduceCtorEq, Nat.reduceMul, Int.reduceToNat]
 case x6 => simp only [qq, Nat.reduceBEq, reduceIte, Nat.reduceEqDiff, Nat.reduceAdd, Nat.reduceLeDiff, reduceCtorEq, Nat.reduceMul, Int.reduceToNat]; rfl
 simp only [qq, Nat.reduceBEq, reduceIte, Nat.reduceEqDiff, Nat.reduceAdd, Nat.reduceLeDiff, reduceCtorEq, Nat.reduceMul, Int.reduceToNat]
 refine aops_nil (hL5 _ ?_)
 simp only [qq, Nat.reduceBEq, reduceIte, Nat.reduceEqDiff, Nat.reduceAdd, Nat.reduceLeDiff, reduceCtorEq, Nat.reduceMul, Int.reduceToNat]
 try simp only [rk_state]
 refine hK4 _ ?_
 refine awp_cond (t := ?t7) ?h7 (fun hb7 => ?a7) (fun hb7 => ?b7)
 case h7 => simp only [qq, Nat.reduceBEq, reduceIte, Nat.reduceEqDiff, Nat.reduceAdd, Nat.reduceLeDiff, reduceCtorEq, Nat.reduceMul, Int.reduceToNat]; rfl
 case a7 =>
  have hp7 := hb7
  try simp only [kb] at hp7
  all_goals try exact absurd hb7 (by decide)
  all_goals try (exfalso; omega)
  all_goals
   refine awp_seq_k fun K8 hK8 => ?_
   refine awp_region_lit fun L9 hL9 => ?_
   refine aops_orunN 1 _ _ ?_
   simp only [qq, Nat.reduceBEq, reduceIte, Nat.reduceEqDiff, Nat.reduceAdd, Nat.reduceLeDiff, reduceCtorEq, Nat.reduceMul, Int.reduceToNat, hb7]
   refine aops_nil (hL9 _ ?_)
   simp only [qq, Nat.reduceBEq, reduceIte, Nat.reduceEqDiff, Nat.reduceAdd, Nat.reduceLeDiff, reduceCtorEq, Nat.reduceMul, Int.reduceToNat, hb7]
   try simp only [rk_state]
   refine hK8 _ ?_
   as_aux_lemma =>
    refine awp_ret ?_
    try simp only [rk_state]
    first | refine ⟨_, 7, by simp only [qq, Nat.reduceBEq, reduceIte, Nat.reduceEqDiff, Nat.reduceAdd, Nat.reduceLeDiff, reduceCtorEq, Nat.reduceMul, Int.reduceToNat, resA, Try.results93, hb7]; rfl, ?_, fun l hl => absurd rfl hl, fun l hl => absurd rfl hl⟩ | refine ⟨_, 0, by simp only [qq, Nat.reduceBEq, reduceIte, Nat.reduceEqDiff, Nat.reduceAdd, Nat.reduceLeDiff, reduceCtorEq, Nat.reduceMul, Int.reduceToNat, resA, Try.results93, hb7]; rfl, ?_, fun l hl => absurd rfl hl, fun l hl => absurd rfl hl⟩
    simp only [packA]
    (repeat' (first | exact .nil | exact wkR_c | exact wkR_own | exact wkR_nils | refine wkR_int ?_ | refine wkR_bool ?_ | refine wkR_sl ?_ | refine wkR_osl ?_ | refine wkR_nsl ?_ | refine wkR_oo ?_ | refine wkR_no ?_ | refine .cons ?_ ?_ | refine wkR_agg ?_ | refine wkR_tup ?_)) <;> simp_all
 case b7 =>
  have hp7 := hb7
  try simp only [kb] at hp7
  all_goals try exact absurd hb7 (by decide)
  all_goals try (exfalso; omega)
  all_goals
   refine awp_skip ?_
   try simp only [rk_state]
   refine hK3 _ ?_
   refine awp_seq_k fun K10 hK10 => ?_
   refine awp_region_lit fun L11 hL11 => ?_
   refine aops_orunN 2 _ _ ?_
   simp only [qq, Nat.reduceBEq, reduceIte, Nat.reduceEqDiff, Nat.reduceAdd, Nat.reduceLeDiff, reduceCtorEq, Nat.reduceMul, Int.reduceToNat, hb7]
   refine aops_append (rows := ?rows12) (new := ?new12) rfl rfl rfl rfl rfl rfl un36 ?hx12 (by simp only [qq, Nat.reduceBEq, reduceIte, Nat.reduceEqDiff, Nat.reduceAdd, Nat.reduceLeDiff, reduceCtorEq, Nat.reduceMul, Int.reduceToNat, maskO, maskN, hb7]) (by simp only [qq, Nat.reduceBEq, reduceIte, Nat.reduceEqDiff, Nat.reduceAdd, Nat.reduceLeDiff, reduceCtorEq, Nat.reduceMul, Int.reduceToNat, maskO, maskN, hb7]) (by simp only [qq, Nat.reduceBEq, reduceIte, Nat.reduceEqDiff, Nat.reduceAdd, Nat.reduceLeDiff, reduceCtorEq, Nat.reduceMul, Int.reduceToNat, hb7]) ?hy12 (by simp only [tyf]; rfl) (by simp only [tyf]; decide) ?hsz12 ?hml12 ?hh12
   case hx12 => simp only [qq, Nat.reduceBEq, reduceIte, Nat.reduceEqDiff, Nat.reduceAdd, Nat.reduceLeDiff, reduceCtorEq, Nat.reduceMul, Int.reduceToNat, AV.base, hb7]; rfl
   case hy12 => simp only [qq, Nat.reduceBEq, reduceIte, Nat.reduceEqDiff, Nat.reduceAdd, Nat.reduceLeDiff, reduceCtorEq, Nat.reduceMul, Int.reduceToNat, hb7]; rfl
   case hsz12 => ((try simp only [tyf, rwR, List.length_append, List.length_cons, List.length_nil, List.length_take, List.length_drop]); omega)
   case hml12 => ((try simp only [maxLen, tyf, rwR, List.length_append, List.length_cons, List.length_nil, List.length_take, List.length_drop]); omega)
   simp only [qq, Nat.reduceBEq, reduceIte, Nat.reduceEqDiff, Nat.reduceAdd, Nat.reduceLeDiff, reduceCtorEq, Nat.reduceMul, Int.reduceToNat, maskO, maskN, hb7]
   refine aops_orunN 1 _ _ ?_
   simp only [qq, Nat.reduceBEq, reduceIte, Nat.reduceEqDiff, Nat.reduceAdd, Nat.reduceLeDiff, reduceCtorEq, Nat.reduceMul, Int.reduceToNat, hb7]
   refine aops_nil (hL11 _ ?_)
   simp only [qq, Nat.reduceBEq, reduceIte, Nat.reduceEqDiff, Nat.reduceAdd, Nat.reduceLeDiff, reduceCtorEq, Nat.reduceMul, Int.reduceToNat, hb7]
   try simp only [rk_state]
   refine hK10 _ ?_
   refine awp_ret ?_
   try simp only [rk_state]
   first | refine ⟨_, 7, by simp only [qq, Nat.reduceBEq, reduceIte, Nat.reduceEqDiff, Nat.reduceAdd, Nat.reduceLeDiff, reduceCtorEq, Nat.reduceMul, Int.reduceToNat, resA, Try.results93, hb7]; rfl, ?_, fun l hl => absurd rfl hl, fun l hl => absurd rfl hl⟩ | refine ⟨_, 0, by simp only [qq, Nat.reduceBEq, reduceIte, Nat.reduceEqDiff, Nat.reduceAdd, Nat.reduceLeDiff, reduceCtorEq, Nat.reduceMul, Int.reduceToNat, resA, Try.results93, hb7]; rfl, ?_, fun l hl => absurd rfl hl, fun l hl => absurd rfl hl⟩
   simp only [packA]
   (repeat' (first | exact .nil | exact wkR_c | exact wkR_own | exact wkR_nils | refine wkR_int ?_ | refine wkR_bool ?_ | refine wkR_sl ?_ | refine wkR_osl ?_ | refine wkR_nsl ?_ | refine wkR_oo ?_ | refine wkR_no ?_ | refine .cons ?_ ?_ | refine wkR_agg ?_ | refine wkR_tup ?_)) <;> simp_all
set_option maxHeartbeats 4000000 in
set_option maxRecDepth 50000 in
theorem equal_bool_fun (a b : List Bool) (ha : a.length < 4611686018427387904) : Fun Try.prog 37 [.c (.sl 4 (Rw boC a)), .c (.sl 4 (Rw boC b))] nomem (.c (.bool (decide (a = b)))) nomem := by
 refine fun_of_awp Try.func37 rfl (by decide +kernel) (by decide +kernel) (Nat.le_of_ble_eq_true rfl) (fun _ _ => rfl) (fun _ _ => rfl) ?_
 refine awp_seq_k fun K1 hK1 => ?_
 refine awp_region_lit fun L2 hL2 => ?_
 refine aops_orunN 1 _ _ ?_
 simp only [qq, Nat.reduceBEq, reduceIte, Nat.reduceEqDiff, Nat.reduceAdd, Nat.reduceLeDiff, reduceCtorEq, Nat.reduceMul, Int.reduceToNat]
 refine aops_nil (hL2 _ ?_)
 simp only [qq, Nat.reduceBEq, reduceIte, Nat.reduceEqDiff, Nat.reduceAdd, Nat.reduceLeDiff, reduceCtorEq, Nat.reduceMul, Int.reduceToNat]
 try simp only [rk_state]
 refine hK1 _ ?_
 refine awp_seq_k fun K3 hK3 => ?_
 refine awp_seq_k fun K4 hK4 => ?_
 refine awp_region_lit fun L5 hL5 => ?_
 refine aops_orunN 5 _ _ ?_
 simp only [qq, Nat.reduceBEq, reduceIte, Nat.reduceEqDiff, Nat.reduceAdd, Nat.reduceLeDiff, reduceCtorEq, Nat.reduceMul, Int.reduceToNat]
 refine aops_nil (hL5 _ ?_)
 simp only [qq, Nat.reduceBEq, reduceIte, Nat.reduceEqDiff, Nat.reduceAdd, Nat.reduceLeDiff, reduceCtorEq, Nat.reduceMul, Int.reduceToNat]
 try simp only [rk_state]
 refine hK4 _ ?_
 refine awp_cond (t := ?t6) ?h6 (fun hb6 => ?a6) (fun hb6 => ?b6)
 case h6 => simp only [qq, Nat.reduceBEq, reduceIte, Nat.reduceEqDiff, Nat.reduceAdd, Nat.reduceLeDiff, reduceCtorEq, Nat.reduceMul, Int.reduceToNat]; rfl
 case a6 =>
  have hp6 := hb6
  try simp only [kb] at hp6
  all_goals try exact absurd hb6 (by decide)
  all_goals try (exfalso; omega)
  all_goals
   refine awp_seq_k fun K7 hK7 => ?_
   refine awp_region_lit fun L8 hL8 => ?_
   refine aops_orunN 1 _ _ ?_
   simp only [qq, Nat.reduceBEq, reduceIte, Nat.reduceEqDiff, Nat.reduceAdd, Nat.reduceLeDiff, reduceCtorEq, Nat.reduceMul, Int.reduceToNat, hb6]
   refine aops_nil (hL8 _ ?_)
   simp only [qq, Nat.reduceBEq, reduceIte, Nat.reduceEqDiff, Nat.reduceAdd, Nat.reduceLeDiff, reduceCtorEq, Nat.reduceMul, Int.reduceToNat, hb6]
   try simp only [rk_state]
   refine hK7 _ ?_
   as_aux_lemma =>
    refine awp_ret ?_
    try simp only [rk_state]
    refine ⟨_, 0, by simp only [qq, Nat.reduceBEq, reduceIte, Nat.reduceEqDiff, Nat.reduceAdd, Nat.reduceLeDiff, reduceCtorEq, Nat.reduceMul, Int.reduceToNat, resA, Try.results37, hb6]; rfl, ?_, fun l hl => absurd rfl hl, fun l hl => absurd rfl hl⟩
    simp only [packA]
    (repeat' (first | exact .nil | exact wkR_c | exact wkR_own | exact wkR_nils | refine wkR_int ?_ | refine wkR_bool ?_ | refine wkR_sl ?_ | refine wkR_osl ?_ | refine wkR_nsl ?_ | refine wkR_oo ?_ | refine wkR_no ?_ | refine .cons ?_ ?_ | refine wkR_agg ?_ | refine wkR_tup ?_)) <;> first | (symm; apply decide_eq_false; intro he; subst he; simp_all; done) | (symm; apply decide_eq_true; exact eq_of_getD (by omega) (fun j hj => hq4_1 j (by omega)))
 case b6 =>
  have hp6 := hb6
  try simp only [kb] at hp6
  all_goals try exact absurd hb6 (by decide)
  all_goals try (exfalso; omega)
  all_goals
   refine awp_skip ?_
   try simp only [rk_state]
   refine hK3 _ ?_
   refine awp_seq_k fun K9 hK9 => ?_
   refine awp_seq_k fun K10 hK10 => ?_
   refine awp_region_lit fun L11 hL11 => ?_
   refine aops_orunN 3 _ _ ?_
   simp only [qq, Nat.reduceBEq, reduceIte, Nat.reduceEqDiff, Nat.reduceAdd, Nat.reduceLeDiff, reduceCtorEq, Nat.reduceMul, Int.reduceToNat, hb6]
   refine aops_nil (hL11 _ ?_)
   simp only [qq, Nat.reduceBEq, reduceIte, Nat.reduceEqDiff, Nat.reduceAdd, Nat.reduceLeDiff, reduceCtorEq, Nat.reduceMul, Int.reduceToNat, hb6]
   try simp only [rk_state]
   refine hK10 _ ?_
   refine awp_block ?_
   refine awp_loopW (W := [14, 15, 5, 16, 17, 18, 19, 20, 21, 22, 23, 24, 4, 25, 13]) (M := []) rfl rfl (fun k s => ∃ (i : Nat), k = a.length - i ∧ (i ≤ a.length) ∧ (∀ j, j < i → a.getD j default = b.getD j default) ∧ s.t 13 = .c (.int .i64 (i : Int))) ((fun (i : Nat) => a.length - i) (0)) ?i12 ?r12
   case i12 =>
    refine ⟨0, rfl, ?_, ?_, ?_⟩
    · omega
    · intro j hj; omega
    · (try simp only [qq, Nat.reduceBEq, reduceIte, Nat.reduceEqDiff, Nat.reduceAdd, Nat.reduceLeDiff, reduceCtorEq, Nat.reduceMul, Int.reduceToNat, hb6])
      all_goals (first | done | rfl | (simp only [AV.c.injEq, C.int.injEq, List.cons.injEq, and_true, true_and]; omega))
   case r12 =>
    rintro k s hf ⟨i, rfl, hq4_0, hq4_1, s12t13⟩ K12 hK12
    have s12f0 := hf 0 rfl (by (try simp only [qq, Nat.reduceBEq, reduceIte, Nat.reduceEqDiff, Nat.reduceAdd, Nat.reduceLeDiff, reduceCtorEq, Nat.reduceMul, Int.reduceToNat, kn, hb6]); all_goals rfl)
    simp only [qq, Nat.reduceBEq, reduceIte, Nat.reduceEqDiff, Nat.reduceAdd, Nat.reduceLeDiff, reduceCtorEq, Nat.reduceMul, Int.reduceToNat, hb6] at s12f0
    have s12f1 := hf 1 rfl (by (try simp only [qq, Nat.reduceBEq, reduceIte, Nat.reduceEqDiff, Nat.reduceAdd, Nat.reduceLeDiff, reduceCtorEq, Nat.reduceMul, Int.reduceToNat, kn, hb6]); all_goals rfl)
    simp only [qq, Nat.reduceBEq, reduceIte, Nat.reduceEqDiff, Nat.reduceAdd, Nat.reduceLeDiff, reduceCtorEq, Nat.reduceMul, Int.reduceToNat, hb6] at s12f1
    have s12f12 := hf 12 rfl (by (try simp only [qq, Nat.reduceBEq, reduceIte, Nat.reduceEqDiff, Nat.reduceAdd, Nat.reduceLeDiff, reduceCtorEq, Nat.reduceMul, Int.reduceToNat, kn, hb6]); all_goals rfl)
    simp only [qq, Nat.reduceBEq, reduceIte, Nat.reduceEqDiff, Nat.reduceAdd, Nat.reduceLeDiff, reduceCtorEq, Nat.reduceMul, Int.reduceToNat, hb6] at s12f12
    clear hf
    refine awp_seq_k fun K13 hK13 => ?_
    refine awp_region_lit fun L14 hL14 => ?_
    refine aops_orunN 1 _ _ ?_
    simp only [qq, Nat.reduceBEq, reduceIte, Nat.reduceEqDiff, Nat.reduceAdd, Nat.reduceLeDiff, reduceCtorEq, Nat.reduceMul, Int.reduceToNat, hb6, s12t13, s12f0, s12f1, s12f12]
    refine aops_nil (hL14 _ ?_)
    simp only [qq, Nat.reduceBEq, reduceIte, Nat.reduceEqDiff, Nat.reduceAdd, Nat.reduceLeDiff, reduceCtorEq, Nat.reduceMul, Int.reduceToNat, hb6, s12t13, s12f0, s12f1, s12f12]
    try simp only [rk_state]
    refine hK13 _ ?_
    refine awp_seq_k fun K15 hK15 => ?_
    refine awp_cond (t := ?t16) ?h16 (fun hb16 => ?a16) (fun hb16 => ?b16)
    case h16 => simp only [qq, Nat.reduceBEq, reduceIte, Nat.reduceEqDiff, Nat.reduceAdd, Nat.reduceLeDiff, reduceCtorEq, Nat.reduceMul, Int.reduceToNat, hb6, s12t13, s12f0, s12f1, s12f12]; rfl
    case a16 =>
     have hp16 := hb16
     try simp only [kb] at hp16
     all_goals try exact absurd hb16 (by decide)
     all_goals try (exfalso; omega)
     all_goals
      refine awp_skip ?_
      try simp only [rk_state]
      refine hK15 _ ?_
      refine awp_seq_k fun K17 hK17 => ?_
      refine awp_block ?_
      refine awp_seq_k fun K18 hK18 => ?_
      refine awp_region_lit fun L19 hL19 => ?_
      refine aops_orunN 2 _ _ ?_
      simp only [qq, Nat.reduceBEq, reduceIte, Nat.reduceEqDiff, Nat.reduceAdd, Nat.reduceLeDiff, reduceCtorEq, Nat.reduceMul, Int.reduceToNat, hb6, s12t13, s12f0, s12f1, s12f12, hb16]
      refine aops_nil (hL19 _ ?_)
      simp only [qq, Nat.reduceBEq, reduceIte, Nat.reduceEqDiff, Nat.reduceAdd, Nat.reduceLeDiff, reduceCtorEq, Nat.reduceMul, Int.reduceToNat, hb6, s12t13, s12f0, s12f1, s12f12, hb16]
      try simp only [rk_state]
      refine hK18 _ ?_
      as_aux_lemma =>
       refine awp_seq_k fun K20 hK20 => ?_
       refine awp_region_dr (by decide +kernel) fun L21 hL21 => ?_
       refine aops_orunN 2 _ _ ?_
       simp only [qq, Nat.reduceBEq, reduceIte, Nat.reduceEqDiff, Nat.reduceAdd, Nat.reduceLeDiff, reduceCtorEq, Nat.reduceMul, Int.reduceToNat, hb6, s12t13, s12f0, s12f1, s12f12, hb16]
       refine aops_val (v := ?v22) rfl ?h22 ?_
       case h22 => simp only [qq, Nat.reduceBEq, reduceIte, Nat.reduceEqDiff, Nat.reduceAdd, Nat.reduceLeDiff, reduceCtorEq, Nat.reduceMul, Int.reduceToNat, hb6, s12t13, s12f0, s12f1, s12f12, hb16]; first | (rw [idx_c un36 if4] <;> omega) | (rw [idx_o un36 if4] <;> omega) | (rw [idx_a un36 if4] <;> omega)
       simp only [qq, Nat.reduceBEq, reduceIte, Nat.reduceEqDiff, Nat.reduceAdd, Nat.reduceLeDiff, reduceCtorEq, Nat.reduceMul, Int.reduceToNat, hb6, s12t13, s12f0, s12f1, s12f12, hb16]
       refine aops_orunN 3 _ _ ?_
       simp only [qq, Nat.reduceBEq, reduceIte, Nat.reduceEqDiff, Nat.reduceAdd, Nat.reduceLeDiff, reduceCtorEq, Nat.reduceMul, Int.reduceToNat, hb6, s12t13, s12f0, s12f1, s12f12, hb16]
       refine aops_val (v := ?v23) rfl ?h23 ?_
       case h23 => simp only [qq, Nat.reduceBEq, reduceIte, Nat.reduceEqDiff, Nat.reduceAdd, Nat.reduceLeDiff, reduceCtorEq, Nat.reduceMul, Int.reduceToNat, hb6, s12t13, s12f0, s12f1, s12f12, hb16]; first | (rw [idx_c un36 if4] <;> omega) | (rw [idx_o un36 if4] <;> omega) | (rw [idx_a un36 if4] <;> omega)
       simp only [qq, Nat.reduceBEq, reduceIte, Nat.reduceEqDiff, Nat.reduceAdd, Nat.reduceLeDiff, reduceCtorEq, Nat.reduceMul, Int.reduceToNat, hb6, s12t13, s12f0, s12f1, s12f12, hb16]
       refine aops_orunN 2 _ _ ?_
       simp only [qq, Nat.reduceBEq, reduceIte, Nat.reduceEqDiff, Nat.reduceAdd, Nat.reduceLeDiff, reduceCtorEq, Nat.reduceMul, Int.reduceToNat, hb6, s12t13, s12f0, s12f1, s12f12, hb16]
       refine aops_nil (hL21 _ ?_)
       simp only [qq, Nat.reduceBEq, reduceIte, Nat.reduceEqDiff, Nat.reduceAdd, Nat.reduceLeDiff, reduceCtorEq, Nat.reduceMul, Int.reduceToNat, hb6, s12t13, s12f0, s12f1, s12f12, hb16]
       try simp only [rk_state]
       refine hK20 _ ?_
       refine awp_cond (t := ?t24) ?h24 (fun hb24 => ?a24) (fun hb24 => ?b24)
       case h24 => simp only [qq, Nat.reduceBEq, reduceIte, Nat.reduceEqDiff, Nat.reduceAdd, Nat.reduceLeDiff, reduceCtorEq, Nat.reduceMul, Int.reduceToNat, hb6, s12t13, s12f0, s12f1, s12f12, hb16]; rfl
       case a24 =>
        have hp24 := hb24
        try simp only [kb] at hp24
        all_goals try exact absurd hb24 (by decide)
        all_goals try (exfalso; omega)
        all_goals
         refine awp_seq_k fun K25 hK25 => ?_
         refine awp_region_lit fun L26 hL26 => ?_
         refine aops_orunN 1 _ _ ?_
         simp only [qq, Nat.reduceBEq, reduceIte, Nat.reduceEqDiff, Nat.reduceAdd, Nat.reduceLeDiff, reduceCtorEq, Nat.reduceMul, Int.reduceToNat, hb6, s12t13, s12f0, s12f1, s12f12, hb16, hb24]
         refine aops_nil (hL26 _ ?_)
         simp only [qq, Nat.reduceBEq, reduceIte, Nat.reduceEqDiff, Nat.reduceAdd, Nat.reduceLeDiff, reduceCtorEq, Nat.reduceMul, Int.reduceToNat, hb6, s12t13, s12f0, s12f1, s12f12, hb16, hb24]
         try simp only [rk_state]
         refine hK25 _ ?_
         refine awp_ret ?_
         try simp only [rk_state]
         refine ⟨_, 0, by simp only [qq, Nat.reduceBEq, reduceIte, Nat.reduceEqDiff, Nat.reduceAdd, Nat.reduceLeDiff, reduceCtorEq, Nat.reduceMul, Int.reduceToNat, resA, Try.results37, hb6, s12t13, s12f0, s12f1, s12f12, hb16, hb24]; rfl, ?_, fun l hl => absurd rfl hl, fun l hl => absurd rfl hl⟩
         simp only [packA]
         (repeat' (first | exact .nil | exact wkR_c | exact wkR_own | exact wkR_nils | refine wkR_int ?_ | refine wkR_bool ?_ | refine wkR_sl ?_ | refine wkR_osl ?_ | refine wkR_nsl ?_ | refine wkR_oo ?_ | refine wkR_no ?_ | refine .cons ?_ ?_ | refine wkR_agg ?_ | refine wkR_tup ?_)) <;> first | (symm; apply decide_eq_false; intro he; subst he; simp_all; done) | (symm; apply decide_eq_true; exact eq_of_getD (by omega) (fun j hj => hq4_1 j (by omega)))
       case b24 =>
        have hp24 := hb24
        try simp only [kb] at hp24
        all_goals try exact absurd hb24 (by decide)
        all_goals try (exfalso; omega)
        all_goals
         refine awp_skip ?_
         try simp only [rk_state]
         try simp only [rk_state]
         refine hK17 _ ?_
         refine awp_region_lit fun L27 hL27 => ?_
         refine aops_val (v := ?v28) rfl ?h28 ?_
         case h28 => simp only [qq, Nat.reduceBEq, reduceIte, Nat.reduceEqDiff, Nat.reduceAdd, Nat.reduceLeDiff, reduceCtorEq, Nat.reduceMul, Int.reduceToNat, hb6, s12t13, s12f0, s12f1, s12f12, hb16, hb24]; first | (rw [wr_id] <;> omega) | rfl
         simp only [qq, Nat.reduceBEq, reduceIte, Nat.reduceEqDiff, Nat.reduceAdd, Nat.reduceLeDiff, reduceCtorEq, Nat.reduceMul, Int.reduceToNat, hb6, s12t13, s12f0, s12f1, s12f12, hb16, hb24]
         refine aops_orunN 1 _ _ ?_
         simp only [qq, Nat.reduceBEq, reduceIte, Nat.reduceEqDiff, Nat.reduceAdd, Nat.reduceLeDiff, reduceCtorEq, Nat.reduceMul, Int.reduceToNat, hb6, s12t13, s12f0, s12f1, s12f12, hb16, hb24]
         refine aops_nil (hL27 _ ?_)
         simp only [qq, Nat.reduceBEq, reduceIte, Nat.reduceEqDiff, Nat.reduceAdd, Nat.reduceLeDiff, reduceCtorEq, Nat.reduceMul, Int.reduceToNat, hb6, s12t13, s12f0, s12f1, s12f12, hb16, hb24]
         try simp only [rk_state]
         refine hK12 _ ((fun (i : Nat) => a.length - i) (i + 1)) ?_ ⟨i + 1, rfl, ?_, ?_, ?_⟩
         · (try simp only []); omega
         · omega
         · (intro j hj; rcases Nat.lt_succ_iff_lt_or_eq.1 hj with hji | hji; exact hq4_1 j hji; rw [hji]; assumption)
         · (try simp only [qq, Nat.reduceBEq, reduceIte, Nat.reduceEqDiff, Nat.reduceAdd, Nat.reduceLeDiff, reduceCtorEq, Nat.reduceMul, Int.reduceToNat, hb6, s12t13, s12f0, s12f1, s12f12, hb16, hb24])
           all_goals (first | done | rfl | (simp only [AV.c.injEq, C.int.injEq, List.cons.injEq, and_true, true_and]; omega))
    case b16 =>
     have hp16 := hb16
     try simp only [kb] at hp16
     all_goals try exact absurd hb16 (by decide)
     all_goals try (exfalso; omega)
     all_goals
      refine awp_exit ?_
      simp only [rk_state, reduceIte, Nat.reduceEqDiff]
      try simp only [rk_state]
      refine hK9 _ ?_
      as_aux_lemma =>
       refine awp_seq_k fun K29 hK29 => ?_
       refine awp_region_lit fun L30 hL30 => ?_
       refine aops_orunN 1 _ _ ?_
       simp only [qq, Nat.reduceBEq, reduceIte, Nat.reduceEqDiff, Nat.reduceAdd, Nat.reduceLeDiff, reduceCtorEq, Nat.reduceMul, Int.reduceToNat, hb6, s12t13, s12f0, s12f1, s12f12, hb16]
       refine aops_nil (hL30 _ ?_)
       simp only [qq, Nat.reduceBEq, reduceIte, Nat.reduceEqDiff, Nat.reduceAdd, Nat.reduceLeDiff, reduceCtorEq, Nat.reduceMul, Int.reduceToNat, hb6, s12t13, s12f0, s12f1, s12f12, hb16]
       try simp only [rk_state]
       refine hK29 _ ?_
       refine awp_ret ?_
       try simp only [rk_state]
       refine ⟨_, 0, by simp only [qq, Nat.reduceBEq, reduceIte, Nat.reduceEqDiff, Nat.reduceAdd, Nat.reduceLeDiff, reduceCtorEq, Nat.reduceMul, Int.reduceToNat, resA, Try.results37, hb6, s12t13, s12f0, s12f1, s12f12, hb16]; rfl, ?_, fun l hl => absurd rfl hl, fun l hl => absurd rfl hl⟩
       simp only [packA]
       (repeat' (first | exact .nil | exact wkR_c | exact wkR_own | exact wkR_nils | refine wkR_int ?_ | refine wkR_bool ?_ | refine wkR_sl ?_ | refine wkR_osl ?_ | refine wkR_nsl ?_ | refine wkR_oo ?_ | refine wkR_no ?_ | refine .cons ?_ ?_ | refine wkR_agg ?_ | refine wkR_tup ?_)) <;> first | (symm; apply decide_eq_false; intro he; subst he; simp_all; done) | (symm; apply decide_eq_true; exact eq_of_getD (by omega) (fun j hj => hq4_1 j (by omega)))
set_option maxHeartbeats 4000000 in
set_option maxRecDepth 50000 in
theorem in_fun (n a b : Int) : Fun Try.prog 95 [.c (.int .i64 n), .c (.int .i64 a), .c (.int .i64 b)] nomem (.c (.bool (decide (a ≤ n ∧ n ≤ b)))) nomem := by
 refine fun_of_awp Try.func95 rfl (by decide +kernel) (by decide +kernel) (Nat.le_of_ble_eq_true rfl) (fun _ _ => rfl) (fun _ _ => rfl) ?_
 refine awp_seq_k fun K1 hK1 => ?_
 refine awp_region_lit fun L2 hL2 => ?_
 refine aops_orunN 1 _ _ ?_
 simp only [qq, Nat.reduceBEq, reduceIte, Nat.reduceEqDiff, Nat.reduceAdd, Nat.reduceLeDiff, reduceCtorEq, Nat.reduceMul, Int.reduceToNat]
 refine aops_nil (hL2 _ ?_)
 simp only [qq, Nat.reduceBEq, reduceIte, Nat.reduceEqDiff, Nat.reduceAdd, Nat.reduceLeDiff, reduceCtorEq, Nat.reduceMul, Int.reduceToNat]
 try simp only [rk_state]
 refine hK1 _ ?_
 refine awp_seq_k fun K3 hK3 => ?_
 refine awp_region_lit fun L4 hL4 => ?_
 refine aops_orunN 4 _ _ ?_
 simp only [qq, Nat.reduceBEq, reduceIte, Nat.reduceEqDiff, Nat.reduceAdd, Nat.reduceLeDiff, reduceCtorEq, Nat.reduceMul, Int.reduceToNat]
 refine aops_part (b := ?p5) 10 ?h5 (fun hb5 => ?a5) (fun hb5 => ?b5)
 case h5 => simp only [qq, Nat.reduceBEq, reduceIte, Nat.reduceEqDiff, Nat.reduceAdd, Nat.reduceLeDiff, reduceCtorEq, Nat.reduceMul, Int.reduceToNat]; rfl
 case a5 =>
  have hp5 := hb5
  try simp only [kb] at hp5
  all_goals try exact absurd hb5 (by decide)
  all_goals try (exfalso; omega)
  all_goals
   try simp only [hb5]
   refine aops_orunN 5 _ _ ?_
   simp only [qq, Nat.reduceBEq, reduceIte, Nat.reduceEqDiff, Nat.reduceAdd, Nat.reduceLeDiff, reduceCtorEq, Nat.reduceMul, Int.reduceToNat, hb5]
   refine aops_nil (hL4 _ ?_)
   simp only [qq, Nat.reduceBEq, reduceIte, Nat.reduceEqDiff, Nat.reduceAdd, Nat.reduceLeDiff, reduceCtorEq, Nat.reduceMul, Int.reduceToNat, hb5]
   try simp only [rk_state]
   refine hK3 _ ?_
   refine awp_ret ?_
   try simp only [rk_state]
   refine ⟨_, 0, by simp only [qq, Nat.reduceBEq, reduceIte, Nat.reduceEqDiff, Nat.reduceAdd, Nat.reduceLeDiff, reduceCtorEq, Nat.reduceMul, Int.reduceToNat, resA, Try.results95, hb5]; rfl, ?_, fun l hl => absurd rfl hl, fun l hl => absurd rfl hl⟩
   simp only [packA]
   (repeat' (first | exact .nil | exact wkR_c | exact wkR_own | exact wkR_nils | refine wkR_int ?_ | refine wkR_bool ?_ | refine wkR_sl ?_ | refine wkR_osl ?_ | refine wkR_nsl ?_ | refine wkR_oo ?_ | refine wkR_no ?_ | refine .cons ?_ ?_ | refine wkR_agg ?_ | refine wkR_tup ?_)) <;> simp_all <;> omega
 case b5 =>
  have hp5 := hb5
  try simp only [kb] at hp5
  all_goals try exact absurd hb5 (by decide)
  all_goals try (exfalso; omega)
  all_goals
   try simp only [hb5]
   refine aops_orunN 5 _ _ ?_
   simp only [qq, Nat.reduceBEq, reduceIte, Nat.reduceEqDiff, Nat.reduceAdd, Nat.reduceLeDiff, reduceCtorEq, Nat.reduceMul, Int.reduceToNat, hb5]
   refine aops_nil (hL4 _ ?_)
   simp only [qq, Nat.reduceBEq, reduceIte, Nat.reduceEqDiff, Nat.reduceAdd, Nat.reduceLeDiff, reduceCtorEq, Nat.reduceMul, Int.reduceToNat, hb5]
   try simp only [rk_state]
   refine hK3 _ ?_
   refine awp_ret ?_
   try simp only [rk_state]
   refine ⟨_, 0, by simp only [qq, Nat.reduceBEq, reduceIte, Nat.reduceEqDiff, Nat.reduceAdd, Nat.reduceLeDiff, reduceCtorEq, Nat.reduceMul, Int.reduceToNat, resA, Try.results95, hb5]; rfl, ?_, fun l hl => absurd rfl hl, fun l hl => absurd rfl hl⟩
   simp only [packA]
   (repeat' (first | exact .nil | exact wkR_c | exact wkR_own | exact wkR_nils | refine wkR_int ?_ | refine wkR_bool ?_ | refine wkR_sl ?_ | refine wkR_osl ?_ | refine wkR_nsl ?_ | refine wkR_oo ?_ | refine wkR_no ?_ | refine .cons ?_ ?_ | refine wkR_agg ?_ | refine wkR_tup ?_)) <;> simp_all <;> omega
set_option maxHeartbeats 4000000 in
set_option maxRecDepth 50000 in
theorem put_fun (l : List Bool) (n w : Int) (hl : l.length ≤ 140737488355288) (hn : n ≤ 9223372036854775807) : Fun Try.prog 32 [.c (.sl 4 (Rw boC l)), .c (.int .i64 n), .c (.int .i64 w)] nomem (.tup [.own false 0 4 (Rw boC (putR l n w).1), .c (.int .i64 (putR l n w).2)]) nomem := by
 refine fun_of_awp Try.func32 rfl (by decide +kernel) (by decide +kernel) (Nat.le_of_ble_eq_true rfl) (fun _ _ => rfl) (fun _ _ => rfl) ?_
 refine awp_seq_k fun K1 hK1 => ?_
 refine awp_region_lit fun L2 hL2 => ?_
 refine aops_orunN 2 _ _ ?_
 simp only [qq, Nat.reduceBEq, reduceIte, Nat.reduceEqDiff, Nat.reduceAdd, Nat.reduceLeDiff, reduceCtorEq, Nat.reduceMul, Int.reduceToNat]
 refine aops_nil (hL2 _ ?_)
 simp only [qq, Nat.reduceBEq, reduceIte, Nat.reduceEqDiff, Nat.reduceAdd, Nat.reduceLeDiff, reduceCtorEq, Nat.reduceMul, Int.reduceToNat]
 try simp only [rk_state]
 refine hK1 _ ?_
 refine awp_seq_k fun K3 hK3 => ?_
 refine awp_seq_k fun K4 hK4 => ?_
 refine awp_region_lit fun L5 hL5 => ?_
 refine aops_orunN 3 _ _ ?_
 simp only [qq, Nat.reduceBEq, reduceIte, Nat.reduceEqDiff, Nat.reduceAdd, Nat.reduceLeDiff, reduceCtorEq, Nat.reduceMul, Int.reduceToNat]
 refine aops_part (b := ?p6) 11 ?h6 (fun hb6 => ?a6) (fun hb6 => ?b6)
 case h6 => simp only [qq, Nat.reduceBEq, reduceIte, Nat.reduceEqDiff, Nat.reduceAdd, Nat.reduceLeDiff, reduceCtorEq, Nat.reduceMul, Int.reduceToNat]; rfl
 case a6 =>
  have hp6 := hb6
  try simp only [kb] at hp6
  all_goals try exact absurd hb6 (by decide)
  all_goals try (exfalso; omega)
  all_goals
   try simp only [hb6]
   refine aops_orunN 13 _ _ ?_
   simp only [qq, Nat.reduceBEq, reduceIte, Nat.reduceEqDiff, Nat.reduceAdd, Nat.reduceLeDiff, reduceCtorEq, Nat.reduceMul, Int.reduceToNat, hb6]
   refine aops_nil (hL5 _ ?_)
   simp only [qq, Nat.reduceBEq, reduceIte, Nat.reduceEqDiff, Nat.reduceAdd, Nat.reduceLeDiff, reduceCtorEq, Nat.reduceMul, Int.reduceToNat, hb6]
   try simp only [rk_state]
   refine hK4 _ ?_
   refine awp_cond (t := true) (by simp only [qq, Nat.reduceBEq, reduceIte, Nat.reduceEqDiff, Nat.reduceAdd, Nat.reduceLeDiff, reduceCtorEq, Nat.reduceMul, Int.reduceToNat, hb6]) (fun _ => ?_) (fun h => ?_)
   case refine_2 => cases h
   refine awp_seq_k fun K7 hK7 => ?_
   refine awp_region_lit fun L8 hL8 => ?_
   refine aops_orunN 2 _ _ ?_
   simp only [qq, Nat.reduceBEq, reduceIte, Nat.reduceEqDiff, Nat.reduceAdd, Nat.reduceLeDiff, reduceCtorEq, Nat.reduceMul, Int.reduceToNat, hb6]
   refine aops_nil (hL8 _ ?_)
   simp only [qq, Nat.reduceBEq, reduceIte, Nat.reduceEqDiff, Nat.reduceAdd, Nat.reduceLeDiff, reduceCtorEq, Nat.reduceMul, Int.reduceToNat, hb6]
   try simp only [rk_state]
   refine hK7 _ ?_
   as_aux_lemma =>
    refine awp_ret ?_
    try simp only [rk_state]
    first | refine ⟨_, d, by simp only [qq, Nat.reduceBEq, reduceIte, Nat.reduceEqDiff, Nat.reduceAdd, Nat.reduceLeDiff, reduceCtorEq, Nat.reduceMul, Int.reduceToNat, resA, Try.results32, hb6]; rfl, ?_, fun l hl => absurd rfl hl, fun l hl => absurd rfl hl⟩ | refine ⟨_, 0, by simp only [qq, Nat.reduceBEq, reduceIte, Nat.reduceEqDiff, Nat.reduceAdd, Nat.reduceLeDiff, reduceCtorEq, Nat.reduceMul, Int.reduceToNat, resA, Try.results32, hb6]; rfl, ?_, fun l hl => absurd rfl hl, fun l hl => absurd rfl hl⟩
    simp only [packA]
    (repeat' (first | exact .nil | exact wkR_c | exact wkR_own | exact wkR_nils | refine wkR_int ?_ | refine wkR_bool ?_ | refine wkR_sl ?_ | refine wkR_osl ?_ | refine wkR_nsl ?_ | refine wkR_oo ?_ | refine wkR_no ?_ | refine .cons ?_ ?_ | refine wkR_agg ?_ | refine wkR_tup ?_)) <;> (simp only [putR]; first | (rw [if_neg (by unfold putOk; omega)]; first | done | rfl) | (rw [if_neg (by intro hc; have := (shr_zero (n := n) (w := w.toNat) (by omega)).2 hc.2.2.2; omega)]; first | done | rfl) | (rw [if_pos (by refine ⟨by omega, by omega, by omega, (shr_zero (by omega)).1 (by omega)⟩)]; first | done | rfl | (rw [List.take_of_length_le (by rw [bitsN_len]; omega)])))
 case b6 =>
  have hp6 := hb6
  try simp only [kb] at hp6
  all_goals try exact absurd hb6 (by decide)
  all_goals try (exfalso; omega)
  all_goals
   try simp only [hb6]
   refine aops_orunN 4 _ _ ?_
   simp only [qq, Nat.reduceBEq, reduceIte, Nat.reduceEqDiff, Nat.reduceAdd, Nat.reduceLeDiff, reduceCtorEq, Nat.reduceMul, Int.reduceToNat, hb6]
   refine aops_part (b := ?p9) 15 ?h9 (fun hb9 => ?a9) (fun hb9 => ?b9)
   case h9 => simp only [qq, Nat.reduceBEq, reduceIte, Nat.reduceEqDiff, Nat.reduceAdd, Nat.reduceLeDiff, reduceCtorEq, Nat.reduceMul, Int.reduceToNat, hb6]; rfl
   case a9 =>
    have hp9 := hb9
    try simp only [kb] at hp9
    all_goals try exact absurd hb9 (by decide)
    all_goals try (exfalso; omega)
    all_goals
     try simp only [hb9]
     refine aops_orunN 9 _ _ ?_
     simp only [qq, Nat.reduceBEq, reduceIte, Nat.reduceEqDiff, Nat.reduceAdd, Nat.reduceLeDiff, reduceCtorEq, Nat.reduceMul, Int.reduceToNat, hb6, hb9]
     refine aops_nil (hL5 _ ?_)
     simp only [qq, Nat.reduceBEq, reduceIte, Nat.reduceEqDiff, Nat.reduceAdd, Nat.reduceLeDiff, reduceCtorEq, Nat.reduceMul, Int.reduceToNat, hb6, hb9]
     try simp only [rk_state]
     refine hK4 _ ?_
     refine awp_cond (t := true) (by simp only [qq, Nat.reduceBEq, reduceIte, Nat.reduceEqDiff, Nat.reduceAdd, Nat.reduceLeDiff, reduceCtorEq, Nat.reduceMul, Int.reduceToNat, hb6, hb9]) (fun _ => ?_) (fun h => ?_)
     case refine_2 => cases h
     refine awp_seq_k fun K10 hK10 => ?_
     refine awp_region_lit fun L11 hL11 => ?_
     refine aops_orunN 2 _ _ ?_
     simp only [qq, Nat.reduceBEq, reduceIte, Nat.reduceEqDiff, Nat.reduceAdd, Nat.reduceLeDiff, reduceCtorEq, Nat.reduceMul, Int.reduceToNat, hb6, hb9]
     refine aops_nil (hL11 _ ?_)
     simp only [qq, Nat.reduceBEq, reduceIte, Nat.reduceEqDiff, Nat.reduceAdd, Nat.reduceLeDiff, reduceCtorEq, Nat.reduceMul, Int.reduceToNat, hb6, hb9]
     try simp only [rk_state]
     refine hK10 _ ?_
     refine awp_ret ?_
     try simp only [rk_state]
     first | refine ⟨_, d, by simp only [qq, Nat.reduceBEq, reduceIte, Nat.reduceEqDiff, Nat.reduceAdd, Nat.reduceLeDiff, reduceCtorEq, Nat.reduceMul, Int.reduceToNat, resA, Try.results32, hb6, hb9]; rfl, ?_, fun l hl => absurd rfl hl, fun l hl => absurd rfl hl⟩ | refine ⟨_, 0, by simp only [qq, Nat.reduceBEq, reduceIte, Nat.reduceEqDiff, Nat.reduceAdd, Nat.reduceLeDiff, reduceCtorEq, Nat.reduceMul, Int.reduceToNat, resA, Try.results32, hb6, hb9]; rfl, ?_, fun l hl => absurd rfl hl, fun l hl => absurd rfl hl⟩
     simp only [packA]
     (repeat' (first | exact .nil | exact wkR_c | exact wkR_own | exact wkR_nils | refine wkR_int ?_ | refine wkR_bool ?_ | refine wkR_sl ?_ | refine wkR_osl ?_ | refine wkR_nsl ?_ | refine wkR_oo ?_ | refine wkR_no ?_ | refine .cons ?_ ?_ | refine wkR_agg ?_ | refine wkR_tup ?_)) <;> (simp only [putR]; first | (rw [if_neg (by unfold putOk; omega)]; first | done | rfl) | (rw [if_neg (by intro hc; have := (shr_zero (n := n) (w := w.toNat) (by omega)).2 hc.2.2.2; omega)]; first | done | rfl) | (rw [if_pos (by refine ⟨by omega, by omega, by omega, (shr_zero (by omega)).1 (by omega)⟩)]; first | done | rfl | (rw [List.take_of_length_le (by rw [bitsN_len]; omega)])))
   case b9 =>
    have hp9 := hb9
    try simp only [kb] at hp9
    all_goals try exact absurd hb9 (by decide)
    all_goals try (exfalso; omega)
    all_goals
     try simp only [hb9]
     refine aops_orunN 4 _ _ ?_
     simp only [qq, Nat.reduceBEq, reduceIte, Nat.reduceEqDiff, Nat.reduceAdd, Nat.reduceLeDiff, reduceCtorEq, Nat.reduceMul, Int.reduceToNat, hb6, hb9]
     refine aops_part (b := ?p12) 19 ?h12 (fun hb12 => ?a12) (fun hb12 => ?b12)
     case h12 => simp only [qq, Nat.reduceBEq, reduceIte, Nat.reduceEqDiff, Nat.reduceAdd, Nat.reduceLeDiff, reduceCtorEq, Nat.reduceMul, Int.reduceToNat, hb6, hb9]; rfl
     case a12 =>
      have hp12 := hb12
      try simp only [kb] at hp12
      all_goals try exact absurd hb12 (by decide)
      all_goals try (exfalso; omega)
      all_goals
       try simp only [hb12]
       refine aops_orunN 5 _ _ ?_
       simp only [qq, Nat.reduceBEq, reduceIte, Nat.reduceEqDiff, Nat.reduceAdd, Nat.reduceLeDiff, reduceCtorEq, Nat.reduceMul, Int.reduceToNat, hb6, hb9, hb12]
       refine aops_nil (hL5 _ ?_)
       simp only [qq, Nat.reduceBEq, reduceIte, Nat.reduceEqDiff, Nat.reduceAdd, Nat.reduceLeDiff, reduceCtorEq, Nat.reduceMul, Int.reduceToNat, hb6, hb9, hb12]
       try simp only [rk_state]
       refine hK4 _ ?_
       refine awp_cond (t := true) (by simp only [qq, Nat.reduceBEq, reduceIte, Nat.reduceEqDiff, Nat.reduceAdd, Nat.reduceLeDiff, reduceCtorEq, Nat.reduceMul, Int.reduceToNat, hb6, hb9, hb12]) (fun _ => ?_) (fun h => ?_)
       case refine_2 => cases h
       refine awp_seq_k fun K13 hK13 => ?_
       refine awp_region_lit fun L14 hL14 => ?_
       refine aops_orunN 2 _ _ ?_
       simp only [qq, Nat.reduceBEq, reduceIte, Nat.reduceEqDiff, Nat.reduceAdd, Nat.reduceLeDiff, reduceCtorEq, Nat.reduceMul, Int.reduceToNat, hb6, hb9, hb12]
       refine aops_nil (hL14 _ ?_)
       simp only [qq, Nat.reduceBEq, reduceIte, Nat.reduceEqDiff, Nat.reduceAdd, Nat.reduceLeDiff, reduceCtorEq, Nat.reduceMul, Int.reduceToNat, hb6, hb9, hb12]
       try simp only [rk_state]
       refine hK13 _ ?_
       refine awp_ret ?_
       try simp only [rk_state]
       first | refine ⟨_, d, by simp only [qq, Nat.reduceBEq, reduceIte, Nat.reduceEqDiff, Nat.reduceAdd, Nat.reduceLeDiff, reduceCtorEq, Nat.reduceMul, Int.reduceToNat, resA, Try.results32, hb6, hb9, hb12]; rfl, ?_, fun l hl => absurd rfl hl, fun l hl => absurd rfl hl⟩ | refine ⟨_, 0, by simp only [qq, Nat.reduceBEq, reduceIte, Nat.reduceEqDiff, Nat.reduceAdd, Nat.reduceLeDiff, reduceCtorEq, Nat.reduceMul, Int.reduceToNat, resA, Try.results32, hb6, hb9, hb12]; rfl, ?_, fun l hl => absurd rfl hl, fun l hl => absurd rfl hl⟩
       simp only [packA]
       (repeat' (first | exact .nil | exact wkR_c | exact wkR_own | exact wkR_nils | refine wkR_int ?_ | refine wkR_bool ?_ | refine wkR_sl ?_ | refine wkR_osl ?_ | refine wkR_nsl ?_ | refine wkR_oo ?_ | refine wkR_no ?_ | refine .cons ?_ ?_ | refine wkR_agg ?_ | refine wkR_tup ?_)) <;> (simp only [putR]; first | (rw [if_neg (by unfold putOk; omega)]; first | done | rfl) | (rw [if_neg (by intro hc; have := (shr_zero (n := n) (w := w.toNat) (by omega)).2 hc.2.2.2; omega)]; first | done | rfl) | (rw [if_pos (by refine ⟨by omega, by omega, by omega, (shr_zero (by omega)).1 (by omega)⟩)]; first | done | rfl | (rw [List.take_of_length_le (by rw [bitsN_len]; omega)])))
     case b12 =>
      have hp12 := hb12
      try simp only [kb] at hp12
      all_goals try exact absurd hb12 (by decide)
      all_goals try (exfalso; omega)
      all_goals
       try simp only [hb12]
       refine aops_orunN 2 _ _ ?_
       simp only [qq, Nat.reduceBEq, reduceIte, Nat.reduceEqDiff, Nat.reduceAdd, Nat.reduceLeDiff, reduceCtorEq, Nat.reduceMul, Int.reduceToNat, hb6, hb9, hb12]
       have s8 : min w.toNat IntKind.i64.bits = w.toNat := by show min w.toNat 64 = _; omega
       have s9 : n.fdiv (2 ^ w.toNat) = n / 2 ^ w.toNat := fdiv_pow (by omega) _
       refine aops_val (v := ?v15) (by simp only [qq, Nat.reduceBEq, reduceIte, Nat.reduceEqDiff, Nat.reduceAdd, Nat.reduceLeDiff, reduceCtorEq, Nat.reduceMul, Int.reduceToNat, hb6, hb9, hb12, s8, s9]) ?h15 ?_
       case h15 => simp only [qq, Nat.reduceBEq, reduceIte, Nat.reduceEqDiff, Nat.reduceAdd, Nat.reduceLeDiff, reduceCtorEq, Nat.reduceMul, Int.reduceToNat, hb6, hb9, hb12, s8, s9]; (rw [y_shr] <;> omega)
       simp only [qq, Nat.reduceBEq, reduceIte, Nat.reduceEqDiff, Nat.reduceAdd, Nat.reduceLeDiff, reduceCtorEq, Nat.reduceMul, Int.reduceToNat, hb6, hb9, hb12, s8, s9]
       refine aops_orunN 2 _ _ ?_
       simp only [qq, Nat.reduceBEq, reduceIte, Nat.reduceEqDiff, Nat.reduceAdd, Nat.reduceLeDiff, reduceCtorEq, Nat.reduceMul, Int.reduceToNat, hb6, hb9, hb12, s8, s9]
       refine aops_nil (hL5 _ ?_)
       simp only [qq, Nat.reduceBEq, reduceIte, Nat.reduceEqDiff, Nat.reduceAdd, Nat.reduceLeDiff, reduceCtorEq, Nat.reduceMul, Int.reduceToNat, hb6, hb9, hb12, s8, s9]
       try simp only [rk_state]
       refine hK4 _ ?_
       refine awp_cond (t := ?t16) ?h16 (fun hb16 => ?a16) (fun hb16 => ?b16)
       case h16 => simp only [qq, Nat.reduceBEq, reduceIte, Nat.reduceEqDiff, Nat.reduceAdd, Nat.reduceLeDiff, reduceCtorEq, Nat.reduceMul, Int.reduceToNat, hb6, hb9, hb12, s8, s9]; rfl
       case a16 =>
        have hp16 := hb16
        try simp only [kb] at hp16
        all_goals try exact absurd hb16 (by decide)
        all_goals try (exfalso; omega)
        all_goals
         refine awp_seq_k fun K17 hK17 => ?_
         refine awp_region_lit fun L18 hL18 => ?_
         refine aops_orunN 2 _ _ ?_
         simp only [qq, Nat.reduceBEq, reduceIte, Nat.reduceEqDiff, Nat.reduceAdd, Nat.reduceLeDiff, reduceCtorEq, Nat.reduceMul, Int.reduceToNat, hb6, hb9, hb12, s8, s9, hb16]
         refine aops_nil (hL18 _ ?_)
         simp only [qq, Nat.reduceBEq, reduceIte, Nat.reduceEqDiff, Nat.reduceAdd, Nat.reduceLeDiff, reduceCtorEq, Nat.reduceMul, Int.reduceToNat, hb6, hb9, hb12, s8, s9, hb16]
         try simp only [rk_state]
         refine hK17 _ ?_
         as_aux_lemma =>
          refine awp_ret ?_
          try simp only [rk_state]
          first | refine ⟨_, d, by simp only [qq, Nat.reduceBEq, reduceIte, Nat.reduceEqDiff, Nat.reduceAdd, Nat.reduceLeDiff, reduceCtorEq, Nat.reduceMul, Int.reduceToNat, resA, Try.results32, hb6, hb9, hb12, s8, s9, hb16]; rfl, ?_, fun l hl => absurd rfl hl, fun l hl => absurd rfl hl⟩ | refine ⟨_, 0, by simp only [qq, Nat.reduceBEq, reduceIte, Nat.reduceEqDiff, Nat.reduceAdd, Nat.reduceLeDiff, reduceCtorEq, Nat.reduceMul, Int.reduceToNat, resA, Try.results32, hb6, hb9, hb12, s8, s9, hb16]; rfl, ?_, fun l hl => absurd rfl hl, fun l hl => absurd rfl hl⟩
          simp only [packA]
          (repeat' (first | exact .nil | exact wkR_c | exact wkR_own | exact wkR_nils | refine wkR_int ?_ | refine wkR_bool ?_ | refine wkR_sl ?_ | refine wkR_osl ?_ | refine wkR_nsl ?_ | refine wkR_oo ?_ | refine wkR_no ?_ | refine .cons ?_ ?_ | refine wkR_agg ?_ | refine wkR_tup ?_)) <;> (simp only [putR]; first | (rw [if_neg (by unfold putOk; omega)]; first | done | rfl) | (rw [if_neg (by intro hc; have := (shr_zero (n := n) (w := w.toNat) (by omega)).2 hc.2.2.2; omega)]; first | done | rfl) | (rw [if_pos (by refine ⟨by omega, by omega, by omega, (shr_zero (by omega)).1 (by omega)⟩)]; first | done | rfl | (rw [List.take_of_length_le (by rw [bitsN_len]; omega)])))
       case b16 =>
        have hp16 := hb16
        try simp only [kb] at hp16
        all_goals try exact absurd hb16 (by decide)
        all_goals try (exfalso; omega)
        all_goals
         refine awp_skip ?_
         try simp only [rk_state]
         refine hK3 _ ?_
         refine awp_seq_k fun K19 hK19 => ?_
         refine awp_region_lit fun L20 hL20 => ?_
         refine aops_orunN 1 _ _ ?_
         simp only [qq, Nat.reduceBEq, reduceIte, Nat.reduceEqDiff, Nat.reduceAdd, Nat.reduceLeDiff, reduceCtorEq, Nat.reduceMul, Int.reduceToNat, hb6, hb9, hb12, s8, s9, hb16]
         refine aops_call_own (clone_bool_fun _ ?s21_0) rfl rfl rfl rfl (by (try simp only [qq, Nat.reduceBEq, reduceIte, Nat.reduceEqDiff, Nat.reduceAdd, Nat.reduceLeDiff, reduceCtorEq, Nat.reduceMul, Int.reduceToNat, hb6, hb9, hb12, s8, s9, hb16]); (repeat' (first | exact .nil | exact wk_c | exact wk_ownc | exact wk_nilsc | exact wk_nils | exact wk_fn | refine .cons ?_ ?_ | refine wk_agg ?_ | refine wk_fnL ?_))) rfl rfl rfl (by simp only [qq, Nat.reduceBEq, reduceIte, Nat.reduceEqDiff, Nat.reduceAdd, Nat.reduceLeDiff, reduceCtorEq, Nat.reduceMul, Int.reduceToNat, hb6, hb9, hb12, s8, s9, hb16]) ?m21
         case s21_0 => first | assumption | omega | decide +kernel | (simp only [List.length_take, List.length_drop]; omega)
         simp only [qq, Nat.reduceBEq, reduceIte, Nat.reduceEqDiff, Nat.reduceAdd, Nat.reduceLeDiff, reduceCtorEq, Nat.reduceMul, Int.reduceToNat, AV.setOwn, AV.setOwn1, hb6, hb9, hb12, s8, s9, hb16]
         refine aops_orunN 1 _ _ ?_
         simp only [qq, Nat.reduceBEq, reduceIte, Nat.reduceEqDiff, Nat.reduceAdd, Nat.reduceLeDiff, reduceCtorEq, Nat.reduceMul, Int.reduceToNat, hb6, hb9, hb12, s8, s9, hb16]
         refine aops_nil (hL20 _ ?_)
         simp only [qq, Nat.reduceBEq, reduceIte, Nat.reduceEqDiff, Nat.reduceAdd, Nat.reduceLeDiff, reduceCtorEq, Nat.reduceMul, Int.reduceToNat, hb6, hb9, hb12, s8, s9, hb16]
         try simp only [rk_state]
         refine hK19 _ ?_
         refine awp_seq_k fun K22 hK22 => ?_
         refine awp_seq_k fun K23 hK23 => ?_
         refine awp_region_lit fun L24 hL24 => ?_
         refine aops_orunN 1 _ _ ?_
         simp only [qq, Nat.reduceBEq, reduceIte, Nat.reduceEqDiff, Nat.reduceAdd, Nat.reduceLeDiff, reduceCtorEq, Nat.reduceMul, Int.reduceToNat, hb6, hb9, hb12, s8, s9, hb16]
         refine aops_val (v := ?v25) rfl ?h25 ?_
         case h25 => simp only [qq, Nat.reduceBEq, reduceIte, Nat.reduceEqDiff, Nat.reduceAdd, Nat.reduceLeDiff, reduceCtorEq, Nat.reduceMul, Int.reduceToNat, hb6, hb9, hb12, s8, s9, hb16]; first | (rw [wr_id] <;> omega) | rfl
         simp only [qq, Nat.reduceBEq, reduceIte, Nat.reduceEqDiff, Nat.reduceAdd, Nat.reduceLeDiff, reduceCtorEq, Nat.reduceMul, Int.reduceToNat, hb6, hb9, hb12, s8, s9, hb16]
         refine aops_orunN 1 _ _ ?_
         simp only [qq, Nat.reduceBEq, reduceIte, Nat.reduceEqDiff, Nat.reduceAdd, Nat.reduceLeDiff, reduceCtorEq, Nat.reduceMul, Int.reduceToNat, hb6, hb9, hb12, s8, s9, hb16]
         refine aops_nil (hL24 _ ?_)
         simp only [qq, Nat.reduceBEq, reduceIte, Nat.reduceEqDiff, Nat.reduceAdd, Nat.reduceLeDiff, reduceCtorEq, Nat.reduceMul, Int.reduceToNat, hb6, hb9, hb12, s8, s9, hb16]
         try simp only [rk_state]
         refine hK23 _ ?_
         refine awp_block ?_
         refine awp_loopW (W := [29, 30, 33, 34, 35, 36, 37, 38, 39, 40, 0, 31, 32, 8]) (M := []) rfl rfl (fun k s => ∃ (j : Nat) (d : Nat), k = w.toNat - j ∧ (j ≤ w.toNat) ∧ s.t 0 = .own false d 4 (Rw boC (l ++ (bitsN w.toNat n).take j)) ∧ s.t 8 = .c (.int .i64 (w - 1 - (j : Int)))) ((fun (j : Nat) (d : Nat) => w.toNat - j) (0) (26)) ?i26 ?r26
         case i26 =>
          refine ⟨0, 26, rfl, ?_, ?_, ?_⟩
          · first | omega | simp
          · (try simp only [qq, Nat.reduceBEq, reduceIte, Nat.reduceEqDiff, Nat.reduceAdd, Nat.reduceLeDiff, reduceCtorEq, Nat.reduceMul, Int.reduceToNat, hb6, hb9, hb12, s8, s9, hb16])
            all_goals first | done | (simp only [List.take_zero, List.append_nil]; done)
          · (try simp only [qq, Nat.reduceBEq, reduceIte, Nat.reduceEqDiff, Nat.reduceAdd, Nat.reduceLeDiff, reduceCtorEq, Nat.reduceMul, Int.reduceToNat, hb6, hb9, hb12, s8, s9, hb16])
            all_goals (first | done | rfl | (simp only [AV.c.injEq, C.int.injEq, List.cons.injEq, and_true, true_and]; omega))
         case r26 =>
          rintro k s hf ⟨j, d, rfl, hq5_0, s26t0, s26t8⟩ K26 hK26
          have s26f1 := hf 1 rfl (by (try simp only [qq, Nat.reduceBEq, reduceIte, Nat.reduceEqDiff, Nat.reduceAdd, Nat.reduceLeDiff, reduceCtorEq, Nat.reduceMul, Int.reduceToNat, kn, hb6, hb9, hb12, s8, s9, hb16]); all_goals rfl)
          simp only [qq, Nat.reduceBEq, reduceIte, Nat.reduceEqDiff, Nat.reduceAdd, Nat.reduceLeDiff, reduceCtorEq, Nat.reduceMul, Int.reduceToNat, hb6, hb9, hb12, s8, s9, hb16] at s26f1
          have s26f6 := hf 6 rfl (by (try simp only [qq, Nat.reduceBEq, reduceIte, Nat.reduceEqDiff, Nat.reduceAdd, Nat.reduceLeDiff, reduceCtorEq, Nat.reduceMul, Int.reduceToNat, kn, hb6, hb9, hb12, s8, s9, hb16]); all_goals rfl)
          simp only [qq, Nat.reduceBEq, reduceIte, Nat.reduceEqDiff, Nat.reduceAdd, Nat.reduceLeDiff, reduceCtorEq, Nat.reduceMul, Int.reduceToNat, hb6, hb9, hb12, s8, s9, hb16] at s26f6
          have s26f7 := hf 7 rfl (by (try simp only [qq, Nat.reduceBEq, reduceIte, Nat.reduceEqDiff, Nat.reduceAdd, Nat.reduceLeDiff, reduceCtorEq, Nat.reduceMul, Int.reduceToNat, kn, hb6, hb9, hb12, s8, s9, hb16]); all_goals rfl)
          simp only [qq, Nat.reduceBEq, reduceIte, Nat.reduceEqDiff, Nat.reduceAdd, Nat.reduceLeDiff, reduceCtorEq, Nat.reduceMul, Int.reduceToNat, hb6, hb9, hb12, s8, s9, hb16] at s26f7
          clear hf
          refine awp_seq_k fun K27 hK27 => ?_
          refine awp_seq_k fun K28 hK28 => ?_
          refine awp_region_lit fun L29 hL29 => ?_
          refine aops_orunN 2 _ _ ?_
          simp only [qq, Nat.reduceBEq, reduceIte, Nat.reduceEqDiff, Nat.reduceAdd, Nat.reduceLeDiff, reduceCtorEq, Nat.reduceMul, Int.reduceToNat, hb6, hb9, hb12, s8, s9, hb16, s26t0, s26t8, s26f1, s26f6, s26f7]
          refine aops_nil (hL29 _ ?_)
          simp only [qq, Nat.reduceBEq, reduceIte, Nat.reduceEqDiff, Nat.reduceAdd, Nat.reduceLeDiff, reduceCtorEq, Nat.reduceMul, Int.reduceToNat, hb6, hb9, hb12, s8, s9, hb16, s26t0, s26t8, s26f1, s26f6, s26f7]
          try simp only [rk_state]
          refine hK28 _ ?_
          as_aux_lemma =>
           refine awp_cond (t := ?t30) ?h30 (fun hb30 => ?a30) (fun hb30 => ?b30)
           case h30 => simp only [qq, Nat.reduceBEq, reduceIte, Nat.reduceEqDiff, Nat.reduceAdd, Nat.reduceLeDiff, reduceCtorEq, Nat.reduceMul, Int.reduceToNat, hb6, hb9, hb12, s8, s9, hb16, s26t0, s26t8, s26f1, s26f6, s26f7]; rfl
           case a30 =>
            have hp30 := hb30
            try simp only [kb] at hp30
            all_goals try exact absurd hb30 (by decide)
            all_goals try (exfalso; omega)
            all_goals
             refine awp_skip ?_
             try simp only [rk_state]
             refine hK27 _ ?_
             refine awp_seq_k fun K31 hK31 => ?_
             refine awp_block ?_
             refine awp_region_lit fun L32 hL32 => ?_
             refine aops_orunN 3 _ _ ?_
             simp only [qq, Nat.reduceBEq, reduceIte, Nat.reduceEqDiff, Nat.reduceAdd, Nat.reduceLeDiff, reduceCtorEq, Nat.reduceMul, Int.reduceToNat, hb6, hb9, hb12, s8, s9, hb16, s26t0, s26t8, s26f1, s26f6, s26f7, hb30]
             have s10 : (w - 1 - (j : Int)).toNat = w.toNat - 1 - j := by omega
             have s11 : min (w.toNat - 1 - j) IntKind.i64.bits = w.toNat - 1 - j := by show min _ 64 = _; omega
             have s12 := fdiv_pow (a := n) (by omega) (w.toNat - 1 - j)
             have hdp := div_pow_le (a := n) (by omega) (w.toNat - 1 - j)
             have s13 := and_one (a := n / 2 ^ (w.toNat - 1 - j)) (by omega) (by omega)
             have s14 : (n / 2 ^ (w.toNat - 1 - j) % 2 == 1) = bitAt n (w.toNat - 1 - j) := rfl
             refine aops_val (v := ?v33) rfl ?h33 ?_
             case h33 => simp only [qq, Nat.reduceBEq, reduceIte, Nat.reduceEqDiff, Nat.reduceAdd, Nat.reduceLeDiff, reduceCtorEq, Nat.reduceMul, Int.reduceToNat, hb6, hb9, hb12, s8, s9, hb16, s26t0, s26t8, s26f1, s26f6, s26f7, hb30, s10, s11, s12, s13, s14]; (rw [y_shr] <;> omega)
             simp only [qq, Nat.reduceBEq, reduceIte, Nat.reduceEqDiff, Nat.reduceAdd, Nat.reduceLeDiff, reduceCtorEq, Nat.reduceMul, Int.reduceToNat, hb6, hb9, hb12, s8, s9, hb16, s26t0, s26t8, s26f1, s26f6, s26f7, hb30, s10, s11, s12, s13, s14]
             refine aops_orunN 3 _ _ ?_
             simp only [qq, Nat.reduceBEq, reduceIte, Nat.reduceEqDiff, Nat.reduceAdd, Nat.reduceLeDiff, reduceCtorEq, Nat.reduceMul, Int.reduceToNat, hb6, hb9, hb12, s8, s9, hb16, s26t0, s26t8, s26f1, s26f6, s26f7, hb30, s10, s11, s12, s13, s14]
             refine aops_append (rows := ?rows34) (new := ?new34) rfl rfl rfl rfl rfl rfl un36 ?hx34 (by simp only [qq, Nat.reduceBEq, reduceIte, Nat.reduceEqDiff, Nat.reduceAdd, Nat.reduceLeDiff, reduceCtorEq, Nat.reduceMul, Int.reduceToNat, maskO, maskN, hb6, hb9, hb12, s8, s9, hb16, s26t0, s26t8, s26f1, s26f6, s26f7, hb30, s10, s11, s12, s13, s14]) (by simp only [qq, Nat.reduceBEq, reduceIte, Nat.reduceEqDiff, Nat.reduceAdd, Nat.reduceLeDiff, reduceCtorEq, Nat.reduceMul, Int.reduceToNat, maskO, maskN, hb6, hb9, hb12, s8, s9, hb16, s26t0, s26t8, s26f1, s26f6, s26f7, hb30, s10, s11, s12, s13, s14]) (by simp only [qq, Nat.reduceBEq, reduceIte, Nat.reduceEqDiff, Nat.reduceAdd, Nat.reduceLeDiff, reduceCtorEq, Nat.reduceMul, Int.reduceToNat, hb6, hb9, hb12, s8, s9, hb16, s26t0, s26t8, s26f1, s26f6, s26f7, hb30, s10, s11, s12, s13, s14]) ?hy34 (by simp only [tyf]; rfl) (by simp only [tyf]; decide) ?hsz34 ?hml34 ?hh34
             case hx34 => simp only [qq, Nat.reduceBEq, reduceIte, Nat.reduceEqDiff, Nat.reduceAdd, Nat.reduceLeDiff, reduceCtorEq, Nat.reduceMul, Int.reduceToNat, AV.base, hb6, hb9, hb12, s8, s9, hb16, s26t0, s26t8, s26f1, s26f6, s26f7, hb30, s10, s11, s12, s13, s14]; rfl
             case hy34 => simp only [qq, Nat.reduceBEq, reduceIte, Nat.reduceEqDiff, Nat.reduceAdd, Nat.reduceLeDiff, reduceCtorEq, Nat.reduceMul, Int.reduceToNat, hb6, hb9, hb12, s8, s9, hb16, s26t0, s26t8, s26f1, s26f6, s26f7, hb30, s10, s11, s12, s13, s14]; rfl
             case hsz34 => ((try simp only [tyf, rwR, List.length_append, List.length_cons, List.length_nil, List.length_take, List.length_drop]); omega)
             case hml34 => ((try simp only [maxLen, tyf, rwR, List.length_append, List.length_cons, List.length_nil, List.length_take, List.length_drop]); omega)
             simp only [qq, Nat.reduceBEq, reduceIte, Nat.reduceEqDiff, Nat.reduceAdd, Nat.reduceLeDiff, reduceCtorEq, Nat.reduceMul, Int.reduceToNat, maskO, maskN, hb6, hb9, hb12, s8, s9, hb16, s26t0, s26t8, s26f1, s26f6, s26f7, hb30, s10, s11, s12, s13, s14]
             refine aops_orunN 1 _ _ ?_
             simp only [qq, Nat.reduceBEq, reduceIte, Nat.reduceEqDiff, Nat.reduceAdd, Nat.reduceLeDiff, reduceCtorEq, Nat.reduceMul, Int.reduceToNat, hb6, hb9, hb12, s8, s9, hb16, s26t0, s26t8, s26f1, s26f6, s26f7, hb30, s10, s11, s12, s13, s14]
             refine aops_nil (hL32 _ ?_)
             simp only [qq, Nat.reduceBEq, reduceIte, Nat.reduceEqDiff, Nat.reduceAdd, Nat.reduceLeDiff, reduceCtorEq, Nat.reduceMul, Int.reduceToNat, hb6, hb9, hb12, s8, s9, hb16, s26t0, s26t8, s26f1, s26f6, s26f7, hb30, s10, s11, s12, s13, s14]
             try simp only [rk_state]
             try simp only [rk_state]
             refine hK31 _ ?_
             refine awp_region_lit fun L35 hL35 => ?_
             refine aops_orunN 1 _ _ ?_
             simp only [qq, Nat.reduceBEq, reduceIte, Nat.reduceEqDiff, Nat.reduceAdd, Nat.reduceLeDiff, reduceCtorEq, Nat.reduceMul, Int.reduceToNat, hb6, hb9, hb12, s8, s9, hb16, s26t0, s26t8, s26f1, s26f6, s26f7, hb30, s10, s11, s12, s13, s14]
             refine aops_val (v := ?v36) rfl ?h36 ?_
             case h36 => simp only [qq, Nat.reduceBEq, reduceIte, Nat.reduceEqDiff, Nat.reduceAdd, Nat.reduceLeDiff, reduceCtorEq, Nat.reduceMul, Int.reduceToNat, hb6, hb9, hb12, s8, s9, hb16, s26t0, s26t8, s26f1, s26f6, s26f7, hb30, s10, s11, s12, s13, s14]; first | (rw [wr_id] <;> omega) | rfl
             simp only [qq, Nat.reduceBEq, reduceIte, Nat.reduceEqDiff, Nat.reduceAdd, Nat.reduceLeDiff, reduceCtorEq, Nat.reduceMul, Int.reduceToNat, hb6, hb9, hb12, s8, s9, hb16, s26t0, s26t8, s26f1, s26f6, s26f7, hb30, s10, s11, s12, s13, s14]
             refine aops_orunN 1 _ _ ?_
             simp only [qq, Nat.reduceBEq, reduceIte, Nat.reduceEqDiff, Nat.reduceAdd, Nat.reduceLeDiff, reduceCtorEq, Nat.reduceMul, Int.reduceToNat, hb6, hb9, hb12, s8, s9, hb16, s26t0, s26t8, s26f1, s26f6, s26f7, hb30, s10, s11, s12, s13, s14]
             refine aops_nil (hL35 _ ?_)
             simp only [qq, Nat.reduceBEq, reduceIte, Nat.reduceEqDiff, Nat.reduceAdd, Nat.reduceLeDiff, reduceCtorEq, Nat.reduceMul, Int.reduceToNat, hb6, hb9, hb12, s8, s9, hb16, s26t0, s26t8, s26f1, s26f6, s26f7, hb30, s10, s11, s12, s13, s14]
             try simp only [rk_state]
             have hsn : (bitsN w.toNat n).take (j + 1) = (bitsN w.toNat n).take j ++ [bitAt n (w.toNat - 1 - j)] := by rw [take_next (by rw [bitsN_len]; omega), bitsN_get (by omega)]
             refine hK26 _ ((fun (j : Nat) (d : Nat) => w.toNat - j) (j + 1) (40)) ?_ ⟨j + 1, 40, rfl, ?_, ?_, ?_⟩
             · (try simp only []); omega
             · first | omega | simp
             · (try simp only [qq, Nat.reduceBEq, reduceIte, Nat.reduceEqDiff, Nat.reduceAdd, Nat.reduceLeDiff, reduceCtorEq, Nat.reduceMul, Int.reduceToNat, hb6, hb9, hb12, s8, s9, hb16, s26t0, s26t8, s26f1, s26f6, s26f7, hb30, s10, s11, s12, s13, s14])
               all_goals first | done | (rw [hsn, ← List.append_assoc])
             · (try simp only [qq, Nat.reduceBEq, reduceIte, Nat.reduceEqDiff, Nat.reduceAdd, Nat.reduceLeDiff, reduceCtorEq, Nat.reduceMul, Int.reduceToNat, hb6, hb9, hb12, s8, s9, hb16, s26t0, s26t8, s26f1, s26f6, s26f7, hb30, s10, s11, s12, s13, s14])
               all_goals (first | done | rfl | (simp only [AV.c.injEq, C.int.injEq, List.cons.injEq, and_true, true_and]; omega))
           case b30 =>
            have hp30 := hb30
            try simp only [kb] at hp30
            all_goals try exact absurd hb30 (by decide)
            all_goals try (exfalso; omega)
            all_goals
             refine awp_exit ?_
             simp only [rk_state, reduceIte, Nat.reduceEqDiff]
             try simp only [rk_state]
             refine hK22 _ ?_
             refine awp_seq_k fun K37 hK37 => ?_
             refine awp_region_lit fun L38 hL38 => ?_
             refine aops_orunN 3 _ _ ?_
             simp only [qq, Nat.reduceBEq, reduceIte, Nat.reduceEqDiff, Nat.reduceAdd, Nat.reduceLeDiff, reduceCtorEq, Nat.reduceMul, Int.reduceToNat, hb6, hb9, hb12, s8, s9, hb16, s26t0, s26t8, s26f1, s26f6, s26f7, hb30]
             refine aops_nil (hL38 _ ?_)
             simp only [qq, Nat.reduceBEq, reduceIte, Nat.reduceEqDiff, Nat.reduceAdd, Nat.reduceLeDiff, reduceCtorEq, Nat.reduceMul, Int.reduceToNat, hb6, hb9, hb12, s8, s9, hb16, s26t0, s26t8, s26f1, s26f6, s26f7, hb30]
             try simp only [rk_state]
             refine hK37 _ ?_
             as_aux_lemma =>
              refine awp_ret ?_
              try simp only [rk_state]
              first | refine ⟨_, d, by simp only [qq, Nat.reduceBEq, reduceIte, Nat.reduceEqDiff, Nat.reduceAdd, Nat.reduceLeDiff, reduceCtorEq, Nat.reduceMul, Int.reduceToNat, resA, Try.results32, hb6, hb9, hb12, s8, s9, hb16, s26t0, s26t8, s26f1, s26f6, s26f7, hb30]; rfl, ?_, fun l hl => absurd rfl hl, fun l hl => absurd rfl hl⟩ | refine ⟨_, 0, by simp only [qq, Nat.reduceBEq, reduceIte, Nat.reduceEqDiff, Nat.reduceAdd, Nat.reduceLeDiff, reduceCtorEq, Nat.reduceMul, Int.reduceToNat, resA, Try.results32, hb6, hb9, hb12, s8, s9, hb16, s26t0, s26t8, s26f1, s26f6, s26f7, hb30]; rfl, ?_, fun l hl => absurd rfl hl, fun l hl => absurd rfl hl⟩
              simp only [packA]
              (repeat' (first | exact .nil | exact wkR_c | exact wkR_own | exact wkR_nils | refine wkR_int ?_ | refine wkR_bool ?_ | refine wkR_sl ?_ | refine wkR_osl ?_ | refine wkR_nsl ?_ | refine wkR_oo ?_ | refine wkR_no ?_ | refine .cons ?_ ?_ | refine wkR_agg ?_ | refine wkR_tup ?_)) <;> (simp only [putR]; first | (rw [if_neg (by unfold putOk; omega)]; first | done | rfl) | (rw [if_neg (by intro hc; have := (shr_zero (n := n) (w := w.toNat) (by omega)).2 hc.2.2.2; omega)]; first | done | rfl) | (rw [if_pos (by refine ⟨by omega, by omega, by omega, (shr_zero (by omega)).1 (by omega)⟩)]; first | done | rfl | (rw [List.take_of_length_le (by rw [bitsN_len]; omega)])))
end Go.Proofs.Y
