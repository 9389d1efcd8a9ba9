/-
  What is proved: small numbers: what fold, Put, Read, Take, Coded, Decoded compute. Conditions: none.
-/
import Derived.Test.YtoihccclnkhmaaaC1d
import Derived.Test.YtoihccclnkhmaaaP2
set_option linter.unusedVariables false
set_option linter.unusedSimpArgs false
set_option maxRecDepth 4000
namespace Go.Proofs.Y
open Go.Rb
set_option maxHeartbeats 4000000 in
set_option maxRecDepth 50000 in
theorem fold_fun (v : Int) (hv : -4000000 ≤ v ∧ v ≤ 4000000) : Fun Try.prog 97 [.c (.int .i64 v)] nomem (.c (.int .i64 (foldN v))) nomem := by
 have hf := foldN_or v
 refine fun_of_awp Try.func97 rfl (by decide +kernel) (by decide +kernel) (Nat.le_of_ble_eq_true rfl) (fun _ _ => rfl) (fun _ _ => rfl) ?_
 refine awp_seq_k fun K1 hK1 => ?_
 refine awp_region_lit fun L2 hL2 => ?_
 refine aops_orunN 1 _ _ ?_
 simp only [qq, Nat.reduceBEq, reduceIte, Nat.reduceEqDiff, Nat.reduceAdd, Nat.reduceLeDiff, reduceCtorEq, Nat.reduceMul, Int.reduceToNat]
 refine aops_nil (hL2 _ ?_)
 simp only [qq, Nat.reduceBEq, reduceIte, Nat.reduceEqDiff, Nat.reduceAdd, Nat.reduceLeDiff, reduceCtorEq, Nat.reduceMul, Int.reduceToNat]
 try simp only [rk_state]
 refine hK1 _ ?_
 refine awp_seq_k fun K3 hK3 => ?_
 refine awp_seq_k fun K4 hK4 => ?_
 refine awp_region_lit fun L5 hL5 => ?_
 refine aops_orunN 2 _ _ ?_
 simp only [qq, Nat.reduceBEq, reduceIte, Nat.reduceEqDiff, Nat.reduceAdd, Nat.reduceLeDiff, reduceCtorEq, Nat.reduceMul, Int.reduceToNat]
 refine aops_nil (hL5 _ ?_)
 simp only [qq, Nat.reduceBEq, reduceIte, Nat.reduceEqDiff, Nat.reduceAdd, Nat.reduceLeDiff, reduceCtorEq, Nat.reduceMul, Int.reduceToNat]
 try simp only [rk_state]
 refine hK4 _ ?_
 refine awp_cond (t := ?t6) ?h6 (fun hb6 => ?a6) (fun hb6 => ?b6)
 case h6 => simp only [qq, Nat.reduceBEq, reduceIte, Nat.reduceEqDiff, Nat.reduceAdd, Nat.reduceLeDiff, reduceCtorEq, Nat.reduceMul, Int.reduceToNat]; rfl
 case a6 =>
  have hp6 := hb6
  try simp only [kb] at hp6
  all_goals try exact absurd hb6 (by decide)
  all_goals try (exfalso; omega)
  all_goals
   refine awp_seq_k fun K7 hK7 => ?_
   refine awp_region_lit fun L8 hL8 => ?_
   refine aops_orunN 1 _ _ ?_
   simp only [qq, Nat.reduceBEq, reduceIte, Nat.reduceEqDiff, Nat.reduceAdd, Nat.reduceLeDiff, reduceCtorEq, Nat.reduceMul, Int.reduceToNat, hb6]
   refine aops_val (v := ?v9) rfl ?h9 ?_
   case h9 => simp only [qq, Nat.reduceBEq, reduceIte, Nat.reduceEqDiff, Nat.reduceAdd, Nat.reduceLeDiff, reduceCtorEq, Nat.reduceMul, Int.reduceToNat, hb6]; first | (rw [wr_id] <;> omega) | rfl
   simp only [qq, Nat.reduceBEq, reduceIte, Nat.reduceEqDiff, Nat.reduceAdd, Nat.reduceLeDiff, reduceCtorEq, Nat.reduceMul, Int.reduceToNat, hb6]
   refine aops_val (v := ?v10) rfl ?h10 ?_
   case h10 => simp only [qq, Nat.reduceBEq, reduceIte, Nat.reduceEqDiff, Nat.reduceAdd, Nat.reduceLeDiff, reduceCtorEq, Nat.reduceMul, Int.reduceToNat, hb6]; first | (rw [wr_id] <;> omega) | rfl
   simp only [qq, Nat.reduceBEq, reduceIte, Nat.reduceEqDiff, Nat.reduceAdd, Nat.reduceLeDiff, reduceCtorEq, Nat.reduceMul, Int.reduceToNat, hb6]
   refine aops_orunN 1 _ _ ?_
   simp only [qq, Nat.reduceBEq, reduceIte, Nat.reduceEqDiff, Nat.reduceAdd, Nat.reduceLeDiff, reduceCtorEq, Nat.reduceMul, Int.reduceToNat, hb6]
   refine aops_nil (hL8 _ ?_)
   simp only [qq, Nat.reduceBEq, reduceIte, Nat.reduceEqDiff, Nat.reduceAdd, Nat.reduceLeDiff, reduceCtorEq, Nat.reduceMul, Int.reduceToNat, hb6]
   try simp only [rk_state]
   refine hK7 _ ?_
   as_aux_lemma =>
    refine awp_ret ?_
    try simp only [rk_state]
    refine ⟨_, 0, by simp only [qq, Nat.reduceBEq, reduceIte, Nat.reduceEqDiff, Nat.reduceAdd, Nat.reduceLeDiff, reduceCtorEq, Nat.reduceMul, Int.reduceToNat, resA, Try.results97, hb6]; rfl, ?_, fun l hl => absurd rfl hl, fun l hl => absurd rfl hl⟩
    simp only [packA]
    (repeat' (first | exact .nil | exact wkR_c | exact wkR_own | exact wkR_nils | refine wkR_int ?_ | refine wkR_bool ?_ | refine wkR_sl ?_ | refine wkR_osl ?_ | refine wkR_nsl ?_ | refine wkR_oo ?_ | refine wkR_no ?_ | refine .cons ?_ ?_ | refine wkR_agg ?_ | refine wkR_tup ?_)) <;> omega
 case b6 =>
  have hp6 := hb6
  try simp only [kb] at hp6
  all_goals try exact absurd hb6 (by decide)
  all_goals try (exfalso; omega)
  all_goals
   refine awp_skip ?_
   try simp only [rk_state]
   refine hK3 _ ?_
   refine awp_seq_k fun K11 hK11 => ?_
   refine awp_region_lit fun L12 hL12 => ?_
   refine aops_orunN 1 _ _ ?_
   simp only [qq, Nat.reduceBEq, reduceIte, Nat.reduceEqDiff, Nat.reduceAdd, Nat.reduceLeDiff, reduceCtorEq, Nat.reduceMul, Int.reduceToNat, hb6]
   refine aops_val (v := ?v13) rfl ?h13 ?_
   case h13 => simp only [qq, Nat.reduceBEq, reduceIte, Nat.reduceEqDiff, Nat.reduceAdd, Nat.reduceLeDiff, reduceCtorEq, Nat.reduceMul, Int.reduceToNat, hb6]; first | (rw [wr_id] <;> omega) | rfl
   simp only [qq, Nat.reduceBEq, reduceIte, Nat.reduceEqDiff, Nat.reduceAdd, Nat.reduceLeDiff, reduceCtorEq, Nat.reduceMul, Int.reduceToNat, hb6]
   refine aops_orunN 1 _ _ ?_
   simp only [qq, Nat.reduceBEq, reduceIte, Nat.reduceEqDiff, Nat.reduceAdd, Nat.reduceLeDiff, reduceCtorEq, Nat.reduceMul, Int.reduceToNat, hb6]
   refine aops_nil (hL12 _ ?_)
   simp only [qq, Nat.reduceBEq, reduceIte, Nat.reduceEqDiff, Nat.reduceAdd, Nat.reduceLeDiff, reduceCtorEq, Nat.reduceMul, Int.reduceToNat, hb6]
   try simp only [rk_state]
   refine hK11 _ ?_
   refine awp_ret ?_
   try simp only [rk_state]
   refine ⟨_, 0, by simp only [qq, Nat.reduceBEq, reduceIte, Nat.reduceEqDiff, Nat.reduceAdd, Nat.reduceLeDiff, reduceCtorEq, Nat.reduceMul, Int.reduceToNat, resA, Try.results97, hb6]; rfl, ?_, fun l hl => absurd rfl hl, fun l hl => absurd rfl hl⟩
   simp only [packA]
   (repeat' (first | exact .nil | exact wkR_c | exact wkR_own | exact wkR_nils | refine wkR_int ?_ | refine wkR_bool ?_ | refine wkR_sl ?_ | refine wkR_osl ?_ | refine wkR_nsl ?_ | refine wkR_oo ?_ | refine wkR_no ?_ | refine .cons ?_ ?_ | refine wkR_agg ?_ | refine wkR_tup ?_)) <;> omega
set_option maxHeartbeats 4000000 in
set_option maxRecDepth 50000 in
theorem zput_fun (l : List Bool) (v : Int) (hl : l.length ≤ 140737488355200) : Fun Try.prog 39 [.c (.sl 4 (Rw boC l)), .c (.int .i64 v)] nomem (.tup [.own false 0 4 (Rw boC (zputR l v).1), .c (.int .i64 (zputR l v).2)]) nomem := by
 have hf := foldN_or v
 refine fun_of_awp Try.func39 rfl (by decide +kernel) (by decide +kernel) (Nat.le_of_ble_eq_true rfl) (fun _ _ => rfl) (fun _ _ => rfl) ?_
 refine awp_seq_k fun K1 hK1 => ?_
 refine awp_region_lit fun L2 hL2 => ?_
 refine aops_orunN 2 _ _ ?_
 simp only [qq, Nat.reduceBEq, reduceIte, Nat.reduceEqDiff, Nat.reduceAdd, Nat.reduceLeDiff, reduceCtorEq, Nat.reduceMul, Int.reduceToNat]
 refine aops_nil (hL2 _ ?_)
 simp only [qq, Nat.reduceBEq, reduceIte, Nat.reduceEqDiff, Nat.reduceAdd, Nat.reduceLeDiff, reduceCtorEq, Nat.reduceMul, Int.reduceToNat]
 try simp only [rk_state]
 refine hK1 _ ?_
 refine awp_seq_k fun K3 hK3 => ?_
 refine awp_seq_k fun K4 hK4 => ?_
 refine awp_region_lit fun L5 hL5 => ?_
 refine aops_orunN 3 _ _ ?_
 simp only [qq, Nat.reduceBEq, reduceIte, Nat.reduceEqDiff, Nat.reduceAdd, Nat.reduceLeDiff, reduceCtorEq, Nat.reduceMul, Int.reduceToNat]
 refine aops_part (b := ?p6) 10 ?h6 (fun hb6 => ?a6) (fun hb6 => ?b6)
 case h6 => simp only [qq, Nat.reduceBEq, reduceIte, Nat.reduceEqDiff, Nat.reduceAdd, Nat.reduceLeDiff, reduceCtorEq, Nat.reduceMul, Int.reduceToNat]; rfl
 case a6 =>
  have hp6 := hb6
  try simp only [kb] at hp6
  all_goals try exact absurd hb6 (by decide)
  all_goals try (exfalso; omega)
  all_goals
   try simp only [hb6]
   refine aops_orunN 3 _ _ ?_
   simp only [qq, Nat.reduceBEq, reduceIte, Nat.reduceEqDiff, Nat.reduceAdd, Nat.reduceLeDiff, reduceCtorEq, Nat.reduceMul, Int.reduceToNat, hb6]
   refine aops_nil (hL5 _ ?_)
   simp only [qq, Nat.reduceBEq, reduceIte, Nat.reduceEqDiff, Nat.reduceAdd, Nat.reduceLeDiff, reduceCtorEq, Nat.reduceMul, Int.reduceToNat, hb6]
   try simp only [rk_state]
   refine hK4 _ ?_
   refine awp_cond (t := true) (by simp only [qq, Nat.reduceBEq, reduceIte, Nat.reduceEqDiff, Nat.reduceAdd, Nat.reduceLeDiff, reduceCtorEq, Nat.reduceMul, Int.reduceToNat, hb6]) (fun _ => ?_) (fun h => ?_)
   case refine_2 => cases h
   refine awp_seq_k fun K7 hK7 => ?_
   refine awp_region_lit fun L8 hL8 => ?_
   refine aops_orunN 2 _ _ ?_
   simp only [qq, Nat.reduceBEq, reduceIte, Nat.reduceEqDiff, Nat.reduceAdd, Nat.reduceLeDiff, reduceCtorEq, Nat.reduceMul, Int.reduceToNat, hb6]
   refine aops_nil (hL8 _ ?_)
   simp only [qq, Nat.reduceBEq, reduceIte, Nat.reduceEqDiff, Nat.reduceAdd, Nat.reduceLeDiff, reduceCtorEq, Nat.reduceMul, Int.reduceToNat, hb6]
   try simp only [rk_state]
   refine hK7 _ ?_
   as_aux_lemma =>
    refine awp_ret ?_
    try simp only [rk_state]
    first | refine ⟨_, 24, by simp only [qq, Nat.reduceBEq, reduceIte, Nat.reduceEqDiff, Nat.reduceAdd, Nat.reduceLeDiff, reduceCtorEq, Nat.reduceMul, Int.reduceToNat, resA, Try.results39, hb6]; rfl, ?_, fun l hl => absurd rfl hl, fun l hl => absurd rfl hl⟩ | refine ⟨_, 0, by simp only [qq, Nat.reduceBEq, reduceIte, Nat.reduceEqDiff, Nat.reduceAdd, Nat.reduceLeDiff, reduceCtorEq, Nat.reduceMul, Int.reduceToNat, resA, Try.results39, hb6]; rfl, ?_, fun l hl => absurd rfl hl, fun l hl => absurd rfl hl⟩
    simp only [packA]
    (unfold zputR); first | (rw [if_pos (by omega)]; (repeat' (first | exact .nil | exact wkR_c | exact wkR_own | exact wkR_nils | refine wkR_int ?_ | refine wkR_bool ?_ | refine wkR_sl ?_ | refine wkR_osl ?_ | refine wkR_nsl ?_ | refine wkR_oo ?_ | refine wkR_no ?_ | refine .cons ?_ ?_ | refine wkR_agg ?_ | refine wkR_tup ?_)) <;> rfl) | (rw [if_neg (by omega)]; (have hz := zenc_last (f := f) (m := m) (by omega) (by omega)); (repeat' (first | exact .nil | exact wkR_c | exact wkR_own | exact wkR_nils | refine wkR_int ?_ | refine wkR_bool ?_ | refine wkR_sl ?_ | refine wkR_osl ?_ | refine wkR_nsl ?_ | refine wkR_oo ?_ | refine wkR_no ?_ | refine .cons ?_ ?_ | refine wkR_agg ?_ | refine wkR_tup ?_)) <;> first | rfl | (rw [← hz, hq4_3]))
 case b6 =>
  have hp6 := hb6
  try simp only [kb] at hp6
  all_goals try exact absurd hb6 (by decide)
  all_goals try (exfalso; omega)
  all_goals
   try simp only [hb6]
   refine aops_orunN 3 _ _ ?_
   simp only [qq, Nat.reduceBEq, reduceIte, Nat.reduceEqDiff, Nat.reduceAdd, Nat.reduceLeDiff, reduceCtorEq, Nat.reduceMul, Int.reduceToNat, hb6]
   refine aops_nil (hL5 _ ?_)
   simp only [qq, Nat.reduceBEq, reduceIte, Nat.reduceEqDiff, Nat.reduceAdd, Nat.reduceLeDiff, reduceCtorEq, Nat.reduceMul, Int.reduceToNat, hb6]
   try simp only [rk_state]
   refine hK4 _ ?_
   refine awp_cond (t := ?t9) ?h9 (fun hb9 => ?a9) (fun hb9 => ?b9)
   case h9 => simp only [qq, Nat.reduceBEq, reduceIte, Nat.reduceEqDiff, Nat.reduceAdd, Nat.reduceLeDiff, reduceCtorEq, Nat.reduceMul, Int.reduceToNat, hb6]; rfl
   case a9 =>
    have hp9 := hb9
    try simp only [kb] at hp9
    all_goals try exact absurd hb9 (by decide)
    all_goals try (exfalso; omega)
    all_goals
     refine awp_seq_k fun K10 hK10 => ?_
     refine awp_region_lit fun L11 hL11 => ?_
     refine aops_orunN 2 _ _ ?_
     simp only [qq, Nat.reduceBEq, reduceIte, Nat.reduceEqDiff, Nat.reduceAdd, Nat.reduceLeDiff, reduceCtorEq, Nat.reduceMul, Int.reduceToNat, hb6, hb9]
     refine aops_nil (hL11 _ ?_)
     simp only [qq, Nat.reduceBEq, reduceIte, Nat.reduceEqDiff, Nat.reduceAdd, Nat.reduceLeDiff, reduceCtorEq, Nat.reduceMul, Int.reduceToNat, hb6, hb9]
     try simp only [rk_state]
     refine hK10 _ ?_
     refine awp_ret ?_
     try simp only [rk_state]
     first | refine ⟨_, 24, by simp only [qq, Nat.reduceBEq, reduceIte, Nat.reduceEqDiff, Nat.reduceAdd, Nat.reduceLeDiff, reduceCtorEq, Nat.reduceMul, Int.reduceToNat, resA, Try.results39, hb6, hb9]; rfl, ?_, fun l hl => absurd rfl hl, fun l hl => absurd rfl hl⟩ | refine ⟨_, 0, by simp only [qq, Nat.reduceBEq, reduceIte, Nat.reduceEqDiff, Nat.reduceAdd, Nat.reduceLeDiff, reduceCtorEq, Nat.reduceMul, Int.reduceToNat, resA, Try.results39, hb6, hb9]; rfl, ?_, fun l hl => absurd rfl hl, fun l hl => absurd rfl hl⟩
     simp only [packA]
     (unfold zputR); first | (rw [if_pos (by omega)]; (repeat' (first | exact .nil | exact wkR_c | exact wkR_own | exact wkR_nils | refine wkR_int ?_ | refine wkR_bool ?_ | refine wkR_sl ?_ | refine wkR_osl ?_ | refine wkR_nsl ?_ | refine wkR_oo ?_ | refine wkR_no ?_ | refine .cons ?_ ?_ | refine wkR_agg ?_ | refine wkR_tup ?_)) <;> rfl) | (rw [if_neg (by omega)]; (have hz := zenc_last (f := f) (m := m) (by omega) (by omega)); (repeat' (first | exact .nil | exact wkR_c | exact wkR_own | exact wkR_nils | refine wkR_int ?_ | refine wkR_bool ?_ | refine wkR_sl ?_ | refine wkR_osl ?_ | refine wkR_nsl ?_ | refine wkR_oo ?_ | refine wkR_no ?_ | refine .cons ?_ ?_ | refine wkR_agg ?_ | refine wkR_tup ?_)) <;> first | rfl | (rw [← hz, hq4_3]))
   case b9 =>
    have hp9 := hb9
    try simp only [kb] at hp9
    all_goals try exact absurd hb9 (by decide)
    all_goals try (exfalso; omega)
    all_goals
     refine awp_skip ?_
     try simp only [rk_state]
     refine hK3 _ ?_
     refine awp_seq_k fun K12 hK12 => ?_
     refine awp_region_lit fun L13 hL13 => ?_
     refine aops_orunN 1 _ _ ?_
     simp only [qq, Nat.reduceBEq, reduceIte, Nat.reduceEqDiff, Nat.reduceAdd, Nat.reduceLeDiff, reduceCtorEq, Nat.reduceMul, Int.reduceToNat, hb6, hb9]
     refine aops_call (fold_fun _ ?s14_0) rfl rfl rfl rfl (by (try simp only [qq, Nat.reduceBEq, reduceIte, Nat.reduceEqDiff, Nat.reduceAdd, Nat.reduceLeDiff, reduceCtorEq, Nat.reduceMul, Int.reduceToNat, hb6, hb9]); (repeat' (first | exact .nil | exact wk_c | exact wk_ownc | exact wk_nilsc | exact wk_nils | exact wk_fn | refine .cons ?_ ?_ | refine wk_agg ?_ | refine wk_fnL ?_))) rfl rfl ?m14
     case s14_0 => omega
     simp only [qq, Nat.reduceBEq, reduceIte, Nat.reduceEqDiff, Nat.reduceAdd, Nat.reduceLeDiff, reduceCtorEq, Nat.reduceMul, Int.reduceToNat, hb6, hb9]
     refine aops_orunN 1 _ _ ?_
     simp only [qq, Nat.reduceBEq, reduceIte, Nat.reduceEqDiff, Nat.reduceAdd, Nat.reduceLeDiff, reduceCtorEq, Nat.reduceMul, Int.reduceToNat, hb6, hb9]
     refine aops_nil (hL13 _ ?_)
     simp only [qq, Nat.reduceBEq, reduceIte, Nat.reduceEqDiff, Nat.reduceAdd, Nat.reduceLeDiff, reduceCtorEq, Nat.reduceMul, Int.reduceToNat, hb6, hb9]
     try simp only [rk_state]
     refine hK12 _ ?_
     refine awp_block ?_
     refine awp_loopW (W := [7, 16, 17, 7, 19, 20, 21, 22, 23, 24, 18, 25, 26, 0, 27, 28, 6, 29, 30, 31, 4, 5]) (M := []) rfl rfl (fun kk s => ∃ (f : Nat) (m : Int) (k : List Bool) (x : AV), kk = 1 + f ∧ (0 ≤ m) ∧ (m < 8 ^ f) ∧ (1 ≤ f ∧ f ≤ 8) ∧ (k ++ zenc f m = l ++ zenc 8 (foldN v)) ∧ (k.length + 4 * f ≤ l.length + 32) ∧ (x = .c (.sl 4 (Rw boC k)) ∨ x = .own false 24 4 (Rw boC k)) ∧ s.t 0 = x ∧ s.t 6 = .c (.int .i64 m)) ((fun (f : Nat) (m : Int) (k : List Bool) (x : AV) => 1 + f) (8) (foldN v) (l) (.c (.sl 4 (Rw boC l)))) ?i15 ?r15
     case i15 =>
      refine ⟨8, foldN v, l, .c (.sl 4 (Rw boC l)), rfl, ?_, ?_, ?_, ?_, ?_, ?_, ?_, ?_⟩
      · omega
      · (show _ < (16777216 : Int); omega)
      · omega
      · rfl
      · omega
      · exact .inl rfl
      · (try simp only [qq, Nat.reduceBEq, reduceIte, Nat.reduceEqDiff, Nat.reduceAdd, Nat.reduceLeDiff, reduceCtorEq, Nat.reduceMul, Int.reduceToNat, hb6, hb9])
        all_goals (first | done | rfl | (simp only [AV.c.injEq, C.int.injEq, List.cons.injEq, and_true, true_and]; omega))
      · (try simp only [qq, Nat.reduceBEq, reduceIte, Nat.reduceEqDiff, Nat.reduceAdd, Nat.reduceLeDiff, reduceCtorEq, Nat.reduceMul, Int.reduceToNat, hb6, hb9])
        all_goals (first | done | rfl | (simp only [AV.c.injEq, C.int.injEq, List.cons.injEq, and_true, true_and]; omega))
     case r15 =>
      rintro kk s hf ⟨f, m, k, x, rfl, hq4_0, hq4_1, hq4_2, hq4_3, hq4_4, hq4_5, s15t0, s15t6⟩ K15 hK15
      clear hf
      refine awp_block ?_
      refine awp_seq_k fun K16 hK16 => ?_
      refine awp_region_lit fun L17 hL17 => ?_
      refine aops_orunN 1 _ _ ?_
      simp only [qq, Nat.reduceBEq, reduceIte, Nat.reduceEqDiff, Nat.reduceAdd, Nat.reduceLeDiff, reduceCtorEq, Nat.reduceMul, Int.reduceToNat, hb6, hb9, s15t0, s15t6]
      refine aops_nil (hL17 _ ?_)
      simp only [qq, Nat.reduceBEq, reduceIte, Nat.reduceEqDiff, Nat.reduceAdd, Nat.reduceLeDiff, reduceCtorEq, Nat.reduceMul, Int.reduceToNat, hb6, hb9, s15t0, s15t6]
      try simp only [rk_state]
      refine hK16 _ ?_
      as_aux_lemma =>
       refine awp_seq_k fun K18 hK18 => ?_
       refine awp_seq_k fun K19 hK19 => ?_
       refine awp_region_lit fun L20 hL20 => ?_
       refine aops_orunN 2 _ _ ?_
       simp only [qq, Nat.reduceBEq, reduceIte, Nat.reduceEqDiff, Nat.reduceAdd, Nat.reduceLeDiff, reduceCtorEq, Nat.reduceMul, Int.reduceToNat, hb6, hb9, s15t0, s15t6]
       refine aops_nil (hL20 _ ?_)
       simp only [qq, Nat.reduceBEq, reduceIte, Nat.reduceEqDiff, Nat.reduceAdd, Nat.reduceLeDiff, reduceCtorEq, Nat.reduceMul, Int.reduceToNat, hb6, hb9, s15t0, s15t6]
       try simp only [rk_state]
       refine hK19 _ ?_
       refine awp_cond (t := ?t21) ?h21 (fun hb21 => ?a21) (fun hb21 => ?b21)
       case h21 => simp only [qq, Nat.reduceBEq, reduceIte, Nat.reduceEqDiff, Nat.reduceAdd, Nat.reduceLeDiff, reduceCtorEq, Nat.reduceMul, Int.reduceToNat, hb6, hb9, s15t0, s15t6]; rfl
       case a21 =>
        have hp21 := hb21
        try simp only [kb] at hp21
        all_goals try exact absurd hb21 (by decide)
        all_goals try (exfalso; omega)
        all_goals
         refine awp_region_lit fun L22 hL22 => ?_
         refine aops_orunN 1 _ _ ?_
         simp only [qq, Nat.reduceBEq, reduceIte, Nat.reduceEqDiff, Nat.reduceAdd, Nat.reduceLeDiff, reduceCtorEq, Nat.reduceMul, Int.reduceToNat, hb6, hb9, s15t0, s15t6, hb21]
         refine aops_nil (hL22 _ ?_)
         simp only [qq, Nat.reduceBEq, reduceIte, Nat.reduceEqDiff, Nat.reduceAdd, Nat.reduceLeDiff, reduceCtorEq, Nat.reduceMul, Int.reduceToNat, hb6, hb9, s15t0, s15t6, hb21]
         try simp only [rk_state]
         refine hK18 _ ?_
         refine awp_seq_k fun K23 hK23 => ?_
         rcases hq4_5 with hx | hx
         case inl =>
          subst hx
          have sm : m.tmod 8 = m % 8 := Int.tmod_eq_emod_of_nonneg hq4_0
          have sP8 := (putm (k := k) (m := m) hq4_0).1
          have sP0 := (putm (k := k) (m := m) hq4_0).2
          refine awp_region_lit fun L24 hL24 => ?_
          refine aops_orunN 3 _ _ ?_
          simp only [qq, Nat.reduceBEq, reduceIte, Nat.reduceEqDiff, Nat.reduceAdd, Nat.reduceLeDiff, reduceCtorEq, Nat.reduceMul, Int.reduceToNat, hb6, hb9, s15t0, s15t6, hb21, sm, sP8, sP0]
          refine aops_val (v := ?v25) rfl ?h25 ?_
          case h25 => simp only [qq, Nat.reduceBEq, reduceIte, Nat.reduceEqDiff, Nat.reduceAdd, Nat.reduceLeDiff, reduceCtorEq, Nat.reduceMul, Int.reduceToNat, hb6, hb9, s15t0, s15t6, hb21, sm, sP8, sP0]; (rw [y_rem] <;> omega)
          simp only [qq, Nat.reduceBEq, reduceIte, Nat.reduceEqDiff, Nat.reduceAdd, Nat.reduceLeDiff, reduceCtorEq, Nat.reduceMul, Int.reduceToNat, hb6, hb9, s15t0, s15t6, hb21, sm, sP8, sP0]
          refine aops_val (v := ?v26) rfl ?h26 ?_
          case h26 => simp only [qq, Nat.reduceBEq, reduceIte, Nat.reduceEqDiff, Nat.reduceAdd, Nat.reduceLeDiff, reduceCtorEq, Nat.reduceMul, Int.reduceToNat, hb6, hb9, s15t0, s15t6, hb21, sm, sP8, sP0]; first | (rw [wr_id] <;> omega) | rfl
          simp only [qq, Nat.reduceBEq, reduceIte, Nat.reduceEqDiff, Nat.reduceAdd, Nat.reduceLeDiff, reduceCtorEq, Nat.reduceMul, Int.reduceToNat, hb6, hb9, s15t0, s15t6, hb21, sm, sP8, sP0]
          refine aops_call_own (put_fun _ _ _ ?s27_0 ?s27_1) rfl rfl rfl rfl (by (try simp only [qq, Nat.reduceBEq, reduceIte, Nat.reduceEqDiff, Nat.reduceAdd, Nat.reduceLeDiff, reduceCtorEq, Nat.reduceMul, Int.reduceToNat, hb6, hb9, s15t0, s15t6, hb21, sm, sP8, sP0]); (repeat' (first | exact .nil | exact wk_c | exact wk_ownc | exact wk_nilsc | exact wk_nils | exact wk_fn | refine .cons ?_ ?_ | refine wk_agg ?_ | refine wk_fnL ?_))) rfl rfl rfl (by simp only [qq, Nat.reduceBEq, reduceIte, Nat.reduceEqDiff, Nat.reduceAdd, Nat.reduceLeDiff, reduceCtorEq, Nat.reduceMul, Int.reduceToNat, hb6, hb9, s15t0, s15t6, hb21, sm, sP8, sP0]) ?m27
          case s27_0 => first | assumption | omega | decide +kernel | (simp only [List.length_take, List.length_drop]; omega)
          case s27_1 => omega
          simp only [qq, Nat.reduceBEq, reduceIte, Nat.reduceEqDiff, Nat.reduceAdd, Nat.reduceLeDiff, reduceCtorEq, Nat.reduceMul, Int.reduceToNat, AV.setOwn, AV.setOwn1, hb6, hb9, s15t0, s15t6, hb21, sm, sP8, sP0]
          refine aops_orunN 4 _ _ ?_
          simp only [qq, Nat.reduceBEq, reduceIte, Nat.reduceEqDiff, Nat.reduceAdd, Nat.reduceLeDiff, reduceCtorEq, Nat.reduceMul, Int.reduceToNat, hb6, hb9, s15t0, s15t6, hb21, sm, sP8, sP0]
          refine aops_nil (hL24 _ ?_)
          simp only [qq, Nat.reduceBEq, reduceIte, Nat.reduceEqDiff, Nat.reduceAdd, Nat.reduceLeDiff, reduceCtorEq, Nat.reduceMul, Int.reduceToNat, hb6, hb9, s15t0, s15t6, hb21, sm, sP8, sP0]
          try simp only [rk_state]
          refine hK23 _ ?_
          as_aux_lemma =>
           refine awp_seq_k fun K28 hK28 => ?_
           have hp8 := pow8 (k := f) (by omega)
           have sq : m.tdiv 8 = m / 8 := Int.tdiv_eq_ediv_of_nonneg hq4_0
           refine awp_region_lit fun L29 hL29 => ?_
           refine aops_orunN 1 _ _ ?_
           simp only [qq, Nat.reduceBEq, reduceIte, Nat.reduceEqDiff, Nat.reduceAdd, Nat.reduceLeDiff, reduceCtorEq, Nat.reduceMul, Int.reduceToNat, hb6, hb9, s15t0, s15t6, hb21, sm, sP8, sP0, sq]
           refine aops_val (v := ?v30) rfl ?h30 ?_
           case h30 => simp only [qq, Nat.reduceBEq, reduceIte, Nat.reduceEqDiff, Nat.reduceAdd, Nat.reduceLeDiff, reduceCtorEq, Nat.reduceMul, Int.reduceToNat, hb6, hb9, s15t0, s15t6, hb21, sm, sP8, sP0, sq]; (rw [y_quo (by omega), sq, wr_id] <;> omega)
           simp only [qq, Nat.reduceBEq, reduceIte, Nat.reduceEqDiff, Nat.reduceAdd, Nat.reduceLeDiff, reduceCtorEq, Nat.reduceMul, Int.reduceToNat, hb6, hb9, s15t0, s15t6, hb21, sm, sP8, sP0, sq]
           refine aops_orunN 1 _ _ ?_
           simp only [qq, Nat.reduceBEq, reduceIte, Nat.reduceEqDiff, Nat.reduceAdd, Nat.reduceLeDiff, reduceCtorEq, Nat.reduceMul, Int.reduceToNat, hb6, hb9, s15t0, s15t6, hb21, sm, sP8, sP0, sq]
           refine aops_nil (hL29 _ ?_)
           simp only [qq, Nat.reduceBEq, reduceIte, Nat.reduceEqDiff, Nat.reduceAdd, Nat.reduceLeDiff, reduceCtorEq, Nat.reduceMul, Int.reduceToNat, hb6, hb9, s15t0, s15t6, hb21, sm, sP8, sP0, sq]
           try simp only [rk_state]
           refine hK28 _ ?_
           refine awp_seq_k fun K31 hK31 => ?_
           refine awp_region_lit fun L32 hL32 => ?_
           refine aops_orunN 2 _ _ ?_
           simp only [qq, Nat.reduceBEq, reduceIte, Nat.reduceEqDiff, Nat.reduceAdd, Nat.reduceLeDiff, reduceCtorEq, Nat.reduceMul, Int.reduceToNat, hb6, hb9, s15t0, s15t6, hb21, sm, sP8, sP0, sq]
           refine aops_nil (hL32 _ ?_)
           simp only [qq, Nat.reduceBEq, reduceIte, Nat.reduceEqDiff, Nat.reduceAdd, Nat.reduceLeDiff, reduceCtorEq, Nat.reduceMul, Int.reduceToNat, hb6, hb9, s15t0, s15t6, hb21, sm, sP8, sP0, sq]
           try simp only [rk_state]
           refine hK31 _ ?_
           refine awp_cond (t := ?t33) ?h33 (fun hb33 => ?a33) (fun hb33 => ?b33)
           case h33 => simp only [qq, Nat.reduceBEq, reduceIte, Nat.reduceEqDiff, Nat.reduceAdd, Nat.reduceLeDiff, reduceCtorEq, Nat.reduceMul, Int.reduceToNat, hb6, hb9, s15t0, s15t6, hb21, sm, sP8, sP0, sq]; rfl
           case a33 =>
            have hp33 := hb33
            try simp only [kb] at hp33
            all_goals try exact absurd hb33 (by decide)
            all_goals try (exfalso; omega)
            all_goals
             refine awp_seq_k fun K34 hK34 => ?_
             refine awp_region_lit fun L35 hL35 => ?_
             refine aops_orunN 3 _ _ ?_
             simp only [qq, Nat.reduceBEq, reduceIte, Nat.reduceEqDiff, Nat.reduceAdd, Nat.reduceLeDiff, reduceCtorEq, Nat.reduceMul, Int.reduceToNat, hb6, hb9, s15t0, s15t6, hb21, sm, sP8, sP0, sq, hb33]
             refine aops_nil (hL35 _ ?_)
             simp only [qq, Nat.reduceBEq, reduceIte, Nat.reduceEqDiff, Nat.reduceAdd, Nat.reduceLeDiff, reduceCtorEq, Nat.reduceMul, Int.reduceToNat, hb6, hb9, s15t0, s15t6, hb21, sm, sP8, sP0, sq, hb33]
             try simp only [rk_state]
             refine hK34 _ ?_
             as_aux_lemma =>
              refine awp_ret ?_
              try simp only [rk_state]
              first | refine ⟨_, 24, by simp only [qq, Nat.reduceBEq, reduceIte, Nat.reduceEqDiff, Nat.reduceAdd, Nat.reduceLeDiff, reduceCtorEq, Nat.reduceMul, Int.reduceToNat, resA, Try.results39, hb6, hb9, s15t0, s15t6, hb21, sm, sP8, sP0, sq, hb33]; rfl, ?_, fun l hl => absurd rfl hl, fun l hl => absurd rfl hl⟩ | refine ⟨_, 0, by simp only [qq, Nat.reduceBEq, reduceIte, Nat.reduceEqDiff, Nat.reduceAdd, Nat.reduceLeDiff, reduceCtorEq, Nat.reduceMul, Int.reduceToNat, resA, Try.results39, hb6, hb9, s15t0, s15t6, hb21, sm, sP8, sP0, sq, hb33]; rfl, ?_, fun l hl => absurd rfl hl, fun l hl => absurd rfl hl⟩
              simp only [packA]
              (unfold zputR); first | (rw [if_pos (by omega)]; (repeat' (first | exact .nil | exact wkR_c | exact wkR_own | exact wkR_nils | refine wkR_int ?_ | refine wkR_bool ?_ | refine wkR_sl ?_ | refine wkR_osl ?_ | refine wkR_nsl ?_ | refine wkR_oo ?_ | refine wkR_no ?_ | refine .cons ?_ ?_ | refine wkR_agg ?_ | refine wkR_tup ?_)) <;> rfl) | (rw [if_neg (by omega)]; (have hz := zenc_last (f := f) (m := m) (by omega) (by omega)); (repeat' (first | exact .nil | exact wkR_c | exact wkR_own | exact wkR_nils | refine wkR_int ?_ | refine wkR_bool ?_ | refine wkR_sl ?_ | refine wkR_osl ?_ | refine wkR_nsl ?_ | refine wkR_oo ?_ | refine wkR_no ?_ | refine .cons ?_ ?_ | refine wkR_agg ?_ | refine wkR_tup ?_)) <;> first | rfl | (rw [← hz, hq4_3]))
           case b33 =>
            have hp33 := hb33
            try simp only [kb] at hp33
            all_goals try exact absurd hb33 (by decide)
            all_goals try (exfalso; omega)
            all_goals
             refine awp_skip ?_
             try simp only [rk_state]
             try simp only [rk_state]
             have h8 := div8_lt hq4_1 (by omega)
             have hz := zenc_more (f := f) (m := m) (by omega) (by omega)
             refine hK15 _ ((fun (f : Nat) (m : Int) (k : List Bool) (x : AV) => 1 + f) (f - 1) (m / 8) (k ++ bitsN 4 (8 + m % 8)) (.own false 24 4 (Rw boC (k ++ bitsN 4 (8 + m % 8))))) ?_ ⟨f - 1, m / 8, k ++ bitsN 4 (8 + m % 8), .own false 24 4 (Rw boC (k ++ bitsN 4 (8 + m % 8))), rfl, ?_, ?_, ?_, ?_, ?_, ?_, ?_, ?_⟩
             · (try simp only []); omega
             · omega
             · exact h8.2
             · omega
             · (rw [List.append_assoc, ← hz]; exact hq4_3)
             · (rw [List.length_append, bitsN_len]; omega)
             · exact .inr rfl
             · (try simp only [qq, Nat.reduceBEq, reduceIte, Nat.reduceEqDiff, Nat.reduceAdd, Nat.reduceLeDiff, reduceCtorEq, Nat.reduceMul, Int.reduceToNat, hb6, hb9, s15t0, s15t6, hb21, sm, sP8, sP0, sq, hb33])
               all_goals (first | done | rfl | (simp only [AV.c.injEq, C.int.injEq, List.cons.injEq, and_true, true_and]; omega))
             · (try simp only [qq, Nat.reduceBEq, reduceIte, Nat.reduceEqDiff, Nat.reduceAdd, Nat.reduceLeDiff, reduceCtorEq, Nat.reduceMul, Int.reduceToNat, hb6, hb9, s15t0, s15t6, hb21, sm, sP8, sP0, sq, hb33])
               all_goals (first | done | rfl | (simp only [AV.c.injEq, C.int.injEq, List.cons.injEq, and_true, true_and]; omega))
         case inr =>
          subst hx
          have sm : m.tmod 8 = m % 8 := Int.tmod_eq_emod_of_nonneg hq4_0
          have sP8 := (putm (k := k) (m := m) hq4_0).1
          have sP0 := (putm (k := k) (m := m) hq4_0).2
          refine awp_region_lit fun L36 hL36 => ?_
          refine aops_orunN 3 _ _ ?_
          simp only [qq, Nat.reduceBEq, reduceIte, Nat.reduceEqDiff, Nat.reduceAdd, Nat.reduceLeDiff, reduceCtorEq, Nat.reduceMul, Int.reduceToNat, hb6, hb9, s15t0, s15t6, hb21, sm, sP8, sP0]
          refine aops_val (v := ?v37) rfl ?h37 ?_
          case h37 => simp only [qq, Nat.reduceBEq, reduceIte, Nat.reduceEqDiff, Nat.reduceAdd, Nat.reduceLeDiff, reduceCtorEq, Nat.reduceMul, Int.reduceToNat, hb6, hb9, s15t0, s15t6, hb21, sm, sP8, sP0]; (rw [y_rem] <;> omega)
          simp only [qq, Nat.reduceBEq, reduceIte, Nat.reduceEqDiff, Nat.reduceAdd, Nat.reduceLeDiff, reduceCtorEq, Nat.reduceMul, Int.reduceToNat, hb6, hb9, s15t0, s15t6, hb21, sm, sP8, sP0]
          refine aops_val (v := ?v38) rfl ?h38 ?_
          case h38 => simp only [qq, Nat.reduceBEq, reduceIte, Nat.reduceEqDiff, Nat.reduceAdd, Nat.reduceLeDiff, reduceCtorEq, Nat.reduceMul, Int.reduceToNat, hb6, hb9, s15t0, s15t6, hb21, sm, sP8, sP0]; first | (rw [wr_id] <;> omega) | rfl
          simp only [qq, Nat.reduceBEq, reduceIte, Nat.reduceEqDiff, Nat.reduceAdd, Nat.reduceLeDiff, reduceCtorEq, Nat.reduceMul, Int.reduceToNat, hb6, hb9, s15t0, s15t6, hb21, sm, sP8, sP0]
          refine aops_call_own (put_fun _ _ _ ?s39_0 ?s39_1) rfl rfl rfl rfl (by (try simp only [qq, Nat.reduceBEq, reduceIte, Nat.reduceEqDiff, Nat.reduceAdd, Nat.reduceLeDiff, reduceCtorEq, Nat.reduceMul, Int.reduceToNat, hb6, hb9, s15t0, s15t6, hb21, sm, sP8, sP0]); (repeat' (first | exact .nil | exact wk_c | exact wk_ownc | exact wk_nilsc | exact wk_nils | exact wk_fn | refine .cons ?_ ?_ | refine wk_agg ?_ | refine wk_fnL ?_))) rfl rfl rfl (by simp only [qq, Nat.reduceBEq, reduceIte, Nat.reduceEqDiff, Nat.reduceAdd, Nat.reduceLeDiff, reduceCtorEq, Nat.reduceMul, Int.reduceToNat, hb6, hb9, s15t0, s15t6, hb21, sm, sP8, sP0]) ?m39
          case s39_0 => first | assumption | omega | decide +kernel | (simp only [List.length_take, List.length_drop]; omega)
          case s39_1 => omega
          simp only [qq, Nat.reduceBEq, reduceIte, Nat.reduceEqDiff, Nat.reduceAdd, Nat.reduceLeDiff, reduceCtorEq, Nat.reduceMul, Int.reduceToNat, AV.setOwn, AV.setOwn1, hb6, hb9, s15t0, s15t6, hb21, sm, sP8, sP0]
          refine aops_orunN 4 _ _ ?_
          simp only [qq, Nat.reduceBEq, reduceIte, Nat.reduceEqDiff, Nat.reduceAdd, Nat.reduceLeDiff, reduceCtorEq, Nat.reduceMul, Int.reduceToNat, hb6, hb9, s15t0, s15t6, hb21, sm, sP8, sP0]
          refine aops_nil (hL36 _ ?_)
          simp only [qq, Nat.reduceBEq, reduceIte, Nat.reduceEqDiff, Nat.reduceAdd, Nat.reduceLeDiff, reduceCtorEq, Nat.reduceMul, Int.reduceToNat, hb6, hb9, s15t0, s15t6, hb21, sm, sP8, sP0]
          try simp only [rk_state]
          refine hK23 _ ?_
          as_aux_lemma =>
           refine awp_seq_k fun K40 hK40 => ?_
           have hp8 := pow8 (k := f) (by omega)
           have sq : m.tdiv 8 = m / 8 := Int.tdiv_eq_ediv_of_nonneg hq4_0
           refine awp_region_lit fun L41 hL41 => ?_
           refine aops_orunN 1 _ _ ?_
           simp only [qq, Nat.reduceBEq, reduceIte, Nat.reduceEqDiff, Nat.reduceAdd, Nat.reduceLeDiff, reduceCtorEq, Nat.reduceMul, Int.reduceToNat, hb6, hb9, s15t0, s15t6, hb21, sm, sP8, sP0, sq]
           refine aops_val (v := ?v42) rfl ?h42 ?_
           case h42 => simp only [qq, Nat.reduceBEq, reduceIte, Nat.reduceEqDiff, Nat.reduceAdd, Nat.reduceLeDiff, reduceCtorEq, Nat.reduceMul, Int.reduceToNat, hb6, hb9, s15t0, s15t6, hb21, sm, sP8, sP0, sq]; (rw [y_quo (by omega), sq, wr_id] <;> omega)
           simp only [qq, Nat.reduceBEq, reduceIte, Nat.reduceEqDiff, Nat.reduceAdd, Nat.reduceLeDiff, reduceCtorEq, Nat.reduceMul, Int.reduceToNat, hb6, hb9, s15t0, s15t6, hb21, sm, sP8, sP0, sq]
           refine aops_orunN 1 _ _ ?_
           simp only [qq, Nat.reduceBEq, reduceIte, Nat.reduceEqDiff, Nat.reduceAdd, Nat.reduceLeDiff, reduceCtorEq, Nat.reduceMul, Int.reduceToNat, hb6, hb9, s15t0, s15t6, hb21, sm, sP8, sP0, sq]
           refine aops_nil (hL41 _ ?_)
           simp only [qq, Nat.reduceBEq, reduceIte, Nat.reduceEqDiff, Nat.reduceAdd, Nat.reduceLeDiff, reduceCtorEq, Nat.reduceMul, Int.reduceToNat, hb6, hb9, s15t0, s15t6, hb21, sm, sP8, sP0, sq]
           try simp only [rk_state]
           refine hK40 _ ?_
           refine awp_seq_k fun K43 hK43 => ?_
           refine awp_region_lit fun L44 hL44 => ?_
           refine aops_orunN 2 _ _ ?_
           simp only [qq, Nat.reduceBEq, reduceIte, Nat.reduceEqDiff, Nat.reduceAdd, Nat.reduceLeDiff, reduceCtorEq, Nat.reduceMul, Int.reduceToNat, hb6, hb9, s15t0, s15t6, hb21, sm, sP8, sP0, sq]
           refine aops_nil (hL44 _ ?_)
           simp only [qq, Nat.reduceBEq, reduceIte, Nat.reduceEqDiff, Nat.reduceAdd, Nat.reduceLeDiff, reduceCtorEq, Nat.reduceMul, Int.reduceToNat, hb6, hb9, s15t0, s15t6, hb21, sm, sP8, sP0, sq]
           try simp only [rk_state]
           refine hK43 _ ?_
           refine awp_cond (t := ?t45) ?h45 (fun hb45 => ?a45) (fun hb45 => ?b45)
           case h45 => simp only [qq, Nat.reduceBEq, reduceIte, Nat.reduceEqDiff, Nat.reduceAdd, Nat.reduceLeDiff, reduceCtorEq, Nat.reduceMul, Int.reduceToNat, hb6, hb9, s15t0, s15t6, hb21, sm, sP8, sP0, sq]; rfl
           case a45 =>
            have hp45 := hb45
            try simp only [kb] at hp45
            all_goals try exact absurd hb45 (by decide)
            all_goals try (exfalso; omega)
            all_goals
             refine awp_seq_k fun K46 hK46 => ?_
             refine awp_region_lit fun L47 hL47 => ?_
             refine aops_orunN 3 _ _ ?_
             simp only [qq, Nat.reduceBEq, reduceIte, Nat.reduceEqDiff, Nat.reduceAdd, Nat.reduceLeDiff, reduceCtorEq, Nat.reduceMul, Int.reduceToNat, hb6, hb9, s15t0, s15t6, hb21, sm, sP8, sP0, sq, hb45]
             refine aops_nil (hL47 _ ?_)
             simp only [qq, Nat.reduceBEq, reduceIte, Nat.reduceEqDiff, Nat.reduceAdd, Nat.reduceLeDiff, reduceCtorEq, Nat.reduceMul, Int.reduceToNat, hb6, hb9, s15t0, s15t6, hb21, sm, sP8, sP0, sq, hb45]
             try simp only [rk_state]
             refine hK46 _ ?_
             as_aux_lemma =>
              refine awp_ret ?_
              try simp only [rk_state]
              first | refine ⟨_, 24, by simp only [qq, Nat.reduceBEq, reduceIte, Nat.reduceEqDiff, Nat.reduceAdd, Nat.reduceLeDiff, reduceCtorEq, Nat.reduceMul, Int.reduceToNat, resA, Try.results39, hb6, hb9, s15t0, s15t6, hb21, sm, sP8, sP0, sq, hb45]; rfl, ?_, fun l hl => absurd rfl hl, fun l hl => absurd rfl hl⟩ | refine ⟨_, 0, by simp only [qq, Nat.reduceBEq, reduceIte, Nat.reduceEqDiff, Nat.reduceAdd, Nat.reduceLeDiff, reduceCtorEq, Nat.reduceMul, Int.reduceToNat, resA, Try.results39, hb6, hb9, s15t0, s15t6, hb21, sm, sP8, sP0, sq, hb45]; rfl, ?_, fun l hl => absurd rfl hl, fun l hl => absurd rfl hl⟩
              simp only [packA]
              (unfold zputR); first | (rw [if_pos (by omega)]; (repeat' (first | exact .nil | exact wkR_c | exact wkR_own | exact wkR_nils | refine wkR_int ?_ | refine wkR_bool ?_ | refine wkR_sl ?_ | refine wkR_osl ?_ | refine wkR_nsl ?_ | refine wkR_oo ?_ | refine wkR_no ?_ | refine .cons ?_ ?_ | refine wkR_agg ?_ | refine wkR_tup ?_)) <;> rfl) | (rw [if_neg (by omega)]; (have hz := zenc_last (f := f) (m := m) (by omega) (by omega)); (repeat' (first | exact .nil | exact wkR_c | exact wkR_own | exact wkR_nils | refine wkR_int ?_ | refine wkR_bool ?_ | refine wkR_sl ?_ | refine wkR_osl ?_ | refine wkR_nsl ?_ | refine wkR_oo ?_ | refine wkR_no ?_ | refine .cons ?_ ?_ | refine wkR_agg ?_ | refine wkR_tup ?_)) <;> first | rfl | (rw [← hz, hq4_3]))
           case b45 =>
            have hp45 := hb45
            try simp only [kb] at hp45
            all_goals try exact absurd hb45 (by decide)
            all_goals try (exfalso; omega)
            all_goals
             refine awp_skip ?_
             try simp only [rk_state]
             try simp only [rk_state]
             have h8 := div8_lt hq4_1 (by omega)
             have hz := zenc_more (f := f) (m := m) (by omega) (by omega)
             refine hK15 _ ((fun (f : Nat) (m : Int) (k : List Bool) (x : AV) => 1 + f) (f - 1) (m / 8) (k ++ bitsN 4 (8 + m % 8)) (.own false 24 4 (Rw boC (k ++ bitsN 4 (8 + m % 8))))) ?_ ⟨f - 1, m / 8, k ++ bitsN 4 (8 + m % 8), .own false 24 4 (Rw boC (k ++ bitsN 4 (8 + m % 8))), rfl, ?_, ?_, ?_, ?_, ?_, ?_, ?_, ?_⟩
             · (try simp only []); omega
             · omega
             · exact h8.2
             · omega
             · (rw [List.append_assoc, ← hz]; exact hq4_3)
             · (rw [List.length_append, bitsN_len]; omega)
             · exact .inr rfl
             · (try simp only [qq, Nat.reduceBEq, reduceIte, Nat.reduceEqDiff, Nat.reduceAdd, Nat.reduceLeDiff, reduceCtorEq, Nat.reduceMul, Int.reduceToNat, hb6, hb9, s15t0, s15t6, hb21, sm, sP8, sP0, sq, hb45])
               all_goals (first | done | rfl | (simp only [AV.c.injEq, C.int.injEq, List.cons.injEq, and_true, true_and]; omega))
             · (try simp only [qq, Nat.reduceBEq, reduceIte, Nat.reduceEqDiff, Nat.reduceAdd, Nat.reduceLeDiff, reduceCtorEq, Nat.reduceMul, Int.reduceToNat, hb6, hb9, s15t0, s15t6, hb21, sm, sP8, sP0, sq, hb45])
               all_goals (first | done | rfl | (simp only [AV.c.injEq, C.int.injEq, List.cons.injEq, and_true, true_and]; omega))
       case b21 =>
        have hp21 := hb21
        try simp only [kb] at hp21
        all_goals try exact absurd hb21 (by decide)
        all_goals try (exfalso; omega)
        all_goals
         refine awp_skip ?_
         try simp only [rk_state]
         refine hK18 _ ?_
         as_aux_lemma =>
          refine awp_seq_k fun K48 hK48 => ?_
          rcases hq4_5 with hx | hx
          case inl =>
           subst hx
           have sm : m.tmod 8 = m % 8 := Int.tmod_eq_emod_of_nonneg hq4_0
           have sP8 := (putm (k := k) (m := m) hq4_0).1
           have sP0 := (putm (k := k) (m := m) hq4_0).2
           refine awp_region_lit fun L49 hL49 => ?_
           refine aops_orunN 3 _ _ ?_
           simp only [qq, Nat.reduceBEq, reduceIte, Nat.reduceEqDiff, Nat.reduceAdd, Nat.reduceLeDiff, reduceCtorEq, Nat.reduceMul, Int.reduceToNat, hb6, hb9, s15t0, s15t6, hb21, sm, sP8, sP0]
           refine aops_val (v := ?v50) rfl ?h50 ?_
           case h50 => simp only [qq, Nat.reduceBEq, reduceIte, Nat.reduceEqDiff, Nat.reduceAdd, Nat.reduceLeDiff, reduceCtorEq, Nat.reduceMul, Int.reduceToNat, hb6, hb9, s15t0, s15t6, hb21, sm, sP8, sP0]; (rw [y_rem] <;> omega)
           simp only [qq, Nat.reduceBEq, reduceIte, Nat.reduceEqDiff, Nat.reduceAdd, Nat.reduceLeDiff, reduceCtorEq, Nat.reduceMul, Int.reduceToNat, hb6, hb9, s15t0, s15t6, hb21, sm, sP8, sP0]
           refine aops_val (v := ?v51) rfl ?h51 ?_
           case h51 => simp only [qq, Nat.reduceBEq, reduceIte, Nat.reduceEqDiff, Nat.reduceAdd, Nat.reduceLeDiff, reduceCtorEq, Nat.reduceMul, Int.reduceToNat, hb6, hb9, s15t0, s15t6, hb21, sm, sP8, sP0]; first | (rw [wr_id] <;> omega) | rfl
           simp only [qq, Nat.reduceBEq, reduceIte, Nat.reduceEqDiff, Nat.reduceAdd, Nat.reduceLeDiff, reduceCtorEq, Nat.reduceMul, Int.reduceToNat, hb6, hb9, s15t0, s15t6, hb21, sm, sP8, sP0]
           refine aops_call_own (put_fun _ _ _ ?s52_0 ?s52_1) rfl rfl rfl rfl (by (try simp only [qq, Nat.reduceBEq, reduceIte, Nat.reduceEqDiff, Nat.reduceAdd, Nat.reduceLeDiff, reduceCtorEq, Nat.reduceMul, Int.reduceToNat, hb6, hb9, s15t0, s15t6, hb21, sm, sP8, sP0]); (repeat' (first | exact .nil | exact wk_c | exact wk_ownc | exact wk_nilsc | exact wk_nils | exact wk_fn | refine .cons ?_ ?_ | refine wk_agg ?_ | refine wk_fnL ?_))) rfl rfl rfl (by simp only [qq, Nat.reduceBEq, reduceIte, Nat.reduceEqDiff, Nat.reduceAdd, Nat.reduceLeDiff, reduceCtorEq, Nat.reduceMul, Int.reduceToNat, hb6, hb9, s15t0, s15t6, hb21, sm, sP8, sP0]) ?m52
           case s52_0 => first | assumption | omega | decide +kernel | (simp only [List.length_take, List.length_drop]; omega)
           case s52_1 => omega
           simp only [qq, Nat.reduceBEq, reduceIte, Nat.reduceEqDiff, Nat.reduceAdd, Nat.reduceLeDiff, reduceCtorEq, Nat.reduceMul, Int.reduceToNat, AV.setOwn, AV.setOwn1, hb6, hb9, s15t0, s15t6, hb21, sm, sP8, sP0]
           refine aops_orunN 4 _ _ ?_
           simp only [qq, Nat.reduceBEq, reduceIte, Nat.reduceEqDiff, Nat.reduceAdd, Nat.reduceLeDiff, reduceCtorEq, Nat.reduceMul, Int.reduceToNat, hb6, hb9, s15t0, s15t6, hb21, sm, sP8, sP0]
           refine aops_nil (hL49 _ ?_)
           simp only [qq, Nat.reduceBEq, reduceIte, Nat.reduceEqDiff, Nat.reduceAdd, Nat.reduceLeDiff, reduceCtorEq, Nat.reduceMul, Int.reduceToNat, hb6, hb9, s15t0, s15t6, hb21, sm, sP8, sP0]
           try simp only [rk_state]
           refine hK48 _ ?_
           refine awp_seq_k fun K53 hK53 => ?_
           have hp8 := pow8 (k := f) (by omega)
           have sq : m.tdiv 8 = m / 8 := Int.tdiv_eq_ediv_of_nonneg hq4_0
           refine awp_region_lit fun L54 hL54 => ?_
           refine aops_orunN 1 _ _ ?_
           simp only [qq, Nat.reduceBEq, reduceIte, Nat.reduceEqDiff, Nat.reduceAdd, Nat.reduceLeDiff, reduceCtorEq, Nat.reduceMul, Int.reduceToNat, hb6, hb9, s15t0, s15t6, hb21, sm, sP8, sP0, sq]
           refine aops_val (v := ?v55) rfl ?h55 ?_
           case h55 => simp only [qq, Nat.reduceBEq, reduceIte, Nat.reduceEqDiff, Nat.reduceAdd, Nat.reduceLeDiff, reduceCtorEq, Nat.reduceMul, Int.reduceToNat, hb6, hb9, s15t0, s15t6, hb21, sm, sP8, sP0, sq]; (rw [y_quo (by omega), sq, wr_id] <;> omega)
           simp only [qq, Nat.reduceBEq, reduceIte, Nat.reduceEqDiff, Nat.reduceAdd, Nat.reduceLeDiff, reduceCtorEq, Nat.reduceMul, Int.reduceToNat, hb6, hb9, s15t0, s15t6, hb21, sm, sP8, sP0, sq]
           refine aops_orunN 1 _ _ ?_
           simp only [qq, Nat.reduceBEq, reduceIte, Nat.reduceEqDiff, Nat.reduceAdd, Nat.reduceLeDiff, reduceCtorEq, Nat.reduceMul, Int.reduceToNat, hb6, hb9, s15t0, s15t6, hb21, sm, sP8, sP0, sq]
           refine aops_nil (hL54 _ ?_)
           simp only [qq, Nat.reduceBEq, reduceIte, Nat.reduceEqDiff, Nat.reduceAdd, Nat.reduceLeDiff, reduceCtorEq, Nat.reduceMul, Int.reduceToNat, hb6, hb9, s15t0, s15t6, hb21, sm, sP8, sP0, sq]
           try simp only [rk_state]
           refine hK53 _ ?_
           as_aux_lemma =>
            refine awp_seq_k fun K56 hK56 => ?_
            refine awp_region_lit fun L57 hL57 => ?_
            refine aops_orunN 2 _ _ ?_
            simp only [qq, Nat.reduceBEq, reduceIte, Nat.reduceEqDiff, Nat.reduceAdd, Nat.reduceLeDiff, reduceCtorEq, Nat.reduceMul, Int.reduceToNat, hb6, hb9, s15t0, s15t6, hb21, sm, sP8, sP0, sq]
            refine aops_nil (hL57 _ ?_)
            simp only [qq, Nat.reduceBEq, reduceIte, Nat.reduceEqDiff, Nat.reduceAdd, Nat.reduceLeDiff, reduceCtorEq, Nat.reduceMul, Int.reduceToNat, hb6, hb9, s15t0, s15t6, hb21, sm, sP8, sP0, sq]
            try simp only [rk_state]
            refine hK56 _ ?_
            refine awp_cond (t := ?t58) ?h58 (fun hb58 => ?a58) (fun hb58 => ?b58)
            case h58 => simp only [qq, Nat.reduceBEq, reduceIte, Nat.reduceEqDiff, Nat.reduceAdd, Nat.reduceLeDiff, reduceCtorEq, Nat.reduceMul, Int.reduceToNat, hb6, hb9, s15t0, s15t6, hb21, sm, sP8, sP0, sq]; rfl
            case a58 =>
             have hp58 := hb58
             try simp only [kb] at hp58
             all_goals try exact absurd hb58 (by decide)
             all_goals try (exfalso; omega)
             all_goals
              refine awp_seq_k fun K59 hK59 => ?_
              refine awp_region_lit fun L60 hL60 => ?_
              refine aops_orunN 3 _ _ ?_
              simp only [qq, Nat.reduceBEq, reduceIte, Nat.reduceEqDiff, Nat.reduceAdd, Nat.reduceLeDiff, reduceCtorEq, Nat.reduceMul, Int.reduceToNat, hb6, hb9, s15t0, s15t6, hb21, sm, sP8, sP0, sq, hb58]
              refine aops_nil (hL60 _ ?_)
              simp only [qq, Nat.reduceBEq, reduceIte, Nat.reduceEqDiff, Nat.reduceAdd, Nat.reduceLeDiff, reduceCtorEq, Nat.reduceMul, Int.reduceToNat, hb6, hb9, s15t0, s15t6, hb21, sm, sP8, sP0, sq, hb58]
              try simp only [rk_state]
              refine hK59 _ ?_
              refine awp_ret ?_
              try simp only [rk_state]
              first | refine ⟨_, 24, by simp only [qq, Nat.reduceBEq, reduceIte, Nat.reduceEqDiff, Nat.reduceAdd, Nat.reduceLeDiff, reduceCtorEq, Nat.reduceMul, Int.reduceToNat, resA, Try.results39, hb6, hb9, s15t0, s15t6, hb21, sm, sP8, sP0, sq, hb58]; rfl, ?_, fun l hl => absurd rfl hl, fun l hl => absurd rfl hl⟩ | refine ⟨_, 0, by simp only [qq, Nat.reduceBEq, reduceIte, Nat.reduceEqDiff, Nat.reduceAdd, Nat.reduceLeDiff, reduceCtorEq, Nat.reduceMul, Int.reduceToNat, resA, Try.results39, hb6, hb9, s15t0, s15t6, hb21, sm, sP8, sP0, sq, hb58]; rfl, ?_, fun l hl => absurd rfl hl, fun l hl => absurd rfl hl⟩
              simp only [packA]
              (unfold zputR); first | (rw [if_pos (by omega)]; (repeat' (first | exact .nil | exact wkR_c | exact wkR_own | exact wkR_nils | refine wkR_int ?_ | refine wkR_bool ?_ | refine wkR_sl ?_ | refine wkR_osl ?_ | refine wkR_nsl ?_ | refine wkR_oo ?_ | refine wkR_no ?_ | refine .cons ?_ ?_ | refine wkR_agg ?_ | refine wkR_tup ?_)) <;> rfl) | (rw [if_neg (by omega)]; (have hz := zenc_last (f := f) (m := m) (by omega) (by omega)); (repeat' (first | exact .nil | exact wkR_c | exact wkR_own | exact wkR_nils | refine wkR_int ?_ | refine wkR_bool ?_ | refine wkR_sl ?_ | refine wkR_osl ?_ | refine wkR_nsl ?_ | refine wkR_oo ?_ | refine wkR_no ?_ | refine .cons ?_ ?_ | refine wkR_agg ?_ | refine wkR_tup ?_)) <;> first | rfl | (rw [← hz, hq4_3]))
            case b58 =>
             have hp58 := hb58
             try simp only [kb] at hp58
             all_goals try exact absurd hb58 (by decide)
             all_goals try (exfalso; omega)
             all_goals
              refine awp_skip ?_
              try simp only [rk_state]
              try simp only [rk_state]
              have h8 := div8_lt hq4_1 (by omega)
              have hz := zenc_more (f := f) (m := m) (by omega) (by omega)
              refine hK15 _ ((fun (f : Nat) (m : Int) (k : List Bool) (x : AV) => 1 + f) (f - 1) (m / 8) (k ++ bitsN 4 (8 + m % 8)) (.own false 24 4 (Rw boC (k ++ bitsN 4 (8 + m % 8))))) ?_ ⟨f - 1, m / 8, k ++ bitsN 4 (8 + m % 8), .own false 24 4 (Rw boC (k ++ bitsN 4 (8 + m % 8))), rfl, ?_, ?_, ?_, ?_, ?_, ?_, ?_, ?_⟩
              · (try simp only []); omega
              · omega
              · exact h8.2
              · omega
              · (rw [List.append_assoc, ← hz]; exact hq4_3)
              · (rw [List.length_append, bitsN_len]; omega)
              · exact .inr rfl
              · (try simp only [qq, Nat.reduceBEq, reduceIte, Nat.reduceEqDiff, Nat.reduceAdd, Nat.reduceLeDiff, reduceCtorEq, Nat.reduceMul, Int.reduceToNat, hb6, hb9, s15t0, s15t6, hb21, sm, sP8, sP0, sq, hb58])
                all_goals (first | done | rfl | (simp only [AV.c.injEq, C.int.injEq, List.cons.injEq, and_true, true_and]; omega))
              · (try simp only [qq, Nat.reduceBEq, reduceIte, Nat.reduceEqDiff, Nat.reduceAdd, Nat.reduceLeDiff, reduceCtorEq, Nat.reduceMul, Int.reduceToNat, hb6, hb9, s15t0, s15t6, hb21, sm, sP8, sP0, sq, hb58])
                all_goals (first | done | rfl | (simp only [AV.c.injEq, C.int.injEq, List.cons.injEq, and_true, true_and]; omega))
          case inr =>
           subst hx
           have sm : m.tmod 8 = m % 8 := Int.tmod_eq_emod_of_nonneg hq4_0
           have sP8 := (putm (k := k) (m := m) hq4_0).1
           have sP0 := (putm (k := k) (m := m) hq4_0).2
           refine awp_region_lit fun L61 hL61 => ?_
           refine aops_orunN 3 _ _ ?_
           simp only [qq, Nat.reduceBEq, reduceIte, Nat.reduceEqDiff, Nat.reduceAdd, Nat.reduceLeDiff, reduceCtorEq, Nat.reduceMul, Int.reduceToNat, hb6, hb9, s15t0, s15t6, hb21, sm, sP8, sP0]
           refine aops_val (v := ?v62) rfl ?h62 ?_
           case h62 => simp only [qq, Nat.reduceBEq, reduceIte, Nat.reduceEqDiff, Nat.reduceAdd, Nat.reduceLeDiff, reduceCtorEq, Nat.reduceMul, Int.reduceToNat, hb6, hb9, s15t0, s15t6, hb21, sm, sP8, sP0]; (rw [y_rem] <;> omega)
           simp only [qq, Nat.reduceBEq, reduceIte, Nat.reduceEqDiff, Nat.reduceAdd, Nat.reduceLeDiff, reduceCtorEq, Nat.reduceMul, Int.reduceToNat, hb6, hb9, s15t0, s15t6, hb21, sm, sP8, sP0]
           refine aops_val (v := ?v63) rfl ?h63 ?_
           case h63 => simp only [qq, Nat.reduceBEq, reduceIte, Nat.reduceEqDiff, Nat.reduceAdd, Nat.reduceLeDiff, reduceCtorEq, Nat.reduceMul, Int.reduceToNat, hb6, hb9, s15t0, s15t6, hb21, sm, sP8, sP0]; first | (rw [wr_id] <;> omega) | rfl
           simp only [qq, Nat.reduceBEq, reduceIte, Nat.reduceEqDiff, Nat.reduceAdd, Nat.reduceLeDiff, reduceCtorEq, Nat.reduceMul, Int.reduceToNat, hb6, hb9, s15t0, s15t6, hb21, sm, sP8, sP0]
           refine aops_call_own (put_fun _ _ _ ?s64_0 ?s64_1) rfl rfl rfl rfl (by (try simp only [qq, Nat.reduceBEq, reduceIte, Nat.reduceEqDiff, Nat.reduceAdd, Nat.reduceLeDiff, reduceCtorEq, Nat.reduceMul, Int.reduceToNat, hb6, hb9, s15t0, s15t6, hb21, sm, sP8, sP0]); (repeat' (first | exact .nil | exact wk_c | exact wk_ownc | exact wk_nilsc | exact wk_nils | exact wk_fn | refine .cons ?_ ?_ | refine wk_agg ?_ | refine wk_fnL ?_))) rfl rfl rfl (by simp only [qq, Nat.reduceBEq, reduceIte, Nat.reduceEqDiff, Nat.reduceAdd, Nat.reduceLeDiff, reduceCtorEq, Nat.reduceMul, Int.reduceToNat, hb6, hb9, s15t0, s15t6, hb21, sm, sP8, sP0]) ?m64
           case s64_0 => first | assumption | omega | decide +kernel | (simp only [List.length_take, List.length_drop]; omega)
           case s64_1 => omega
           simp only [qq, Nat.reduceBEq, reduceIte, Nat.reduceEqDiff, Nat.reduceAdd, Nat.reduceLeDiff, reduceCtorEq, Nat.reduceMul, Int.reduceToNat, AV.setOwn, AV.setOwn1, hb6, hb9, s15t0, s15t6, hb21, sm, sP8, sP0]
           refine aops_orunN 4 _ _ ?_
           simp only [qq, Nat.reduceBEq, reduceIte, Nat.reduceEqDiff, Nat.reduceAdd, Nat.reduceLeDiff, reduceCtorEq, Nat.reduceMul, Int.reduceToNat, hb6, hb9, s15t0, s15t6, hb21, sm, sP8, sP0]
           refine aops_nil (hL61 _ ?_)
           simp only [qq, Nat.reduceBEq, reduceIte, Nat.reduceEqDiff, Nat.reduceAdd, Nat.reduceLeDiff, reduceCtorEq, Nat.reduceMul, Int.reduceToNat, hb6, hb9, s15t0, s15t6, hb21, sm, sP8, sP0]
           try simp only [rk_state]
           refine hK48 _ ?_
           refine awp_seq_k fun K65 hK65 => ?_
           have hp8 := pow8 (k := f) (by omega)
           have sq : m.tdiv 8 = m / 8 := Int.tdiv_eq_ediv_of_nonneg hq4_0
           refine awp_region_lit fun L66 hL66 => ?_
           refine aops_orunN 1 _ _ ?_
           simp only [qq, Nat.reduceBEq, reduceIte, Nat.reduceEqDiff, Nat.reduceAdd, Nat.reduceLeDiff, reduceCtorEq, Nat.reduceMul, Int.reduceToNat, hb6, hb9, s15t0, s15t6, hb21, sm, sP8, sP0, sq]
           refine aops_val (v := ?v67) rfl ?h67 ?_
           case h67 => simp only [qq, Nat.reduceBEq, reduceIte, Nat.reduceEqDiff, Nat.reduceAdd, Nat.reduceLeDiff, reduceCtorEq, Nat.reduceMul, Int.reduceToNat, hb6, hb9, s15t0, s15t6, hb21, sm, sP8, sP0, sq]; (rw [y_quo (by omega), sq, wr_id] <;> omega)
           simp only [qq, Nat.reduceBEq, reduceIte, Nat.reduceEqDiff, Nat.reduceAdd, Nat.reduceLeDiff, reduceCtorEq, Nat.reduceMul, Int.reduceToNat, hb6, hb9, s15t0, s15t6, hb21, sm, sP8, sP0, sq]
           refine aops_orunN 1 _ _ ?_
           simp only [qq, Nat.reduceBEq, reduceIte, Nat.reduceEqDiff, Nat.reduceAdd, Nat.reduceLeDiff, reduceCtorEq, Nat.reduceMul, Int.reduceToNat, hb6, hb9, s15t0, s15t6, hb21, sm, sP8, sP0, sq]
           refine aops_nil (hL66 _ ?_)
           simp only [qq, Nat.reduceBEq, reduceIte, Nat.reduceEqDiff, Nat.reduceAdd, Nat.reduceLeDiff, reduceCtorEq, Nat.reduceMul, Int.reduceToNat, hb6, hb9, s15t0, s15t6, hb21, sm, sP8, sP0, sq]
           try simp only [rk_state]
           refine hK65 _ ?_
           as_aux_lemma =>
            refine awp_seq_k fun K68 hK68 => ?_
            refine awp_region_lit fun L69 hL69 => ?_
            refine aops_orunN 2 _ _ ?_
            simp only [qq, Nat.reduceBEq, reduceIte, Nat.reduceEqDiff, Nat.reduceAdd, Nat.reduceLeDiff, reduceCtorEq, Nat.reduceMul, Int.reduceToNat, hb6, hb9, s15t0, s15t6, hb21, sm, sP8, sP0, sq]
            refine aops_nil (hL69 _ ?_)
            simp only [qq, Nat.reduceBEq, reduceIte, Nat.reduceEqDiff, Nat.reduceAdd, Nat.reduceLeDiff, reduceCtorEq, Nat.reduceMul, Int.reduceToNat, hb6, hb9, s15t0, s15t6, hb21, sm, sP8, sP0, sq]
            try simp only [rk_state]
            refine hK68 _ ?_
            refine awp_cond (t := ?t70) ?h70 (fun hb70 => ?a70) (fun hb70 => ?b70)
            case h70 => simp only [qq, Nat.reduceBEq, reduceIte, Nat.reduceEqDiff, Nat.reduceAdd, Nat.reduceLeDiff, reduceCtorEq, Nat.reduceMul, Int.reduceToNat, hb6, hb9, s15t0, s15t6, hb21, sm, sP8, sP0, sq]; rfl
            case a70 =>
             have hp70 := hb70
             try simp only [kb] at hp70
             all_goals try exact absurd hb70 (by decide)
             all_goals try (exfalso; omega)
             all_goals
              refine awp_seq_k fun K71 hK71 => ?_
              refine awp_region_lit fun L72 hL72 => ?_
              refine aops_orunN 3 _ _ ?_
              simp only [qq, Nat.reduceBEq, reduceIte, Nat.reduceEqDiff, Nat.reduceAdd, Nat.reduceLeDiff, reduceCtorEq, Nat.reduceMul, Int.reduceToNat, hb6, hb9, s15t0, s15t6, hb21, sm, sP8, sP0, sq, hb70]
              refine aops_nil (hL72 _ ?_)
              simp only [qq, Nat.reduceBEq, reduceIte, Nat.reduceEqDiff, Nat.reduceAdd, Nat.reduceLeDiff, reduceCtorEq, Nat.reduceMul, Int.reduceToNat, hb6, hb9, s15t0, s15t6, hb21, sm, sP8, sP0, sq, hb70]
              try simp only [rk_state]
              refine hK71 _ ?_
              refine awp_ret ?_
              try simp only [rk_state]
              first | refine ⟨_, 24, by simp only [qq, Nat.reduceBEq, reduceIte, Nat.reduceEqDiff, Nat.reduceAdd, Nat.reduceLeDiff, reduceCtorEq, Nat.reduceMul, Int.reduceToNat, resA, Try.results39, hb6, hb9, s15t0, s15t6, hb21, sm, sP8, sP0, sq, hb70]; rfl, ?_, fun l hl => absurd rfl hl, fun l hl => absurd rfl hl⟩ | refine ⟨_, 0, by simp only [qq, Nat.reduceBEq, reduceIte, Nat.reduceEqDiff, Nat.reduceAdd, Nat.reduceLeDiff, reduceCtorEq, Nat.reduceMul, Int.reduceToNat, resA, Try.results39, hb6, hb9, s15t0, s15t6, hb21, sm, sP8, sP0, sq, hb70]; rfl, ?_, fun l hl => absurd rfl hl, fun l hl => absurd rfl hl⟩
              simp only [packA]
              (unfold zputR); first | (rw [if_pos (by omega)]; (repeat' (first | exact .nil | exact wkR_c | exact wkR_own | exact wkR_nils | refine wkR_int ?_ | refine wkR_bool ?_ | refine wkR_sl ?_ | refine wkR_osl ?_ | refine wkR_nsl ?_ | refine wkR_oo ?_ | refine wkR_no ?_ | refine .cons ?_ ?_ | refine wkR_agg ?_ | refine wkR_tup ?_)) <;> rfl) | (rw [if_neg (by omega)]; (have hz := zenc_last (f := f) (m := m) (by omega) (by omega)); (repeat' (first | exact .nil | exact wkR_c | exact wkR_own | exact wkR_nils | refine wkR_int ?_ | refine wkR_bool ?_ | refine wkR_sl ?_ | refine wkR_osl ?_ | refine wkR_nsl ?_ | refine wkR_oo ?_ | refine wkR_no ?_ | refine .cons ?_ ?_ | refine wkR_agg ?_ | refine wkR_tup ?_)) <;> first | rfl | (rw [← hz, hq4_3]))
            case b70 =>
             have hp70 := hb70
             try simp only [kb] at hp70
             all_goals try exact absurd hb70 (by decide)
             all_goals try (exfalso; omega)
             all_goals
              refine awp_skip ?_
              try simp only [rk_state]
              try simp only [rk_state]
              have h8 := div8_lt hq4_1 (by omega)
              have hz := zenc_more (f := f) (m := m) (by omega) (by omega)
              refine hK15 _ ((fun (f : Nat) (m : Int) (k : List Bool) (x : AV) => 1 + f) (f - 1) (m / 8) (k ++ bitsN 4 (8 + m % 8)) (.own false 24 4 (Rw boC (k ++ bitsN 4 (8 + m % 8))))) ?_ ⟨f - 1, m / 8, k ++ bitsN 4 (8 + m % 8), .own false 24 4 (Rw boC (k ++ bitsN 4 (8 + m % 8))), rfl, ?_, ?_, ?_, ?_, ?_, ?_, ?_, ?_⟩
              · (try simp only []); omega
              · omega
              · exact h8.2
              · omega
              · (rw [List.append_assoc, ← hz]; exact hq4_3)
              · (rw [List.length_append, bitsN_len]; omega)
              · exact .inr rfl
              · (try simp only [qq, Nat.reduceBEq, reduceIte, Nat.reduceEqDiff, Nat.reduceAdd, Nat.reduceLeDiff, reduceCtorEq, Nat.reduceMul, Int.reduceToNat, hb6, hb9, s15t0, s15t6, hb21, sm, sP8, sP0, sq, hb70])
                all_goals (first | done | rfl | (simp only [AV.c.injEq, C.int.injEq, List.cons.injEq, and_true, true_and]; omega))
              · (try simp only [qq, Nat.reduceBEq, reduceIte, Nat.reduceEqDiff, Nat.reduceAdd, Nat.reduceLeDiff, reduceCtorEq, Nat.reduceMul, Int.reduceToNat, hb6, hb9, s15t0, s15t6, hb21, sm, sP8, sP0, sq, hb70])
                all_goals (first | done | rfl | (simp only [AV.c.injEq, C.int.injEq, List.cons.injEq, and_true, true_and]; omega))
set_option maxHeartbeats 4000000 in
set_option maxRecDepth 50000 in
theorem zread_fun (l : List Bool) (hl : l.length ≤ 140737488355200) : Fun Try.prog 98 [.c (.sl 4 (Rw boC l))] nomem (.tup [.c (.int .i64 (zreadR l).1), .c (.int .i64 (zreadR l).2.1), .c (.int .i64 (zreadR l).2.2)]) nomem := by
 refine fun_of_awp Try.func98 rfl (by decide +kernel) (by decide +kernel) (Nat.le_of_ble_eq_true rfl) (fun _ _ => rfl) (fun _ _ => rfl) ?_
 refine awp_seq_k fun K1 hK1 => ?_
 refine awp_region_lit fun L2 hL2 => ?_
 refine aops_orunN 3 _ _ ?_
 simp only [qq, Nat.reduceBEq, reduceIte, Nat.reduceEqDiff, Nat.reduceAdd, Nat.reduceLeDiff, reduceCtorEq, Nat.reduceMul, Int.reduceToNat]
 refine aops_nil (hL2 _ ?_)
 simp only [qq, Nat.reduceBEq, reduceIte, Nat.reduceEqDiff, Nat.reduceAdd, Nat.reduceLeDiff, reduceCtorEq, Nat.reduceMul, Int.reduceToNat]
 try simp only [rk_state]
 refine hK1 _ ?_
 refine awp_seq_k fun K3 hK3 => ?_
 refine awp_region_lit fun L4 hL4 => ?_
 refine aops_orunN 2 _ _ ?_
 simp only [qq, Nat.reduceBEq, reduceIte, Nat.reduceEqDiff, Nat.reduceAdd, Nat.reduceLeDiff, reduceCtorEq, Nat.reduceMul, Int.reduceToNat]
 refine aops_nil (hL4 _ ?_)
 simp only [qq, Nat.reduceBEq, reduceIte, Nat.reduceEqDiff, Nat.reduceAdd, Nat.reduceLeDiff, reduceCtorEq, Nat.reduceMul, Int.reduceToNat]
 try simp only [rk_state]
 refine hK3 _ ?_
 refine awp_seq_k fun K5 hK5 => ?_
 refine awp_seq_k fun K6 hK6 => ?_
 refine awp_region_lit fun L7 hL7 => ?_
 refine aops_orunN 1 _ _ ?_
 simp only [qq, Nat.reduceBEq, reduceIte, Nat.reduceEqDiff, Nat.reduceAdd, Nat.reduceLeDiff, reduceCtorEq, Nat.reduceMul, Int.reduceToNat]
 refine aops_nil (hL7 _ ?_)
 simp only [qq, Nat.reduceBEq, reduceIte, Nat.reduceEqDiff, Nat.reduceAdd, Nat.reduceLeDiff, reduceCtorEq, Nat.reduceMul, Int.reduceToNat]
 try simp only [rk_state]
 refine hK6 _ ?_
 as_aux_lemma =>
  refine awp_block ?_
  refine awp_loopW (W := [11, 12, 7, 14, 15, 16, 17, 18, 19, 20, 21, 13, 22, 23, 8, 9, 24, 25, 26, 2, 3, 4, 27, 28, 29, 30, 31, 32, 2, 3, 4, 33, 34, 35, 36, 37, 38, 39, 40, 5, 6, 41, 42, 2, 3, 4, 43, 44, 45, 46, 47, 48, 49, 50, 51, 52, 53, 54, 2, 3, 4, 55, 56, 57, 58, 59, 2, 3, 4, 60, 10]) (M := []) rfl rfl (fun kk s => ∃ (k : Nat) (n : Int), kk = 8 - k ∧ (k ≤ 8) ∧ (0 ≤ n ∧ n ≤ 8000000) ∧ (zread (8 - k) k n (8 ^ k) (l.drop (4 * k)) = zreadR l) ∧ s.t 5 = .c (.int .i64 n) ∧ s.t 6 = .c (.int .i64 (8 ^ k)) ∧ s.t 10 = .c (.int .i64 (k : Int))) ((fun (k : Nat) (n : Int) => 8 - k) (0) (0)) ?i8 ?r8
  case i8 =>
   refine ⟨0, 0, rfl, ?_, ?_, ?_, ?_, ?_, ?_⟩
   · omega
   · omega
   · rfl
   · (try simp only [qq, Nat.reduceBEq, reduceIte, Nat.reduceEqDiff, Nat.reduceAdd, Nat.reduceLeDiff, reduceCtorEq, Nat.reduceMul, Int.reduceToNat])
     all_goals (first | done | rfl | (simp only [AV.c.injEq, C.int.injEq, List.cons.injEq, and_true, true_and]; omega))
   · (try simp only [qq, Nat.reduceBEq, reduceIte, Nat.reduceEqDiff, Nat.reduceAdd, Nat.reduceLeDiff, reduceCtorEq, Nat.reduceMul, Int.reduceToNat])
     all_goals (first | done | rfl | (simp only [AV.c.injEq, C.int.injEq, List.cons.injEq, and_true, true_and]; omega))
   · (try simp only [qq, Nat.reduceBEq, reduceIte, Nat.reduceEqDiff, Nat.reduceAdd, Nat.reduceLeDiff, reduceCtorEq, Nat.reduceMul, Int.reduceToNat])
     all_goals (first | done | rfl | (simp only [AV.c.injEq, C.int.injEq, List.cons.injEq, and_true, true_and]; omega))
  case r8 =>
   rintro kk s hf ⟨k, n, rfl, hq3_0, hq3_1, hq3_2, s8t5, s8t6, s8t10⟩ K8 hK8
   have s8f0 := hf 0 rfl (by (try simp only [qq, Nat.reduceBEq, reduceIte, Nat.reduceEqDiff, Nat.reduceAdd, Nat.reduceLeDiff, reduceCtorEq, Nat.reduceMul, Int.reduceToNat, kn]); all_goals rfl)
   simp only [qq, Nat.reduceBEq, reduceIte, Nat.reduceEqDiff, Nat.reduceAdd, Nat.reduceLeDiff, reduceCtorEq, Nat.reduceMul, Int.reduceToNat] at s8f0
   clear hf
   refine awp_seq_k fun K9 hK9 => ?_
   refine awp_region_lit fun L10 hL10 => ?_
   refine aops_orunN 1 _ _ ?_
   simp only [qq, Nat.reduceBEq, reduceIte, Nat.reduceEqDiff, Nat.reduceAdd, Nat.reduceLeDiff, reduceCtorEq, Nat.reduceMul, Int.reduceToNat, s8t5, s8t6, s8t10, s8f0]
   refine aops_nil (hL10 _ ?_)
   simp only [qq, Nat.reduceBEq, reduceIte, Nat.reduceEqDiff, Nat.reduceAdd, Nat.reduceLeDiff, reduceCtorEq, Nat.reduceMul, Int.reduceToNat, s8t5, s8t6, s8t10, s8f0]
   try simp only [rk_state]
   refine hK9 _ ?_
   refine awp_seq_k fun K11 hK11 => ?_
   refine awp_cond (t := ?t12) ?h12 (fun hb12 => ?a12) (fun hb12 => ?b12)
   case h12 => simp only [qq, Nat.reduceBEq, reduceIte, Nat.reduceEqDiff, Nat.reduceAdd, Nat.reduceLeDiff, reduceCtorEq, Nat.reduceMul, Int.reduceToNat, s8t5, s8t6, s8t10, s8f0]; rfl
   case a12 =>
    have hp12 := hb12
    try simp only [kb] at hp12
    all_goals try exact absurd hb12 (by decide)
    all_goals try (exfalso; omega)
    all_goals
     refine awp_skip ?_
     try simp only [rk_state]
     refine hK11 _ ?_
     refine awp_seq_k fun K13 hK13 => ?_
     refine awp_block ?_
     refine awp_seq_k fun K14 hK14 => ?_
     refine awp_region_lit fun L15 hL15 => ?_
     refine aops_orunN 2 _ _ ?_
     simp only [qq, Nat.reduceBEq, reduceIte, Nat.reduceEqDiff, Nat.reduceAdd, Nat.reduceLeDiff, reduceCtorEq, Nat.reduceMul, Int.reduceToNat, s8t5, s8t6, s8t10, s8f0, hb12]
     refine aops_nil (hL15 _ ?_)
     simp only [qq, Nat.reduceBEq, reduceIte, Nat.reduceEqDiff, Nat.reduceAdd, Nat.reduceLeDiff, reduceCtorEq, Nat.reduceMul, Int.reduceToNat, s8t5, s8t6, s8t10, s8f0, hb12]
     try simp only [rk_state]
     refine hK14 _ ?_
     refine awp_seq_k fun K16 hK16 => ?_
     refine awp_region_lit fun L17 hL17 => ?_
     refine aops_orunN 4 _ _ ?_
     simp only [qq, Nat.reduceBEq, reduceIte, Nat.reduceEqDiff, Nat.reduceAdd, Nat.reduceLeDiff, reduceCtorEq, Nat.reduceMul, Int.reduceToNat, s8t5, s8t6, s8t10, s8f0, hb12]
     refine aops_val (v := ?v18) rfl ?h18 ?_
     case h18 => simp only [qq, Nat.reduceBEq, reduceIte, Nat.reduceEqDiff, Nat.reduceAdd, Nat.reduceLeDiff, reduceCtorEq, Nat.reduceMul, Int.reduceToNat, s8t5, s8t6, s8t10, s8f0, hb12]; first | (rw [wr_id] <;> omega) | rfl
     simp only [qq, Nat.reduceBEq, reduceIte, Nat.reduceEqDiff, Nat.reduceAdd, Nat.reduceLeDiff, reduceCtorEq, Nat.reduceMul, Int.reduceToNat, s8t5, s8t6, s8t10, s8f0, hb12]
     refine aops_orunN 1 _ _ ?_
     simp only [qq, Nat.reduceBEq, reduceIte, Nat.reduceEqDiff, Nat.reduceAdd, Nat.reduceLeDiff, reduceCtorEq, Nat.reduceMul, Int.reduceToNat, s8t5, s8t6, s8t10, s8f0, hb12]
     refine aops_val (v := ?v19) rfl ?h19 ?_
     case h19 => simp only [qq, Nat.reduceBEq, reduceIte, Nat.reduceEqDiff, Nat.reduceAdd, Nat.reduceLeDiff, reduceCtorEq, Nat.reduceMul, Int.reduceToNat, s8t5, s8t6, s8t10, s8f0, hb12]; first | (rw [slc_l un36 if4] <;> omega) | (rw [slc_lo un36 if4] <;> omega)
     simp only [qq, Nat.reduceBEq, reduceIte, Nat.reduceEqDiff, Nat.reduceAdd, Nat.reduceLeDiff, reduceCtorEq, Nat.reduceMul, Int.reduceToNat, s8t5, s8t6, s8t10, s8f0, hb12]
     have sD : l.drop (min (l.length : Int) (4 * (k : Int))).toNat = (l.drop (4 * k)) := by
       by_cases hc : 4 * k ≤ l.length
       · congr 1; omega
       · rw [List.drop_of_length_le (by omega), List.drop_of_length_le (by omega)]
     refine aops_call (read_fun _ _) rfl rfl rfl rfl (by (try simp only [qq, Nat.reduceBEq, reduceIte, Nat.reduceEqDiff, Nat.reduceAdd, Nat.reduceLeDiff, reduceCtorEq, Nat.reduceMul, Int.reduceToNat, s8t5, s8t6, s8t10, s8f0, hb12, sD]); (repeat' (first | exact .nil | exact wk_c | exact wk_ownc | exact wk_nilsc | exact wk_nils | exact wk_fn | refine .cons ?_ ?_ | refine wk_agg ?_ | refine wk_fnL ?_))) rfl rfl ?_
     simp only [qq, Nat.reduceBEq, reduceIte, Nat.reduceEqDiff, Nat.reduceAdd, Nat.reduceLeDiff, reduceCtorEq, Nat.reduceMul, Int.reduceToNat, s8t5, s8t6, s8t10, s8f0, hb12, sD]
     refine aops_orunN 5 _ _ ?_
     simp only [qq, Nat.reduceBEq, reduceIte, Nat.reduceEqDiff, Nat.reduceAdd, Nat.reduceLeDiff, reduceCtorEq, Nat.reduceMul, Int.reduceToNat, s8t5, s8t6, s8t10, s8f0, hb12, sD]
     refine aops_nil (hL17 _ ?_)
     simp only [qq, Nat.reduceBEq, reduceIte, Nat.reduceEqDiff, Nat.reduceAdd, Nat.reduceLeDiff, reduceCtorEq, Nat.reduceMul, Int.reduceToNat, s8t5, s8t6, s8t10, s8f0, hb12, sD]
     try simp only [rk_state]
     refine hK16 _ ?_
     as_aux_lemma =>
      refine awp_seq_k fun K21 hK21 => ?_
      refine awp_seq_k fun K22 hK22 => ?_
      have hrd := rd4 (l.drop (4 * k))
      have hp8 := pow8 (k := k) (by omega)
      refine awp_region_lit fun L23 hL23 => ?_
      refine aops_orunN 2 _ _ ?_
      simp only [qq, Nat.reduceBEq, reduceIte, Nat.reduceEqDiff, Nat.reduceAdd, Nat.reduceLeDiff, reduceCtorEq, Nat.reduceMul, Int.reduceToNat, s8t5, s8t6, s8t10, s8f0, hb12, sD]
      refine aops_nil (hL23 _ ?_)
      simp only [qq, Nat.reduceBEq, reduceIte, Nat.reduceEqDiff, Nat.reduceAdd, Nat.reduceLeDiff, reduceCtorEq, Nat.reduceMul, Int.reduceToNat, s8t5, s8t6, s8t10, s8f0, hb12, sD]
      try simp only [rk_state]
      refine hK22 _ ?_
      refine awp_cond (t := ?t24) ?h24 (fun hb24 => ?a24) (fun hb24 => ?b24)
      case h24 => simp only [qq, Nat.reduceBEq, reduceIte, Nat.reduceEqDiff, Nat.reduceAdd, Nat.reduceLeDiff, reduceCtorEq, Nat.reduceMul, Int.reduceToNat, s8t5, s8t6, s8t10, s8f0, hb12, sD]; rfl
      case a24 =>
       have hp24 := hb24
       try simp only [kb] at hp24
       all_goals try exact absurd hb24 (by decide)
       all_goals try (exfalso; omega)
       all_goals
        refine awp_seq_k fun K25 hK25 => ?_
        refine awp_region_lit fun L26 hL26 => ?_
        refine aops_orunN 4 _ _ ?_
        simp only [qq, Nat.reduceBEq, reduceIte, Nat.reduceEqDiff, Nat.reduceAdd, Nat.reduceLeDiff, reduceCtorEq, Nat.reduceMul, Int.reduceToNat, s8t5, s8t6, s8t10, s8f0, hb12, sD, hb24]
        refine aops_nil (hL26 _ ?_)
        simp only [qq, Nat.reduceBEq, reduceIte, Nat.reduceEqDiff, Nat.reduceAdd, Nat.reduceLeDiff, reduceCtorEq, Nat.reduceMul, Int.reduceToNat, s8t5, s8t6, s8t10, s8f0, hb12, sD, hb24]
        try simp only [rk_state]
        refine hK25 _ ?_
        refine awp_ret ?_
        try simp only [rk_state]
        refine ⟨_, 0, by simp only [qq, Nat.reduceBEq, reduceIte, Nat.reduceEqDiff, Nat.reduceAdd, Nat.reduceLeDiff, reduceCtorEq, Nat.reduceMul, Int.reduceToNat, resA, Try.results98, s8t5, s8t6, s8t10, s8f0, hb12, sD, hb24]; rfl, ?_, fun l hl => absurd rfl hl, fun l hl => absurd rfl hl⟩
        simp only [packA]
        rw [← hq3_2]; first | (rw [zr_torn (by omega) (by omega)]; (repeat' (first | exact .nil | exact wkR_c | exact wkR_own | exact wkR_nils | refine wkR_int ?_ | refine wkR_bool ?_ | refine wkR_sl ?_ | refine wkR_osl ?_ | refine wkR_nsl ?_ | refine wkR_oo ?_ | refine wkR_no ?_ | refine .cons ?_ ?_ | refine wkR_agg ?_ | refine wkR_tup ?_)) <;> first | rfl | omega | (dsimp only; omega)) | (rw [zr_form (by omega) (by omega) (by omega) (by omega)]; (repeat' (first | exact .nil | exact wkR_c | exact wkR_own | exact wkR_nils | refine wkR_int ?_ | refine wkR_bool ?_ | refine wkR_sl ?_ | refine wkR_osl ?_ | refine wkR_nsl ?_ | refine wkR_oo ?_ | refine wkR_no ?_ | refine .cons ?_ ?_ | refine wkR_agg ?_ | refine wkR_tup ?_)) <;> first | rfl | omega | (dsimp only; omega)) | (rw [zr_range (by omega) (by omega) (by omega) (by omega)]; (repeat' (first | exact .nil | exact wkR_c | exact wkR_own | exact wkR_nils | refine wkR_int ?_ | refine wkR_bool ?_ | refine wkR_sl ?_ | refine wkR_osl ?_ | refine wkR_nsl ?_ | refine wkR_oo ?_ | refine wkR_no ?_ | refine .cons ?_ ?_ | refine wkR_agg ?_ | refine wkR_tup ?_)) <;> first | rfl | omega | (dsimp only; omega)) | (rw [zr_done (by omega) (by omega) (by omega) (by omega) (by omega)]; (repeat' (first | exact .nil | exact wkR_c | exact wkR_own | exact wkR_nils | refine wkR_int ?_ | refine wkR_bool ?_ | refine wkR_sl ?_ | refine wkR_osl ?_ | refine wkR_nsl ?_ | refine wkR_oo ?_ | refine wkR_no ?_ | refine .cons ?_ ?_ | refine wkR_agg ?_ | refine wkR_tup ?_)) <;> first | rfl | omega | (dsimp only; omega)) | (rw [show 8 - k = 0 from by omega, zr_zero]; (repeat' (first | exact .nil | exact wkR_c | exact wkR_own | exact wkR_nils | refine wkR_int ?_ | refine wkR_bool ?_ | refine wkR_sl ?_ | refine wkR_osl ?_ | refine wkR_nsl ?_ | refine wkR_oo ?_ | refine wkR_no ?_ | refine .cons ?_ ?_ | refine wkR_agg ?_ | refine wkR_tup ?_)) <;> first | rfl | omega | (dsimp only; omega))
      case b24 =>
       have hp24 := hb24
       try simp only [kb] at hp24
       all_goals try exact absurd hb24 (by decide)
       all_goals try (exfalso; omega)
       all_goals
        refine awp_skip ?_
        try simp only [rk_state]
        refine hK21 _ ?_
        refine awp_seq_k fun K27 hK27 => ?_
        refine awp_seq_k fun K28 hK28 => ?_
        refine awp_region_lit fun L29 hL29 => ?_
        refine aops_orunN 3 _ _ ?_
        simp only [qq, Nat.reduceBEq, reduceIte, Nat.reduceEqDiff, Nat.reduceAdd, Nat.reduceLeDiff, reduceCtorEq, Nat.reduceMul, Int.reduceToNat, s8t5, s8t6, s8t10, s8f0, hb12, sD, hb24]
        refine aops_part (b := ?p30) 29 ?h30 (fun hb30 => ?a30) (fun hb30 => ?b30)
        case h30 => simp only [qq, Nat.reduceBEq, reduceIte, Nat.reduceEqDiff, Nat.reduceAdd, Nat.reduceLeDiff, reduceCtorEq, Nat.reduceMul, Int.reduceToNat, s8t5, s8t6, s8t10, s8f0, hb12, sD, hb24]; rfl
        case a30 =>
         have hp30 := hb30
         try simp only [kb] at hp30
         all_goals try exact absurd hb30 (by decide)
         all_goals try (exfalso; omega)
         all_goals
          try simp only [hb30]
          refine aops_orunN 3 _ _ ?_
          simp only [qq, Nat.reduceBEq, reduceIte, Nat.reduceEqDiff, Nat.reduceAdd, Nat.reduceLeDiff, reduceCtorEq, Nat.reduceMul, Int.reduceToNat, s8t5, s8t6, s8t10, s8f0, hb12, sD, hb24, hb30]
          refine aops_nil (hL29 _ ?_)
          simp only [qq, Nat.reduceBEq, reduceIte, Nat.reduceEqDiff, Nat.reduceAdd, Nat.reduceLeDiff, reduceCtorEq, Nat.reduceMul, Int.reduceToNat, s8t5, s8t6, s8t10, s8f0, hb12, sD, hb24, hb30]
          try simp only [rk_state]
          refine hK28 _ ?_
          as_aux_lemma =>
           refine awp_cond (t := ?t31) ?h31 (fun hb31 => ?a31) (fun hb31 => ?b31)
           case h31 => simp only [qq, Nat.reduceBEq, reduceIte, Nat.reduceEqDiff, Nat.reduceAdd, Nat.reduceLeDiff, reduceCtorEq, Nat.reduceMul, Int.reduceToNat, s8t5, s8t6, s8t10, s8f0, hb12, sD, hb24, hb30]; rfl
           case a31 =>
            have hp31 := hb31
            try simp only [kb] at hp31
            all_goals try exact absurd hb31 (by decide)
            all_goals try (exfalso; omega)
            all_goals
             refine awp_seq_k fun K32 hK32 => ?_
             refine awp_region_lit fun L33 hL33 => ?_
             refine aops_orunN 3 _ _ ?_
             simp only [qq, Nat.reduceBEq, reduceIte, Nat.reduceEqDiff, Nat.reduceAdd, Nat.reduceLeDiff, reduceCtorEq, Nat.reduceMul, Int.reduceToNat, s8t5, s8t6, s8t10, s8f0, hb12, sD, hb24, hb30, hb31]
             refine aops_nil (hL33 _ ?_)
             simp only [qq, Nat.reduceBEq, reduceIte, Nat.reduceEqDiff, Nat.reduceAdd, Nat.reduceLeDiff, reduceCtorEq, Nat.reduceMul, Int.reduceToNat, s8t5, s8t6, s8t10, s8f0, hb12, sD, hb24, hb30, hb31]
             try simp only [rk_state]
             refine hK32 _ ?_
             refine awp_ret ?_
             try simp only [rk_state]
             refine ⟨_, 0, by simp only [qq, Nat.reduceBEq, reduceIte, Nat.reduceEqDiff, Nat.reduceAdd, Nat.reduceLeDiff, reduceCtorEq, Nat.reduceMul, Int.reduceToNat, resA, Try.results98, s8t5, s8t6, s8t10, s8f0, hb12, sD, hb24, hb30, hb31]; rfl, ?_, fun l hl => absurd rfl hl, fun l hl => absurd rfl hl⟩
             simp only [packA]
             rw [← hq3_2]; first | (rw [zr_torn (by omega) (by omega)]; (repeat' (first | exact .nil | exact wkR_c | exact wkR_own | exact wkR_nils | refine wkR_int ?_ | refine wkR_bool ?_ | refine wkR_sl ?_ | refine wkR_osl ?_ | refine wkR_nsl ?_ | refine wkR_oo ?_ | refine wkR_no ?_ | refine .cons ?_ ?_ | refine wkR_agg ?_ | refine wkR_tup ?_)) <;> first | rfl | omega | (dsimp only; omega)) | (rw [zr_form (by omega) (by omega) (by omega) (by omega)]; (repeat' (first | exact .nil | exact wkR_c | exact wkR_own | exact wkR_nils | refine wkR_int ?_ | refine wkR_bool ?_ | refine wkR_sl ?_ | refine wkR_osl ?_ | refine wkR_nsl ?_ | refine wkR_oo ?_ | refine wkR_no ?_ | refine .cons ?_ ?_ | refine wkR_agg ?_ | refine wkR_tup ?_)) <;> first | rfl | omega | (dsimp only; omega)) | (rw [zr_range (by omega) (by omega) (by omega) (by omega)]; (repeat' (first | exact .nil | exact wkR_c | exact wkR_own | exact wkR_nils | refine wkR_int ?_ | refine wkR_bool ?_ | refine wkR_sl ?_ | refine wkR_osl ?_ | refine wkR_nsl ?_ | refine wkR_oo ?_ | refine wkR_no ?_ | refine .cons ?_ ?_ | refine wkR_agg ?_ | refine wkR_tup ?_)) <;> first | rfl | omega | (dsimp only; omega)) | (rw [zr_done (by omega) (by omega) (by omega) (by omega) (by omega)]; (repeat' (first | exact .nil | exact wkR_c | exact wkR_own | exact wkR_nils | refine wkR_int ?_ | refine wkR_bool ?_ | refine wkR_sl ?_ | refine wkR_osl ?_ | refine wkR_nsl ?_ | refine wkR_oo ?_ | refine wkR_no ?_ | refine .cons ?_ ?_ | refine wkR_agg ?_ | refine wkR_tup ?_)) <;> first | rfl | omega | (dsimp only; omega)) | (rw [show 8 - k = 0 from by omega, zr_zero]; (repeat' (first | exact .nil | exact wkR_c | exact wkR_own | exact wkR_nils | refine wkR_int ?_ | refine wkR_bool ?_ | refine wkR_sl ?_ | refine wkR_osl ?_ | refine wkR_nsl ?_ | refine wkR_oo ?_ | refine wkR_no ?_ | refine .cons ?_ ?_ | refine wkR_agg ?_ | refine wkR_tup ?_)) <;> first | rfl | omega | (dsimp only; omega))
           case b31 =>
            have hp31 := hb31
            try simp only [kb] at hp31
            all_goals try exact absurd hb31 (by decide)
            all_goals try (exfalso; omega)
            all_goals
             refine awp_skip ?_
             try simp only [rk_state]
             refine hK27 _ ?_
             refine awp_seq_k fun K34 hK34 => ?_
             refine awp_seq_k fun K35 hK35 => ?_
             have sm : (readR (l.drop (4 * k)) 4).1.tmod 8 = (readR (l.drop (4 * k)) 4).1 % 8 := Int.tmod_eq_emod_of_nonneg (by omega)
             have hmb := mul_bd (a := (readR (l.drop (4 * k)) 4).1 % 8) (b := 8 ^ k) (c := 16777216) (by omega) (by omega) (by omega) (by omega)
             refine awp_region_lit fun L36 hL36 => ?_
             refine aops_orunN 2 _ _ ?_
             simp only [qq, Nat.reduceBEq, reduceIte, Nat.reduceEqDiff, Nat.reduceAdd, Nat.reduceLeDiff, reduceCtorEq, Nat.reduceMul, Int.reduceToNat, s8t5, s8t6, s8t10, s8f0, hb12, sD, hb24, hb30, hb31, sm]
             refine aops_val (v := ?v37) rfl ?h37 ?_
             case h37 => simp only [qq, Nat.reduceBEq, reduceIte, Nat.reduceEqDiff, Nat.reduceAdd, Nat.reduceLeDiff, reduceCtorEq, Nat.reduceMul, Int.reduceToNat, s8t5, s8t6, s8t10, s8f0, hb12, sD, hb24, hb30, hb31, sm]; (rw [y_rem] <;> omega)
             simp only [qq, Nat.reduceBEq, reduceIte, Nat.reduceEqDiff, Nat.reduceAdd, Nat.reduceLeDiff, reduceCtorEq, Nat.reduceMul, Int.reduceToNat, s8t5, s8t6, s8t10, s8f0, hb12, sD, hb24, hb30, hb31, sm]
             refine aops_orunN 1 _ _ ?_
             simp only [qq, Nat.reduceBEq, reduceIte, Nat.reduceEqDiff, Nat.reduceAdd, Nat.reduceLeDiff, reduceCtorEq, Nat.reduceMul, Int.reduceToNat, s8t5, s8t6, s8t10, s8f0, hb12, sD, hb24, hb30, hb31, sm]
             refine aops_val (v := ?v38) rfl ?h38 ?_
             case h38 => simp only [qq, Nat.reduceBEq, reduceIte, Nat.reduceEqDiff, Nat.reduceAdd, Nat.reduceLeDiff, reduceCtorEq, Nat.reduceMul, Int.reduceToNat, s8t5, s8t6, s8t10, s8f0, hb12, sD, hb24, hb30, hb31, sm]; first | (rw [wr_id] <;> omega) | rfl
             simp only [qq, Nat.reduceBEq, reduceIte, Nat.reduceEqDiff, Nat.reduceAdd, Nat.reduceLeDiff, reduceCtorEq, Nat.reduceMul, Int.reduceToNat, s8t5, s8t6, s8t10, s8f0, hb12, sD, hb24, hb30, hb31, sm]
             refine aops_val (v := ?v39) rfl ?h39 ?_
             case h39 => simp only [qq, Nat.reduceBEq, reduceIte, Nat.reduceEqDiff, Nat.reduceAdd, Nat.reduceLeDiff, reduceCtorEq, Nat.reduceMul, Int.reduceToNat, s8t5, s8t6, s8t10, s8f0, hb12, sD, hb24, hb30, hb31, sm]; first | (rw [wr_id] <;> omega) | rfl
             simp only [qq, Nat.reduceBEq, reduceIte, Nat.reduceEqDiff, Nat.reduceAdd, Nat.reduceLeDiff, reduceCtorEq, Nat.reduceMul, Int.reduceToNat, s8t5, s8t6, s8t10, s8f0, hb12, sD, hb24, hb30, hb31, sm]
             refine aops_orunN 1 _ _ ?_
             simp only [qq, Nat.reduceBEq, reduceIte, Nat.reduceEqDiff, Nat.reduceAdd, Nat.reduceLeDiff, reduceCtorEq, Nat.reduceMul, Int.reduceToNat, s8t5, s8t6, s8t10, s8f0, hb12, sD, hb24, hb30, hb31, sm]
             refine aops_val (v := ?v40) rfl ?h40 ?_
             case h40 => simp only [qq, Nat.reduceBEq, reduceIte, Nat.reduceEqDiff, Nat.reduceAdd, Nat.reduceLeDiff, reduceCtorEq, Nat.reduceMul, Int.reduceToNat, s8t5, s8t6, s8t10, s8f0, hb12, sD, hb24, hb30, hb31, sm]; first | (rw [wr_id] <;> omega) | rfl
             simp only [qq, Nat.reduceBEq, reduceIte, Nat.reduceEqDiff, Nat.reduceAdd, Nat.reduceLeDiff, reduceCtorEq, Nat.reduceMul, Int.reduceToNat, s8t5, s8t6, s8t10, s8f0, hb12, sD, hb24, hb30, hb31, sm]
             refine aops_orunN 2 _ _ ?_
             simp only [qq, Nat.reduceBEq, reduceIte, Nat.reduceEqDiff, Nat.reduceAdd, Nat.reduceLeDiff, reduceCtorEq, Nat.reduceMul, Int.reduceToNat, s8t5, s8t6, s8t10, s8f0, hb12, sD, hb24, hb30, hb31, sm]
             refine aops_nil (hL36 _ ?_)
             simp only [qq, Nat.reduceBEq, reduceIte, Nat.reduceEqDiff, Nat.reduceAdd, Nat.reduceLeDiff, reduceCtorEq, Nat.reduceMul, Int.reduceToNat, s8t5, s8t6, s8t10, s8f0, hb12, sD, hb24, hb30, hb31, sm]
             try simp only [rk_state]
             refine hK35 _ ?_
             refine awp_seq_k fun K41 hK41 => ?_
             refine awp_region_lit fun L42 hL42 => ?_
             refine aops_orunN 2 _ _ ?_
             simp only [qq, Nat.reduceBEq, reduceIte, Nat.reduceEqDiff, Nat.reduceAdd, Nat.reduceLeDiff, reduceCtorEq, Nat.reduceMul, Int.reduceToNat, s8t5, s8t6, s8t10, s8f0, hb12, sD, hb24, hb30, hb31, sm]
             refine aops_nil (hL42 _ ?_)
             simp only [qq, Nat.reduceBEq, reduceIte, Nat.reduceEqDiff, Nat.reduceAdd, Nat.reduceLeDiff, reduceCtorEq, Nat.reduceMul, Int.reduceToNat, s8t5, s8t6, s8t10, s8f0, hb12, sD, hb24, hb30, hb31, sm]
             try simp only [rk_state]
             refine hK41 _ ?_
             as_aux_lemma =>
              refine awp_cond (t := ?t43) ?h43 (fun hb43 => ?a43) (fun hb43 => ?b43)
              case h43 => simp only [qq, Nat.reduceBEq, reduceIte, Nat.reduceEqDiff, Nat.reduceAdd, Nat.reduceLeDiff, reduceCtorEq, Nat.reduceMul, Int.reduceToNat, s8t5, s8t6, s8t10, s8f0, hb12, sD, hb24, hb30, hb31, sm]; rfl
              case a43 =>
               have hp43 := hb43
               try simp only [kb] at hp43
               all_goals try exact absurd hb43 (by decide)
               all_goals try (exfalso; omega)
               all_goals
                refine awp_seq_k fun K44 hK44 => ?_
                refine awp_region_lit fun L45 hL45 => ?_
                refine aops_orunN 3 _ _ ?_
                simp only [qq, Nat.reduceBEq, reduceIte, Nat.reduceEqDiff, Nat.reduceAdd, Nat.reduceLeDiff, reduceCtorEq, Nat.reduceMul, Int.reduceToNat, s8t5, s8t6, s8t10, s8f0, hb12, sD, hb24, hb30, hb31, sm, hb43]
                refine aops_nil (hL45 _ ?_)
                simp only [qq, Nat.reduceBEq, reduceIte, Nat.reduceEqDiff, Nat.reduceAdd, Nat.reduceLeDiff, reduceCtorEq, Nat.reduceMul, Int.reduceToNat, s8t5, s8t6, s8t10, s8f0, hb12, sD, hb24, hb30, hb31, sm, hb43]
                try simp only [rk_state]
                refine hK44 _ ?_
                refine awp_ret ?_
                try simp only [rk_state]
                refine ⟨_, 0, by simp only [qq, Nat.reduceBEq, reduceIte, Nat.reduceEqDiff, Nat.reduceAdd, Nat.reduceLeDiff, reduceCtorEq, Nat.reduceMul, Int.reduceToNat, resA, Try.results98, s8t5, s8t6, s8t10, s8f0, hb12, sD, hb24, hb30, hb31, sm, hb43]; rfl, ?_, fun l hl => absurd rfl hl, fun l hl => absurd rfl hl⟩
                simp only [packA]
                rw [← hq3_2]; first | (rw [zr_torn (by omega) (by omega)]; (repeat' (first | exact .nil | exact wkR_c | exact wkR_own | exact wkR_nils | refine wkR_int ?_ | refine wkR_bool ?_ | refine wkR_sl ?_ | refine wkR_osl ?_ | refine wkR_nsl ?_ | refine wkR_oo ?_ | refine wkR_no ?_ | refine .cons ?_ ?_ | refine wkR_agg ?_ | refine wkR_tup ?_)) <;> first | rfl | omega | (dsimp only; omega)) | (rw [zr_form (by omega) (by omega) (by omega) (by omega)]; (repeat' (first | exact .nil | exact wkR_c | exact wkR_own | exact wkR_nils | refine wkR_int ?_ | refine wkR_bool ?_ | refine wkR_sl ?_ | refine wkR_osl ?_ | refine wkR_nsl ?_ | refine wkR_oo ?_ | refine wkR_no ?_ | refine .cons ?_ ?_ | refine wkR_agg ?_ | refine wkR_tup ?_)) <;> first | rfl | omega | (dsimp only; omega)) | (rw [zr_range (by omega) (by omega) (by omega) (by omega)]; (repeat' (first | exact .nil | exact wkR_c | exact wkR_own | exact wkR_nils | refine wkR_int ?_ | refine wkR_bool ?_ | refine wkR_sl ?_ | refine wkR_osl ?_ | refine wkR_nsl ?_ | refine wkR_oo ?_ | refine wkR_no ?_ | refine .cons ?_ ?_ | refine wkR_agg ?_ | refine wkR_tup ?_)) <;> first | rfl | omega | (dsimp only; omega)) | (rw [zr_done (by omega) (by omega) (by omega) (by omega) (by omega)]; (repeat' (first | exact .nil | exact wkR_c | exact wkR_own | exact wkR_nils | refine wkR_int ?_ | refine wkR_bool ?_ | refine wkR_sl ?_ | refine wkR_osl ?_ | refine wkR_nsl ?_ | refine wkR_oo ?_ | refine wkR_no ?_ | refine .cons ?_ ?_ | refine wkR_agg ?_ | refine wkR_tup ?_)) <;> first | rfl | omega | (dsimp only; omega)) | (rw [show 8 - k = 0 from by omega, zr_zero]; (repeat' (first | exact .nil | exact wkR_c | exact wkR_own | exact wkR_nils | refine wkR_int ?_ | refine wkR_bool ?_ | refine wkR_sl ?_ | refine wkR_osl ?_ | refine wkR_nsl ?_ | refine wkR_oo ?_ | refine wkR_no ?_ | refine .cons ?_ ?_ | refine wkR_agg ?_ | refine wkR_tup ?_)) <;> first | rfl | omega | (dsimp only; omega))
              case b43 =>
               have hp43 := hb43
               try simp only [kb] at hp43
               all_goals try exact absurd hb43 (by decide)
               all_goals try (exfalso; omega)
               all_goals
                refine awp_skip ?_
                try simp only [rk_state]
                refine hK34 _ ?_
                refine awp_seq_k fun K46 hK46 => ?_
                refine awp_region_lit fun L47 hL47 => ?_
                refine aops_orunN 2 _ _ ?_
                simp only [qq, Nat.reduceBEq, reduceIte, Nat.reduceEqDiff, Nat.reduceAdd, Nat.reduceLeDiff, reduceCtorEq, Nat.reduceMul, Int.reduceToNat, s8t5, s8t6, s8t10, s8f0, hb12, sD, hb24, hb30, hb31, sm, hb43]
                refine aops_nil (hL47 _ ?_)
                simp only [qq, Nat.reduceBEq, reduceIte, Nat.reduceEqDiff, Nat.reduceAdd, Nat.reduceLeDiff, reduceCtorEq, Nat.reduceMul, Int.reduceToNat, s8t5, s8t6, s8t10, s8f0, hb12, sD, hb24, hb30, hb31, sm, hb43]
                try simp only [rk_state]
                refine hK46 _ ?_
                refine awp_cond (t := ?t48) ?h48 (fun hb48 => ?a48) (fun hb48 => ?b48)
                case h48 => simp only [qq, Nat.reduceBEq, reduceIte, Nat.reduceEqDiff, Nat.reduceAdd, Nat.reduceLeDiff, reduceCtorEq, Nat.reduceMul, Int.reduceToNat, s8t5, s8t6, s8t10, s8f0, hb12, sD, hb24, hb30, hb31, sm, hb43]; rfl
                case a48 =>
                 have hp48 := hb48
                 try simp only [kb] at hp48
                 all_goals try exact absurd hb48 (by decide)
                 all_goals try (exfalso; omega)
                 all_goals
                  refine awp_seq_k fun K49 hK49 => ?_
                  refine awp_seq_k fun K50 hK50 => ?_
                  have hu := unf_or (n := n + (readR (l.drop (4 * k)) 4).1 % 8 * 8 ^ k) (by omega)
                  have sm2 : (n + (readR (l.drop (4 * k)) 4).1 % 8 * 8 ^ k).tmod 2 = (n + (readR (l.drop (4 * k)) 4).1 % 8 * 8 ^ k) % 2 := Int.tmod_eq_emod_of_nonneg (by omega)
                  refine awp_region_lit fun L51 hL51 => ?_
                  refine aops_orunN 1 _ _ ?_
                  simp only [qq, Nat.reduceBEq, reduceIte, Nat.reduceEqDiff, Nat.reduceAdd, Nat.reduceLeDiff, reduceCtorEq, Nat.reduceMul, Int.reduceToNat, s8t5, s8t6, s8t10, s8f0, hb12, sD, hb24, hb30, hb31, sm, hb43, hb48, sm2]
                  refine aops_val (v := ?v52) rfl ?h52 ?_
                  case h52 => simp only [qq, Nat.reduceBEq, reduceIte, Nat.reduceEqDiff, Nat.reduceAdd, Nat.reduceLeDiff, reduceCtorEq, Nat.reduceMul, Int.reduceToNat, s8t5, s8t6, s8t10, s8f0, hb12, sD, hb24, hb30, hb31, sm, hb43, hb48, sm2]; (rw [y_rem] <;> omega)
                  simp only [qq, Nat.reduceBEq, reduceIte, Nat.reduceEqDiff, Nat.reduceAdd, Nat.reduceLeDiff, reduceCtorEq, Nat.reduceMul, Int.reduceToNat, s8t5, s8t6, s8t10, s8f0, hb12, sD, hb24, hb30, hb31, sm, hb43, hb48, sm2]
                  refine aops_orunN 1 _ _ ?_
                  simp only [qq, Nat.reduceBEq, reduceIte, Nat.reduceEqDiff, Nat.reduceAdd, Nat.reduceLeDiff, reduceCtorEq, Nat.reduceMul, Int.reduceToNat, s8t5, s8t6, s8t10, s8f0, hb12, sD, hb24, hb30, hb31, sm, hb43, hb48, sm2]
                  refine aops_nil (hL51 _ ?_)
                  simp only [qq, Nat.reduceBEq, reduceIte, Nat.reduceEqDiff, Nat.reduceAdd, Nat.reduceLeDiff, reduceCtorEq, Nat.reduceMul, Int.reduceToNat, s8t5, s8t6, s8t10, s8f0, hb12, sD, hb24, hb30, hb31, sm, hb43, hb48, sm2]
                  try simp only [rk_state]
                  refine hK50 _ ?_
                  as_aux_lemma =>
                   refine awp_cond (t := ?t53) ?h53 (fun hb53 => ?a53) (fun hb53 => ?b53)
                   case h53 => simp only [qq, Nat.reduceBEq, reduceIte, Nat.reduceEqDiff, Nat.reduceAdd, Nat.reduceLeDiff, reduceCtorEq, Nat.reduceMul, Int.reduceToNat, s8t5, s8t6, s8t10, s8f0, hb12, sD, hb24, hb30, hb31, sm, hb43, hb48, sm2]; rfl
                   case a53 =>
                    have hp53 := hb53
                    try simp only [kb] at hp53
                    all_goals try exact absurd hb53 (by decide)
                    all_goals try (exfalso; omega)
                    all_goals
                     refine awp_seq_k fun K54 hK54 => ?_
                     have sU : (0 - (n + (readR (l.drop (4 * k)) 4).1 % 8 * 8 ^ k + 1)).tdiv 2 = unf (n + (readR (l.drop (4 * k)) 4).1 % 8 * 8 ^ k) := by omega
                     refine awp_region_lit fun L55 hL55 => ?_
                     refine aops_orunN 1 _ _ ?_
                     simp only [qq, Nat.reduceBEq, reduceIte, Nat.reduceEqDiff, Nat.reduceAdd, Nat.reduceLeDiff, reduceCtorEq, Nat.reduceMul, Int.reduceToNat, s8t5, s8t6, s8t10, s8f0, hb12, sD, hb24, hb30, hb31, sm, hb43, hb48, sm2, hb53, sU]
                     refine aops_val (v := ?v56) rfl ?h56 ?_
                     case h56 => simp only [qq, Nat.reduceBEq, reduceIte, Nat.reduceEqDiff, Nat.reduceAdd, Nat.reduceLeDiff, reduceCtorEq, Nat.reduceMul, Int.reduceToNat, s8t5, s8t6, s8t10, s8f0, hb12, sD, hb24, hb30, hb31, sm, hb43, hb48, sm2, hb53, sU]; first | (rw [wr_id] <;> omega) | rfl
                     simp only [qq, Nat.reduceBEq, reduceIte, Nat.reduceEqDiff, Nat.reduceAdd, Nat.reduceLeDiff, reduceCtorEq, Nat.reduceMul, Int.reduceToNat, s8t5, s8t6, s8t10, s8f0, hb12, sD, hb24, hb30, hb31, sm, hb43, hb48, sm2, hb53, sU]
                     refine aops_val (v := ?v57) rfl ?h57 ?_
                     case h57 => simp only [qq, Nat.reduceBEq, reduceIte, Nat.reduceEqDiff, Nat.reduceAdd, Nat.reduceLeDiff, reduceCtorEq, Nat.reduceMul, Int.reduceToNat, s8t5, s8t6, s8t10, s8f0, hb12, sD, hb24, hb30, hb31, sm, hb43, hb48, sm2, hb53, sU]; first | (rw [wr_id] <;> omega) | rfl
                     simp only [qq, Nat.reduceBEq, reduceIte, Nat.reduceEqDiff, Nat.reduceAdd, Nat.reduceLeDiff, reduceCtorEq, Nat.reduceMul, Int.reduceToNat, s8t5, s8t6, s8t10, s8f0, hb12, sD, hb24, hb30, hb31, sm, hb43, hb48, sm2, hb53, sU]
                     refine aops_val (v := ?v58) rfl ?h58 ?_
                     case h58 => simp only [qq, Nat.reduceBEq, reduceIte, Nat.reduceEqDiff, Nat.reduceAdd, Nat.reduceLeDiff, reduceCtorEq, Nat.reduceMul, Int.reduceToNat, s8t5, s8t6, s8t10, s8f0, hb12, sD, hb24, hb30, hb31, sm, hb43, hb48, sm2, hb53, sU]; (rw [y_quo (by omega), sU, wr_id] <;> omega)
                     simp only [qq, Nat.reduceBEq, reduceIte, Nat.reduceEqDiff, Nat.reduceAdd, Nat.reduceLeDiff, reduceCtorEq, Nat.reduceMul, Int.reduceToNat, s8t5, s8t6, s8t10, s8f0, hb12, sD, hb24, hb30, hb31, sm, hb43, hb48, sm2, hb53, sU]
                     refine aops_orunN 1 _ _ ?_
                     simp only [qq, Nat.reduceBEq, reduceIte, Nat.reduceEqDiff, Nat.reduceAdd, Nat.reduceLeDiff, reduceCtorEq, Nat.reduceMul, Int.reduceToNat, s8t5, s8t6, s8t10, s8f0, hb12, sD, hb24, hb30, hb31, sm, hb43, hb48, sm2, hb53, sU]
                     refine aops_val (v := ?v59) rfl ?h59 ?_
                     case h59 => simp only [qq, Nat.reduceBEq, reduceIte, Nat.reduceEqDiff, Nat.reduceAdd, Nat.reduceLeDiff, reduceCtorEq, Nat.reduceMul, Int.reduceToNat, s8t5, s8t6, s8t10, s8f0, hb12, sD, hb24, hb30, hb31, sm, hb43, hb48, sm2, hb53, sU]; first | (rw [wr_id] <;> omega) | rfl
                     simp only [qq, Nat.reduceBEq, reduceIte, Nat.reduceEqDiff, Nat.reduceAdd, Nat.reduceLeDiff, reduceCtorEq, Nat.reduceMul, Int.reduceToNat, s8t5, s8t6, s8t10, s8f0, hb12, sD, hb24, hb30, hb31, sm, hb43, hb48, sm2, hb53, sU]
                     refine aops_val (v := ?v60) rfl ?h60 ?_
                     case h60 => simp only [qq, Nat.reduceBEq, reduceIte, Nat.reduceEqDiff, Nat.reduceAdd, Nat.reduceLeDiff, reduceCtorEq, Nat.reduceMul, Int.reduceToNat, s8t5, s8t6, s8t10, s8f0, hb12, sD, hb24, hb30, hb31, sm, hb43, hb48, sm2, hb53, sU]; first | (rw [wr_id] <;> omega) | rfl
                     simp only [qq, Nat.reduceBEq, reduceIte, Nat.reduceEqDiff, Nat.reduceAdd, Nat.reduceLeDiff, reduceCtorEq, Nat.reduceMul, Int.reduceToNat, s8t5, s8t6, s8t10, s8f0, hb12, sD, hb24, hb30, hb31, sm, hb43, hb48, sm2, hb53, sU]
                     refine aops_orunN 3 _ _ ?_
                     simp only [qq, Nat.reduceBEq, reduceIte, Nat.reduceEqDiff, Nat.reduceAdd, Nat.reduceLeDiff, reduceCtorEq, Nat.reduceMul, Int.reduceToNat, s8t5, s8t6, s8t10, s8f0, hb12, sD, hb24, hb30, hb31, sm, hb43, hb48, sm2, hb53, sU]
                     refine aops_nil (hL55 _ ?_)
                     simp only [qq, Nat.reduceBEq, reduceIte, Nat.reduceEqDiff, Nat.reduceAdd, Nat.reduceLeDiff, reduceCtorEq, Nat.reduceMul, Int.reduceToNat, s8t5, s8t6, s8t10, s8f0, hb12, sD, hb24, hb30, hb31, sm, hb43, hb48, sm2, hb53, sU]
                     try simp only [rk_state]
                     refine hK54 _ ?_
                     refine awp_ret ?_
                     try simp only [rk_state]
                     refine ⟨_, 0, by simp only [qq, Nat.reduceBEq, reduceIte, Nat.reduceEqDiff, Nat.reduceAdd, Nat.reduceLeDiff, reduceCtorEq, Nat.reduceMul, Int.reduceToNat, resA, Try.results98, s8t5, s8t6, s8t10, s8f0, hb12, sD, hb24, hb30, hb31, sm, hb43, hb48, sm2, hb53, sU]; rfl, ?_, fun l hl => absurd rfl hl, fun l hl => absurd rfl hl⟩
                     simp only [packA]
                     rw [← hq3_2]; first | (rw [zr_torn (by omega) (by omega)]; (repeat' (first | exact .nil | exact wkR_c | exact wkR_own | exact wkR_nils | refine wkR_int ?_ | refine wkR_bool ?_ | refine wkR_sl ?_ | refine wkR_osl ?_ | refine wkR_nsl ?_ | refine wkR_oo ?_ | refine wkR_no ?_ | refine .cons ?_ ?_ | refine wkR_agg ?_ | refine wkR_tup ?_)) <;> first | rfl | omega | (dsimp only; omega)) | (rw [zr_form (by omega) (by omega) (by omega) (by omega)]; (repeat' (first | exact .nil | exact wkR_c | exact wkR_own | exact wkR_nils | refine wkR_int ?_ | refine wkR_bool ?_ | refine wkR_sl ?_ | refine wkR_osl ?_ | refine wkR_nsl ?_ | refine wkR_oo ?_ | refine wkR_no ?_ | refine .cons ?_ ?_ | refine wkR_agg ?_ | refine wkR_tup ?_)) <;> first | rfl | omega | (dsimp only; omega)) | (rw [zr_range (by omega) (by omega) (by omega) (by omega)]; (repeat' (first | exact .nil | exact wkR_c | exact wkR_own | exact wkR_nils | refine wkR_int ?_ | refine wkR_bool ?_ | refine wkR_sl ?_ | refine wkR_osl ?_ | refine wkR_nsl ?_ | refine wkR_oo ?_ | refine wkR_no ?_ | refine .cons ?_ ?_ | refine wkR_agg ?_ | refine wkR_tup ?_)) <;> first | rfl | omega | (dsimp only; omega)) | (rw [zr_done (by omega) (by omega) (by omega) (by omega) (by omega)]; (repeat' (first | exact .nil | exact wkR_c | exact wkR_own | exact wkR_nils | refine wkR_int ?_ | refine wkR_bool ?_ | refine wkR_sl ?_ | refine wkR_osl ?_ | refine wkR_nsl ?_ | refine wkR_oo ?_ | refine wkR_no ?_ | refine .cons ?_ ?_ | refine wkR_agg ?_ | refine wkR_tup ?_)) <;> first | rfl | omega | (dsimp only; omega)) | (rw [show 8 - k = 0 from by omega, zr_zero]; (repeat' (first | exact .nil | exact wkR_c | exact wkR_own | exact wkR_nils | refine wkR_int ?_ | refine wkR_bool ?_ | refine wkR_sl ?_ | refine wkR_osl ?_ | refine wkR_nsl ?_ | refine wkR_oo ?_ | refine wkR_no ?_ | refine .cons ?_ ?_ | refine wkR_agg ?_ | refine wkR_tup ?_)) <;> first | rfl | omega | (dsimp only; omega))
                   case b53 =>
                    have hp53 := hb53
                    try simp only [kb] at hp53
                    all_goals try exact absurd hb53 (by decide)
                    all_goals try (exfalso; omega)
                    all_goals
                     refine awp_skip ?_
                     try simp only [rk_state]
                     refine hK49 _ ?_
                     refine awp_seq_k fun K61 hK61 => ?_
                     have sU2 : (n + (readR (l.drop (4 * k)) 4).1 % 8 * 8 ^ k).tdiv 2 = unf (n + (readR (l.drop (4 * k)) 4).1 % 8 * 8 ^ k) := by omega
                     refine awp_region_lit fun L62 hL62 => ?_
                     refine aops_orunN 1 _ _ ?_
                     simp only [qq, Nat.reduceBEq, reduceIte, Nat.reduceEqDiff, Nat.reduceAdd, Nat.reduceLeDiff, reduceCtorEq, Nat.reduceMul, Int.reduceToNat, s8t5, s8t6, s8t10, s8f0, hb12, sD, hb24, hb30, hb31, sm, hb43, hb48, sm2, hb53, sU2]
                     refine aops_val (v := ?v63) rfl ?h63 ?_
                     case h63 => simp only [qq, Nat.reduceBEq, reduceIte, Nat.reduceEqDiff, Nat.reduceAdd, Nat.reduceLeDiff, reduceCtorEq, Nat.reduceMul, Int.reduceToNat, s8t5, s8t6, s8t10, s8f0, hb12, sD, hb24, hb30, hb31, sm, hb43, hb48, sm2, hb53, sU2]; (rw [y_quo (by omega), sU2, wr_id] <;> omega)
                     simp only [qq, Nat.reduceBEq, reduceIte, Nat.reduceEqDiff, Nat.reduceAdd, Nat.reduceLeDiff, reduceCtorEq, Nat.reduceMul, Int.reduceToNat, s8t5, s8t6, s8t10, s8f0, hb12, sD, hb24, hb30, hb31, sm, hb43, hb48, sm2, hb53, sU2]
                     refine aops_orunN 1 _ _ ?_
                     simp only [qq, Nat.reduceBEq, reduceIte, Nat.reduceEqDiff, Nat.reduceAdd, Nat.reduceLeDiff, reduceCtorEq, Nat.reduceMul, Int.reduceToNat, s8t5, s8t6, s8t10, s8f0, hb12, sD, hb24, hb30, hb31, sm, hb43, hb48, sm2, hb53, sU2]
                     refine aops_val (v := ?v64) rfl ?h64 ?_
                     case h64 => simp only [qq, Nat.reduceBEq, reduceIte, Nat.reduceEqDiff, Nat.reduceAdd, Nat.reduceLeDiff, reduceCtorEq, Nat.reduceMul, Int.reduceToNat, s8t5, s8t6, s8t10, s8f0, hb12, sD, hb24, hb30, hb31, sm, hb43, hb48, sm2, hb53, sU2]; first | (rw [wr_id] <;> omega) | rfl
                     simp only [qq, Nat.reduceBEq, reduceIte, Nat.reduceEqDiff, Nat.reduceAdd, Nat.reduceLeDiff, reduceCtorEq, Nat.reduceMul, Int.reduceToNat, s8t5, s8t6, s8t10, s8f0, hb12, sD, hb24, hb30, hb31, sm, hb43, hb48, sm2, hb53, sU2]
                     refine aops_val (v := ?v65) rfl ?h65 ?_
                     case h65 => simp only [qq, Nat.reduceBEq, reduceIte, Nat.reduceEqDiff, Nat.reduceAdd, Nat.reduceLeDiff, reduceCtorEq, Nat.reduceMul, Int.reduceToNat, s8t5, s8t6, s8t10, s8f0, hb12, sD, hb24, hb30, hb31, sm, hb43, hb48, sm2, hb53, sU2]; first | (rw [wr_id] <;> omega) | rfl
                     simp only [qq, Nat.reduceBEq, reduceIte, Nat.reduceEqDiff, Nat.reduceAdd, Nat.reduceLeDiff, reduceCtorEq, Nat.reduceMul, Int.reduceToNat, s8t5, s8t6, s8t10, s8f0, hb12, sD, hb24, hb30, hb31, sm, hb43, hb48, sm2, hb53, sU2]
                     refine aops_orunN 3 _ _ ?_
                     simp only [qq, Nat.reduceBEq, reduceIte, Nat.reduceEqDiff, Nat.reduceAdd, Nat.reduceLeDiff, reduceCtorEq, Nat.reduceMul, Int.reduceToNat, s8t5, s8t6, s8t10, s8f0, hb12, sD, hb24, hb30, hb31, sm, hb43, hb48, sm2, hb53, sU2]
                     refine aops_nil (hL62 _ ?_)
                     simp only [qq, Nat.reduceBEq, reduceIte, Nat.reduceEqDiff, Nat.reduceAdd, Nat.reduceLeDiff, reduceCtorEq, Nat.reduceMul, Int.reduceToNat, s8t5, s8t6, s8t10, s8f0, hb12, sD, hb24, hb30, hb31, sm, hb43, hb48, sm2, hb53, sU2]
                     try simp only [rk_state]
                     refine hK61 _ ?_
                     refine awp_ret ?_
                     try simp only [rk_state]
                     refine ⟨_, 0, by simp only [qq, Nat.reduceBEq, reduceIte, Nat.reduceEqDiff, Nat.reduceAdd, Nat.reduceLeDiff, reduceCtorEq, Nat.reduceMul, Int.reduceToNat, resA, Try.results98, s8t5, s8t6, s8t10, s8f0, hb12, sD, hb24, hb30, hb31, sm, hb43, hb48, sm2, hb53, sU2]; rfl, ?_, fun l hl => absurd rfl hl, fun l hl => absurd rfl hl⟩
                     simp only [packA]
                     rw [← hq3_2]; first | (rw [zr_torn (by omega) (by omega)]; (repeat' (first | exact .nil | exact wkR_c | exact wkR_own | exact wkR_nils | refine wkR_int ?_ | refine wkR_bool ?_ | refine wkR_sl ?_ | refine wkR_osl ?_ | refine wkR_nsl ?_ | refine wkR_oo ?_ | refine wkR_no ?_ | refine .cons ?_ ?_ | refine wkR_agg ?_ | refine wkR_tup ?_)) <;> first | rfl | omega | (dsimp only; omega)) | (rw [zr_form (by omega) (by omega) (by omega) (by omega)]; (repeat' (first | exact .nil | exact wkR_c | exact wkR_own | exact wkR_nils | refine wkR_int ?_ | refine wkR_bool ?_ | refine wkR_sl ?_ | refine wkR_osl ?_ | refine wkR_nsl ?_ | refine wkR_oo ?_ | refine wkR_no ?_ | refine .cons ?_ ?_ | refine wkR_agg ?_ | refine wkR_tup ?_)) <;> first | rfl | omega | (dsimp only; omega)) | (rw [zr_range (by omega) (by omega) (by omega) (by omega)]; (repeat' (first | exact .nil | exact wkR_c | exact wkR_own | exact wkR_nils | refine wkR_int ?_ | refine wkR_bool ?_ | refine wkR_sl ?_ | refine wkR_osl ?_ | refine wkR_nsl ?_ | refine wkR_oo ?_ | refine wkR_no ?_ | refine .cons ?_ ?_ | refine wkR_agg ?_ | refine wkR_tup ?_)) <;> first | rfl | omega | (dsimp only; omega)) | (rw [zr_done (by omega) (by omega) (by omega) (by omega) (by omega)]; (repeat' (first | exact .nil | exact wkR_c | exact wkR_own | exact wkR_nils | refine wkR_int ?_ | refine wkR_bool ?_ | refine wkR_sl ?_ | refine wkR_osl ?_ | refine wkR_nsl ?_ | refine wkR_oo ?_ | refine wkR_no ?_ | refine .cons ?_ ?_ | refine wkR_agg ?_ | refine wkR_tup ?_)) <;> first | rfl | omega | (dsimp only; omega)) | (rw [show 8 - k = 0 from by omega, zr_zero]; (repeat' (first | exact .nil | exact wkR_c | exact wkR_own | exact wkR_nils | refine wkR_int ?_ | refine wkR_bool ?_ | refine wkR_sl ?_ | refine wkR_osl ?_ | refine wkR_nsl ?_ | refine wkR_oo ?_ | refine wkR_no ?_ | refine .cons ?_ ?_ | refine wkR_agg ?_ | refine wkR_tup ?_)) <;> first | rfl | omega | (dsimp only; omega))
                case b48 =>
                 have hp48 := hb48
                 try simp only [kb] at hp48
                 all_goals try exact absurd hb48 (by decide)
                 all_goals try (exfalso; omega)
                 all_goals
                  refine awp_skip ?_
                  try simp only [rk_state]
                  try simp only [rk_state]
                  refine hK13 _ ?_
                  refine awp_region_lit fun L66 hL66 => ?_
                  refine aops_val (v := ?v67) rfl ?h67 ?_
                  case h67 => simp only [qq, Nat.reduceBEq, reduceIte, Nat.reduceEqDiff, Nat.reduceAdd, Nat.reduceLeDiff, reduceCtorEq, Nat.reduceMul, Int.reduceToNat, s8t5, s8t6, s8t10, s8f0, hb12, sD, hb24, hb30, hb31, sm, hb43, hb48]; first | (rw [wr_id] <;> omega) | rfl
                  simp only [qq, Nat.reduceBEq, reduceIte, Nat.reduceEqDiff, Nat.reduceAdd, Nat.reduceLeDiff, reduceCtorEq, Nat.reduceMul, Int.reduceToNat, s8t5, s8t6, s8t10, s8f0, hb12, sD, hb24, hb30, hb31, sm, hb43, hb48]
                  refine aops_orunN 1 _ _ ?_
                  simp only [qq, Nat.reduceBEq, reduceIte, Nat.reduceEqDiff, Nat.reduceAdd, Nat.reduceLeDiff, reduceCtorEq, Nat.reduceMul, Int.reduceToNat, s8t5, s8t6, s8t10, s8f0, hb12, sD, hb24, hb30, hb31, sm, hb43, hb48]
                  refine aops_nil (hL66 _ ?_)
                  simp only [qq, Nat.reduceBEq, reduceIte, Nat.reduceEqDiff, Nat.reduceAdd, Nat.reduceLeDiff, reduceCtorEq, Nat.reduceMul, Int.reduceToNat, s8t5, s8t6, s8t10, s8f0, hb12, sD, hb24, hb30, hb31, sm, hb43, hb48]
                  try simp only [rk_state]
                  have hnx := zr_next (f := 8 - k) (k := k) (n := n) (sc := 8 ^ k) (l := (l.drop (4 * k))) (by omega) (by omega) (by omega) (by omega) (by omega)
                  rw [List.drop_drop, show 4 * k + 4 = 4 * (k + 1) from by omega, show 8 - k - 1 = 8 - (k + 1) from by omega] at hnx
                  refine hK8 _ ((fun (k : Nat) (n : Int) => 8 - k) (k + 1) (n + (readR (l.drop (4 * k)) 4).1 % 8 * 8 ^ k)) ?_ ⟨k + 1, n + (readR (l.drop (4 * k)) 4).1 % 8 * 8 ^ k, rfl, ?_, ?_, ?_, ?_, ?_, ?_⟩
                  · (try simp only []); omega
                  · omega
                  · omega
                  · (rw [Int.pow_succ, ← hnx]; exact hq3_2)
                  · (try simp only [qq, Nat.reduceBEq, reduceIte, Nat.reduceEqDiff, Nat.reduceAdd, Nat.reduceLeDiff, reduceCtorEq, Nat.reduceMul, Int.reduceToNat, s8t5, s8t6, s8t10, s8f0, hb12, sD, hb24, hb30, hb31, sm, hb43, hb48])
                    all_goals (first | done | rfl | (simp only [AV.c.injEq, C.int.injEq, List.cons.injEq, and_true, true_and]; omega))
                  · (try simp only [qq, Nat.reduceBEq, reduceIte, Nat.reduceEqDiff, Nat.reduceAdd, Nat.reduceLeDiff, reduceCtorEq, Nat.reduceMul, Int.reduceToNat, s8t5, s8t6, s8t10, s8f0, hb12, sD, hb24, hb30, hb31, sm, hb43, hb48])
                    all_goals (rw [Int.pow_succ])
                  · (try simp only [qq, Nat.reduceBEq, reduceIte, Nat.reduceEqDiff, Nat.reduceAdd, Nat.reduceLeDiff, reduceCtorEq, Nat.reduceMul, Int.reduceToNat, s8t5, s8t6, s8t10, s8f0, hb12, sD, hb24, hb30, hb31, sm, hb43, hb48])
                    all_goals (first | done | rfl | (simp only [AV.c.injEq, C.int.injEq, List.cons.injEq, and_true, true_and]; omega))
        case b30 =>
         have hp30 := hb30
         try simp only [kb] at hp30
         all_goals try exact absurd hb30 (by decide)
         all_goals try (exfalso; omega)
         all_goals
          try simp only [hb30]
          refine aops_orunN 3 _ _ ?_
          simp only [qq, Nat.reduceBEq, reduceIte, Nat.reduceEqDiff, Nat.reduceAdd, Nat.reduceLeDiff, reduceCtorEq, Nat.reduceMul, Int.reduceToNat, s8t5, s8t6, s8t10, s8f0, hb12, sD, hb24, hb30]
          refine aops_nil (hL29 _ ?_)
          simp only [qq, Nat.reduceBEq, reduceIte, Nat.reduceEqDiff, Nat.reduceAdd, Nat.reduceLeDiff, reduceCtorEq, Nat.reduceMul, Int.reduceToNat, s8t5, s8t6, s8t10, s8f0, hb12, sD, hb24, hb30]
          try simp only [rk_state]
          refine hK28 _ ?_
          as_aux_lemma =>
           refine awp_cond (t := false) (by simp only [qq, Nat.reduceBEq, reduceIte, Nat.reduceEqDiff, Nat.reduceAdd, Nat.reduceLeDiff, reduceCtorEq, Nat.reduceMul, Int.reduceToNat, s8t5, s8t6, s8t10, s8f0, hb12, sD, hb24, hb30]) (fun h => ?_) (fun _ => ?_)
           case refine_1 => cases h
           refine awp_skip ?_
           try simp only [rk_state]
           refine hK27 _ ?_
           refine awp_seq_k fun K68 hK68 => ?_
           refine awp_seq_k fun K69 hK69 => ?_
           have sm : (readR (l.drop (4 * k)) 4).1.tmod 8 = (readR (l.drop (4 * k)) 4).1 % 8 := Int.tmod_eq_emod_of_nonneg (by omega)
           have hmb := mul_bd (a := (readR (l.drop (4 * k)) 4).1 % 8) (b := 8 ^ k) (c := 16777216) (by omega) (by omega) (by omega) (by omega)
           refine awp_region_lit fun L70 hL70 => ?_
           refine aops_orunN 2 _ _ ?_
           simp only [qq, Nat.reduceBEq, reduceIte, Nat.reduceEqDiff, Nat.reduceAdd, Nat.reduceLeDiff, reduceCtorEq, Nat.reduceMul, Int.reduceToNat, s8t5, s8t6, s8t10, s8f0, hb12, sD, hb24, hb30, sm]
           refine aops_val (v := ?v71) rfl ?h71 ?_
           case h71 => simp only [qq, Nat.reduceBEq, reduceIte, Nat.reduceEqDiff, Nat.reduceAdd, Nat.reduceLeDiff, reduceCtorEq, Nat.reduceMul, Int.reduceToNat, s8t5, s8t6, s8t10, s8f0, hb12, sD, hb24, hb30, sm]; (rw [y_rem] <;> omega)
           simp only [qq, Nat.reduceBEq, reduceIte, Nat.reduceEqDiff, Nat.reduceAdd, Nat.reduceLeDiff, reduceCtorEq, Nat.reduceMul, Int.reduceToNat, s8t5, s8t6, s8t10, s8f0, hb12, sD, hb24, hb30, sm]
           refine aops_orunN 1 _ _ ?_
           simp only [qq, Nat.reduceBEq, reduceIte, Nat.reduceEqDiff, Nat.reduceAdd, Nat.reduceLeDiff, reduceCtorEq, Nat.reduceMul, Int.reduceToNat, s8t5, s8t6, s8t10, s8f0, hb12, sD, hb24, hb30, sm]
           refine aops_val (v := ?v72) rfl ?h72 ?_
           case h72 => simp only [qq, Nat.reduceBEq, reduceIte, Nat.reduceEqDiff, Nat.reduceAdd, Nat.reduceLeDiff, reduceCtorEq, Nat.reduceMul, Int.reduceToNat, s8t5, s8t6, s8t10, s8f0, hb12, sD, hb24, hb30, sm]; first | (rw [wr_id] <;> omega) | rfl
           simp only [qq, Nat.reduceBEq, reduceIte, Nat.reduceEqDiff, Nat.reduceAdd, Nat.reduceLeDiff, reduceCtorEq, Nat.reduceMul, Int.reduceToNat, s8t5, s8t6, s8t10, s8f0, hb12, sD, hb24, hb30, sm]
           refine aops_val (v := ?v73) rfl ?h73 ?_
           case h73 => simp only [qq, Nat.reduceBEq, reduceIte, Nat.reduceEqDiff, Nat.reduceAdd, Nat.reduceLeDiff, reduceCtorEq, Nat.reduceMul, Int.reduceToNat, s8t5, s8t6, s8t10, s8f0, hb12, sD, hb24, hb30, sm]; first | (rw [wr_id] <;> omega) | rfl
           simp only [qq, Nat.reduceBEq, reduceIte, Nat.reduceEqDiff, Nat.reduceAdd, Nat.reduceLeDiff, reduceCtorEq, Nat.reduceMul, Int.reduceToNat, s8t5, s8t6, s8t10, s8f0, hb12, sD, hb24, hb30, sm]
           refine aops_orunN 1 _ _ ?_
           simp only [qq, Nat.reduceBEq, reduceIte, Nat.reduceEqDiff, Nat.reduceAdd, Nat.reduceLeDiff, reduceCtorEq, Nat.reduceMul, Int.reduceToNat, s8t5, s8t6, s8t10, s8f0, hb12, sD, hb24, hb30, sm]
           refine aops_val (v := ?v74) rfl ?h74 ?_
           case h74 => simp only [qq, Nat.reduceBEq, reduceIte, Nat.reduceEqDiff, Nat.reduceAdd, Nat.reduceLeDiff, reduceCtorEq, Nat.reduceMul, Int.reduceToNat, s8t5, s8t6, s8t10, s8f0, hb12, sD, hb24, hb30, sm]; first | (rw [wr_id] <;> omega) | rfl
           simp only [qq, Nat.reduceBEq, reduceIte, Nat.reduceEqDiff, Nat.reduceAdd, Nat.reduceLeDiff, reduceCtorEq, Nat.reduceMul, Int.reduceToNat, s8t5, s8t6, s8t10, s8f0, hb12, sD, hb24, hb30, sm]
           refine aops_orunN 2 _ _ ?_
           simp only [qq, Nat.reduceBEq, reduceIte, Nat.reduceEqDiff, Nat.reduceAdd, Nat.reduceLeDiff, reduceCtorEq, Nat.reduceMul, Int.reduceToNat, s8t5, s8t6, s8t10, s8f0, hb12, sD, hb24, hb30, sm]
           refine aops_nil (hL70 _ ?_)
           simp only [qq, Nat.reduceBEq, reduceIte, Nat.reduceEqDiff, Nat.reduceAdd, Nat.reduceLeDiff, reduceCtorEq, Nat.reduceMul, Int.reduceToNat, s8t5, s8t6, s8t10, s8f0, hb12, sD, hb24, hb30, sm]
           try simp only [rk_state]
           refine hK69 _ ?_
           refine awp_seq_k fun K75 hK75 => ?_
           refine awp_region_lit fun L76 hL76 => ?_
           refine aops_orunN 2 _ _ ?_
           simp only [qq, Nat.reduceBEq, reduceIte, Nat.reduceEqDiff, Nat.reduceAdd, Nat.reduceLeDiff, reduceCtorEq, Nat.reduceMul, Int.reduceToNat, s8t5, s8t6, s8t10, s8f0, hb12, sD, hb24, hb30, sm]
           refine aops_nil (hL76 _ ?_)
           simp only [qq, Nat.reduceBEq, reduceIte, Nat.reduceEqDiff, Nat.reduceAdd, Nat.reduceLeDiff, reduceCtorEq, Nat.reduceMul, Int.reduceToNat, s8t5, s8t6, s8t10, s8f0, hb12, sD, hb24, hb30, sm]
           try simp only [rk_state]
           refine hK75 _ ?_
           refine awp_cond (t := ?t77) ?h77 (fun hb77 => ?a77) (fun hb77 => ?b77)
           case h77 => simp only [qq, Nat.reduceBEq, reduceIte, Nat.reduceEqDiff, Nat.reduceAdd, Nat.reduceLeDiff, reduceCtorEq, Nat.reduceMul, Int.reduceToNat, s8t5, s8t6, s8t10, s8f0, hb12, sD, hb24, hb30, sm]; rfl
           case a77 =>
            have hp77 := hb77
            try simp only [kb] at hp77
            all_goals try exact absurd hb77 (by decide)
            all_goals try (exfalso; omega)
            all_goals
             refine awp_seq_k fun K78 hK78 => ?_
             refine awp_region_lit fun L79 hL79 => ?_
             refine aops_orunN 3 _ _ ?_
             simp only [qq, Nat.reduceBEq, reduceIte, Nat.reduceEqDiff, Nat.reduceAdd, Nat.reduceLeDiff, reduceCtorEq, Nat.reduceMul, Int.reduceToNat, s8t5, s8t6, s8t10, s8f0, hb12, sD, hb24, hb30, sm, hb77]
             refine aops_nil (hL79 _ ?_)
             simp only [qq, Nat.reduceBEq, reduceIte, Nat.reduceEqDiff, Nat.reduceAdd, Nat.reduceLeDiff, reduceCtorEq, Nat.reduceMul, Int.reduceToNat, s8t5, s8t6, s8t10, s8f0, hb12, sD, hb24, hb30, sm, hb77]
             try simp only [rk_state]
             refine hK78 _ ?_
             as_aux_lemma =>
              refine awp_ret ?_
              try simp only [rk_state]
              refine ⟨_, 0, by simp only [qq, Nat.reduceBEq, reduceIte, Nat.reduceEqDiff, Nat.reduceAdd, Nat.reduceLeDiff, reduceCtorEq, Nat.reduceMul, Int.reduceToNat, resA, Try.results98, s8t5, s8t6, s8t10, s8f0, hb12, sD, hb24, hb30, sm, hb77]; rfl, ?_, fun l hl => absurd rfl hl, fun l hl => absurd rfl hl⟩
              simp only [packA]
              rw [← hq3_2]; first | (rw [zr_torn (by omega) (by omega)]; (repeat' (first | exact .nil | exact wkR_c | exact wkR_own | exact wkR_nils | refine wkR_int ?_ | refine wkR_bool ?_ | refine wkR_sl ?_ | refine wkR_osl ?_ | refine wkR_nsl ?_ | refine wkR_oo ?_ | refine wkR_no ?_ | refine .cons ?_ ?_ | refine wkR_agg ?_ | refine wkR_tup ?_)) <;> first | rfl | omega | (dsimp only; omega)) | (rw [zr_form (by omega) (by omega) (by omega) (by omega)]; (repeat' (first | exact .nil | exact wkR_c | exact wkR_own | exact wkR_nils | refine wkR_int ?_ | refine wkR_bool ?_ | refine wkR_sl ?_ | refine wkR_osl ?_ | refine wkR_nsl ?_ | refine wkR_oo ?_ | refine wkR_no ?_ | refine .cons ?_ ?_ | refine wkR_agg ?_ | refine wkR_tup ?_)) <;> first | rfl | omega | (dsimp only; omega)) | (rw [zr_range (by omega) (by omega) (by omega) (by omega)]; (repeat' (first | exact .nil | exact wkR_c | exact wkR_own | exact wkR_nils | refine wkR_int ?_ | refine wkR_bool ?_ | refine wkR_sl ?_ | refine wkR_osl ?_ | refine wkR_nsl ?_ | refine wkR_oo ?_ | refine wkR_no ?_ | refine .cons ?_ ?_ | refine wkR_agg ?_ | refine wkR_tup ?_)) <;> first | rfl | omega | (dsimp only; omega)) | (rw [zr_done (by omega) (by omega) (by omega) (by omega) (by omega)]; (repeat' (first | exact .nil | exact wkR_c | exact wkR_own | exact wkR_nils | refine wkR_int ?_ | refine wkR_bool ?_ | refine wkR_sl ?_ | refine wkR_osl ?_ | refine wkR_nsl ?_ | refine wkR_oo ?_ | refine wkR_no ?_ | refine .cons ?_ ?_ | refine wkR_agg ?_ | refine wkR_tup ?_)) <;> first | rfl | omega | (dsimp only; omega)) | (rw [show 8 - k = 0 from by omega, zr_zero]; (repeat' (first | exact .nil | exact wkR_c | exact wkR_own | exact wkR_nils | refine wkR_int ?_ | refine wkR_bool ?_ | refine wkR_sl ?_ | refine wkR_osl ?_ | refine wkR_nsl ?_ | refine wkR_oo ?_ | refine wkR_no ?_ | refine .cons ?_ ?_ | refine wkR_agg ?_ | refine wkR_tup ?_)) <;> first | rfl | omega | (dsimp only; omega))
           case b77 =>
            have hp77 := hb77
            try simp only [kb] at hp77
            all_goals try exact absurd hb77 (by decide)
            all_goals try (exfalso; omega)
            all_goals
             refine awp_skip ?_
             try simp only [rk_state]
             refine hK68 _ ?_
             refine awp_seq_k fun K80 hK80 => ?_
             refine awp_region_lit fun L81 hL81 => ?_
             refine aops_orunN 2 _ _ ?_
             simp only [qq, Nat.reduceBEq, reduceIte, Nat.reduceEqDiff, Nat.reduceAdd, Nat.reduceLeDiff, reduceCtorEq, Nat.reduceMul, Int.reduceToNat, s8t5, s8t6, s8t10, s8f0, hb12, sD, hb24, hb30, sm, hb77]
             refine aops_nil (hL81 _ ?_)
             simp only [qq, Nat.reduceBEq, reduceIte, Nat.reduceEqDiff, Nat.reduceAdd, Nat.reduceLeDiff, reduceCtorEq, Nat.reduceMul, Int.reduceToNat, s8t5, s8t6, s8t10, s8f0, hb12, sD, hb24, hb30, sm, hb77]
             try simp only [rk_state]
             refine hK80 _ ?_
             refine awp_cond (t := ?t82) ?h82 (fun hb82 => ?a82) (fun hb82 => ?b82)
             case h82 => simp only [qq, Nat.reduceBEq, reduceIte, Nat.reduceEqDiff, Nat.reduceAdd, Nat.reduceLeDiff, reduceCtorEq, Nat.reduceMul, Int.reduceToNat, s8t5, s8t6, s8t10, s8f0, hb12, sD, hb24, hb30, sm, hb77]; rfl
             case a82 =>
              have hp82 := hb82
              try simp only [kb] at hp82
              all_goals try exact absurd hb82 (by decide)
              all_goals try (exfalso; omega)
              all_goals
               refine awp_seq_k fun K83 hK83 => ?_
               refine awp_seq_k fun K84 hK84 => ?_
               have hu := unf_or (n := n + (readR (l.drop (4 * k)) 4).1 % 8 * 8 ^ k) (by omega)
               have sm2 : (n + (readR (l.drop (4 * k)) 4).1 % 8 * 8 ^ k).tmod 2 = (n + (readR (l.drop (4 * k)) 4).1 % 8 * 8 ^ k) % 2 := Int.tmod_eq_emod_of_nonneg (by omega)
               refine awp_region_lit fun L85 hL85 => ?_
               refine aops_orunN 1 _ _ ?_
               simp only [qq, Nat.reduceBEq, reduceIte, Nat.reduceEqDiff, Nat.reduceAdd, Nat.reduceLeDiff, reduceCtorEq, Nat.reduceMul, Int.reduceToNat, s8t5, s8t6, s8t10, s8f0, hb12, sD, hb24, hb30, sm, hb77, hb82, sm2]
               refine aops_val (v := ?v86) rfl ?h86 ?_
               case h86 => simp only [qq, Nat.reduceBEq, reduceIte, Nat.reduceEqDiff, Nat.reduceAdd, Nat.reduceLeDiff, reduceCtorEq, Nat.reduceMul, Int.reduceToNat, s8t5, s8t6, s8t10, s8f0, hb12, sD, hb24, hb30, sm, hb77, hb82, sm2]; (rw [y_rem] <;> omega)
               simp only [qq, Nat.reduceBEq, reduceIte, Nat.reduceEqDiff, Nat.reduceAdd, Nat.reduceLeDiff, reduceCtorEq, Nat.reduceMul, Int.reduceToNat, s8t5, s8t6, s8t10, s8f0, hb12, sD, hb24, hb30, sm, hb77, hb82, sm2]
               refine aops_orunN 1 _ _ ?_
               simp only [qq, Nat.reduceBEq, reduceIte, Nat.reduceEqDiff, Nat.reduceAdd, Nat.reduceLeDiff, reduceCtorEq, Nat.reduceMul, Int.reduceToNat, s8t5, s8t6, s8t10, s8f0, hb12, sD, hb24, hb30, sm, hb77, hb82, sm2]
               refine aops_nil (hL85 _ ?_)
               simp only [qq, Nat.reduceBEq, reduceIte, Nat.reduceEqDiff, Nat.reduceAdd, Nat.reduceLeDiff, reduceCtorEq, Nat.reduceMul, Int.reduceToNat, s8t5, s8t6, s8t10, s8f0, hb12, sD, hb24, hb30, sm, hb77, hb82, sm2]
               try simp only [rk_state]
               refine hK84 _ ?_
               refine awp_cond (t := ?t87) ?h87 (fun hb87 => ?a87) (fun hb87 => ?b87)
               case h87 => simp only [qq, Nat.reduceBEq, reduceIte, Nat.reduceEqDiff, Nat.reduceAdd, Nat.reduceLeDiff, reduceCtorEq, Nat.reduceMul, Int.reduceToNat, s8t5, s8t6, s8t10, s8f0, hb12, sD, hb24, hb30, sm, hb77, hb82, sm2]; rfl
               case a87 =>
                have hp87 := hb87
                try simp only [kb] at hp87
                all_goals try exact absurd hb87 (by decide)
                all_goals try (exfalso; omega)
                all_goals
                 refine awp_seq_k fun K88 hK88 => ?_
                 have sU : (0 - (n + (readR (l.drop (4 * k)) 4).1 % 8 * 8 ^ k + 1)).tdiv 2 = unf (n + (readR (l.drop (4 * k)) 4).1 % 8 * 8 ^ k) := by omega
                 refine awp_region_lit fun L89 hL89 => ?_
                 refine aops_orunN 1 _ _ ?_
                 simp only [qq, Nat.reduceBEq, reduceIte, Nat.reduceEqDiff, Nat.reduceAdd, Nat.reduceLeDiff, reduceCtorEq, Nat.reduceMul, Int.reduceToNat, s8t5, s8t6, s8t10, s8f0, hb12, sD, hb24, hb30, sm, hb77, hb82, sm2, hb87, sU]
                 refine aops_val (v := ?v90) rfl ?h90 ?_
                 case h90 => simp only [qq, Nat.reduceBEq, reduceIte, Nat.reduceEqDiff, Nat.reduceAdd, Nat.reduceLeDiff, reduceCtorEq, Nat.reduceMul, Int.reduceToNat, s8t5, s8t6, s8t10, s8f0, hb12, sD, hb24, hb30, sm, hb77, hb82, sm2, hb87, sU]; first | (rw [wr_id] <;> omega) | rfl
                 simp only [qq, Nat.reduceBEq, reduceIte, Nat.reduceEqDiff, Nat.reduceAdd, Nat.reduceLeDiff, reduceCtorEq, Nat.reduceMul, Int.reduceToNat, s8t5, s8t6, s8t10, s8f0, hb12, sD, hb24, hb30, sm, hb77, hb82, sm2, hb87, sU]
                 refine aops_val (v := ?v91) rfl ?h91 ?_
                 case h91 => simp only [qq, Nat.reduceBEq, reduceIte, Nat.reduceEqDiff, Nat.reduceAdd, Nat.reduceLeDiff, reduceCtorEq, Nat.reduceMul, Int.reduceToNat, s8t5, s8t6, s8t10, s8f0, hb12, sD, hb24, hb30, sm, hb77, hb82, sm2, hb87, sU]; first | (rw [wr_id] <;> omega) | rfl
                 simp only [qq, Nat.reduceBEq, reduceIte, Nat.reduceEqDiff, Nat.reduceAdd, Nat.reduceLeDiff, reduceCtorEq, Nat.reduceMul, Int.reduceToNat, s8t5, s8t6, s8t10, s8f0, hb12, sD, hb24, hb30, sm, hb77, hb82, sm2, hb87, sU]
                 refine aops_val (v := ?v92) rfl ?h92 ?_
                 case h92 => simp only [qq, Nat.reduceBEq, reduceIte, Nat.reduceEqDiff, Nat.reduceAdd, Nat.reduceLeDiff, reduceCtorEq, Nat.reduceMul, Int.reduceToNat, s8t5, s8t6, s8t10, s8f0, hb12, sD, hb24, hb30, sm, hb77, hb82, sm2, hb87, sU]; (rw [y_quo (by omega), sU, wr_id] <;> omega)
                 simp only [qq, Nat.reduceBEq, reduceIte, Nat.reduceEqDiff, Nat.reduceAdd, Nat.reduceLeDiff, reduceCtorEq, Nat.reduceMul, Int.reduceToNat, s8t5, s8t6, s8t10, s8f0, hb12, sD, hb24, hb30, sm, hb77, hb82, sm2, hb87, sU]
                 refine aops_orunN 1 _ _ ?_
                 simp only [qq, Nat.reduceBEq, reduceIte, Nat.reduceEqDiff, Nat.reduceAdd, Nat.reduceLeDiff, reduceCtorEq, Nat.reduceMul, Int.reduceToNat, s8t5, s8t6, s8t10, s8f0, hb12, sD, hb24, hb30, sm, hb77, hb82, sm2, hb87, sU]
                 refine aops_val (v := ?v93) rfl ?h93 ?_
                 case h93 => simp only [qq, Nat.reduceBEq, reduceIte, Nat.reduceEqDiff, Nat.reduceAdd, Nat.reduceLeDiff, reduceCtorEq, Nat.reduceMul, Int.reduceToNat, s8t5, s8t6, s8t10, s8f0, hb12, sD, hb24, hb30, sm, hb77, hb82, sm2, hb87, sU]; first | (rw [wr_id] <;> omega) | rfl
                 simp only [qq, Nat.reduceBEq, reduceIte, Nat.reduceEqDiff, Nat.reduceAdd, Nat.reduceLeDiff, reduceCtorEq, Nat.reduceMul, Int.reduceToNat, s8t5, s8t6, s8t10, s8f0, hb12, sD, hb24, hb30, sm, hb77, hb82, sm2, hb87, sU]
                 refine aops_val (v := ?v94) rfl ?h94 ?_
                 case h94 => simp only [qq, Nat.reduceBEq, reduceIte, Nat.reduceEqDiff, Nat.reduceAdd, Nat.reduceLeDiff, reduceCtorEq, Nat.reduceMul, Int.reduceToNat, s8t5, s8t6, s8t10, s8f0, hb12, sD, hb24, hb30, sm, hb77, hb82, sm2, hb87, sU]; first | (rw [wr_id] <;> omega) | rfl
                 simp only [qq, Nat.reduceBEq, reduceIte, Nat.reduceEqDiff, Nat.reduceAdd, Nat.reduceLeDiff, reduceCtorEq, Nat.reduceMul, Int.reduceToNat, s8t5, s8t6, s8t10, s8f0, hb12, sD, hb24, hb30, sm, hb77, hb82, sm2, hb87, sU]
                 refine aops_orunN 3 _ _ ?_
                 simp only [qq, Nat.reduceBEq, reduceIte, Nat.reduceEqDiff, Nat.reduceAdd, Nat.reduceLeDiff, reduceCtorEq, Nat.reduceMul, Int.reduceToNat, s8t5, s8t6, s8t10, s8f0, hb12, sD, hb24, hb30, sm, hb77, hb82, sm2, hb87, sU]
                 refine aops_nil (hL89 _ ?_)
                 simp only [qq, Nat.reduceBEq, reduceIte, Nat.reduceEqDiff, Nat.reduceAdd, Nat.reduceLeDiff, reduceCtorEq, Nat.reduceMul, Int.reduceToNat, s8t5, s8t6, s8t10, s8f0, hb12, sD, hb24, hb30, sm, hb77, hb82, sm2, hb87, sU]
                 try simp only [rk_state]
                 refine hK88 _ ?_
                 as_aux_lemma =>
                  refine awp_ret ?_
                  try simp only [rk_state]
                  refine ⟨_, 0, by simp only [qq, Nat.reduceBEq, reduceIte, Nat.reduceEqDiff, Nat.reduceAdd, Nat.reduceLeDiff, reduceCtorEq, Nat.reduceMul, Int.reduceToNat, resA, Try.results98, s8t5, s8t6, s8t10, s8f0, hb12, sD, hb24, hb30, sm, hb77, hb82, sm2, hb87, sU]; rfl, ?_, fun l hl => absurd rfl hl, fun l hl => absurd rfl hl⟩
                  simp only [packA]
                  rw [← hq3_2]; first | (rw [zr_torn (by omega) (by omega)]; (repeat' (first | exact .nil | exact wkR_c | exact wkR_own | exact wkR_nils | refine wkR_int ?_ | refine wkR_bool ?_ | refine wkR_sl ?_ | refine wkR_osl ?_ | refine wkR_nsl ?_ | refine wkR_oo ?_ | refine wkR_no ?_ | refine .cons ?_ ?_ | refine wkR_agg ?_ | refine wkR_tup ?_)) <;> first | rfl | omega | (dsimp only; omega)) | (rw [zr_form (by omega) (by omega) (by omega) (by omega)]; (repeat' (first | exact .nil | exact wkR_c | exact wkR_own | exact wkR_nils | refine wkR_int ?_ | refine wkR_bool ?_ | refine wkR_sl ?_ | refine wkR_osl ?_ | refine wkR_nsl ?_ | refine wkR_oo ?_ | refine wkR_no ?_ | refine .cons ?_ ?_ | refine wkR_agg ?_ | refine wkR_tup ?_)) <;> first | rfl | omega | (dsimp only; omega)) | (rw [zr_range (by omega) (by omega) (by omega) (by omega)]; (repeat' (first | exact .nil | exact wkR_c | exact wkR_own | exact wkR_nils | refine wkR_int ?_ | refine wkR_bool ?_ | refine wkR_sl ?_ | refine wkR_osl ?_ | refine wkR_nsl ?_ | refine wkR_oo ?_ | refine wkR_no ?_ | refine .cons ?_ ?_ | refine wkR_agg ?_ | refine wkR_tup ?_)) <;> first | rfl | omega | (dsimp only; omega)) | (rw [zr_done (by omega) (by omega) (by omega) (by omega) (by omega)]; (repeat' (first | exact .nil | exact wkR_c | exact wkR_own | exact wkR_nils | refine wkR_int ?_ | refine wkR_bool ?_ | refine wkR_sl ?_ | refine wkR_osl ?_ | refine wkR_nsl ?_ | refine wkR_oo ?_ | refine wkR_no ?_ | refine .cons ?_ ?_ | refine wkR_agg ?_ | refine wkR_tup ?_)) <;> first | rfl | omega | (dsimp only; omega)) | (rw [show 8 - k = 0 from by omega, zr_zero]; (repeat' (first | exact .nil | exact wkR_c | exact wkR_own | exact wkR_nils | refine wkR_int ?_ | refine wkR_bool ?_ | refine wkR_sl ?_ | refine wkR_osl ?_ | refine wkR_nsl ?_ | refine wkR_oo ?_ | refine wkR_no ?_ | refine .cons ?_ ?_ | refine wkR_agg ?_ | refine wkR_tup ?_)) <;> first | rfl | omega | (dsimp only; omega))
               case b87 =>
                have hp87 := hb87
                try simp only [kb] at hp87
                all_goals try exact absurd hb87 (by decide)
                all_goals try (exfalso; omega)
                all_goals
                 refine awp_skip ?_
                 try simp only [rk_state]
                 refine hK83 _ ?_
                 refine awp_seq_k fun K95 hK95 => ?_
                 have sU2 : (n + (readR (l.drop (4 * k)) 4).1 % 8 * 8 ^ k).tdiv 2 = unf (n + (readR (l.drop (4 * k)) 4).1 % 8 * 8 ^ k) := by omega
                 refine awp_region_lit fun L96 hL96 => ?_
                 refine aops_orunN 1 _ _ ?_
                 simp only [qq, Nat.reduceBEq, reduceIte, Nat.reduceEqDiff, Nat.reduceAdd, Nat.reduceLeDiff, reduceCtorEq, Nat.reduceMul, Int.reduceToNat, s8t5, s8t6, s8t10, s8f0, hb12, sD, hb24, hb30, sm, hb77, hb82, sm2, hb87, sU2]
                 refine aops_val (v := ?v97) rfl ?h97 ?_
                 case h97 => simp only [qq, Nat.reduceBEq, reduceIte, Nat.reduceEqDiff, Nat.reduceAdd, Nat.reduceLeDiff, reduceCtorEq, Nat.reduceMul, Int.reduceToNat, s8t5, s8t6, s8t10, s8f0, hb12, sD, hb24, hb30, sm, hb77, hb82, sm2, hb87, sU2]; (rw [y_quo (by omega), sU2, wr_id] <;> omega)
                 simp only [qq, Nat.reduceBEq, reduceIte, Nat.reduceEqDiff, Nat.reduceAdd, Nat.reduceLeDiff, reduceCtorEq, Nat.reduceMul, Int.reduceToNat, s8t5, s8t6, s8t10, s8f0, hb12, sD, hb24, hb30, sm, hb77, hb82, sm2, hb87, sU2]
                 refine aops_orunN 1 _ _ ?_
                 simp only [qq, Nat.reduceBEq, reduceIte, Nat.reduceEqDiff, Nat.reduceAdd, Nat.reduceLeDiff, reduceCtorEq, Nat.reduceMul, Int.reduceToNat, s8t5, s8t6, s8t10, s8f0, hb12, sD, hb24, hb30, sm, hb77, hb82, sm2, hb87, sU2]
                 refine aops_val (v := ?v98) rfl ?h98 ?_
                 case h98 => simp only [qq, Nat.reduceBEq, reduceIte, Nat.reduceEqDiff, Nat.reduceAdd, Nat.reduceLeDiff, reduceCtorEq, Nat.reduceMul, Int.reduceToNat, s8t5, s8t6, s8t10, s8f0, hb12, sD, hb24, hb30, sm, hb77, hb82, sm2, hb87, sU2]; first | (rw [wr_id] <;> omega) | rfl
                 simp only [qq, Nat.reduceBEq, reduceIte, Nat.reduceEqDiff, Nat.reduceAdd, Nat.reduceLeDiff, reduceCtorEq, Nat.reduceMul, Int.reduceToNat, s8t5, s8t6, s8t10, s8f0, hb12, sD, hb24, hb30, sm, hb77, hb82, sm2, hb87, sU2]
                 refine aops_val (v := ?v99) rfl ?h99 ?_
                 case h99 => simp only [qq, Nat.reduceBEq, reduceIte, Nat.reduceEqDiff, Nat.reduceAdd, Nat.reduceLeDiff, reduceCtorEq, Nat.reduceMul, Int.reduceToNat, s8t5, s8t6, s8t10, s8f0, hb12, sD, hb24, hb30, sm, hb77, hb82, sm2, hb87, sU2]; first | (rw [wr_id] <;> omega) | rfl
                 simp only [qq, Nat.reduceBEq, reduceIte, Nat.reduceEqDiff, Nat.reduceAdd, Nat.reduceLeDiff, reduceCtorEq, Nat.reduceMul, Int.reduceToNat, s8t5, s8t6, s8t10, s8f0, hb12, sD, hb24, hb30, sm, hb77, hb82, sm2, hb87, sU2]
                 refine aops_orunN 3 _ _ ?_
                 simp only [qq, Nat.reduceBEq, reduceIte, Nat.reduceEqDiff, Nat.reduceAdd, Nat.reduceLeDiff, reduceCtorEq, Nat.reduceMul, Int.reduceToNat, s8t5, s8t6, s8t10, s8f0, hb12, sD, hb24, hb30, sm, hb77, hb82, sm2, hb87, sU2]
                 refine aops_nil (hL96 _ ?_)
                 simp only [qq, Nat.reduceBEq, reduceIte, Nat.reduceEqDiff, Nat.reduceAdd, Nat.reduceLeDiff, reduceCtorEq, Nat.reduceMul, Int.reduceToNat, s8t5, s8t6, s8t10, s8f0, hb12, sD, hb24, hb30, sm, hb77, hb82, sm2, hb87, sU2]
                 try simp only [rk_state]
                 refine hK95 _ ?_
                 refine awp_ret ?_
                 try simp only [rk_state]
                 refine ⟨_, 0, by simp only [qq, Nat.reduceBEq, reduceIte, Nat.reduceEqDiff, Nat.reduceAdd, Nat.reduceLeDiff, reduceCtorEq, Nat.reduceMul, Int.reduceToNat, resA, Try.results98, s8t5, s8t6, s8t10, s8f0, hb12, sD, hb24, hb30, sm, hb77, hb82, sm2, hb87, sU2]; rfl, ?_, fun l hl => absurd rfl hl, fun l hl => absurd rfl hl⟩
                 simp only [packA]
                 rw [← hq3_2]; first | (rw [zr_torn (by omega) (by omega)]; (repeat' (first | exact .nil | exact wkR_c | exact wkR_own | exact wkR_nils | refine wkR_int ?_ | refine wkR_bool ?_ | refine wkR_sl ?_ | refine wkR_osl ?_ | refine wkR_nsl ?_ | refine wkR_oo ?_ | refine wkR_no ?_ | refine .cons ?_ ?_ | refine wkR_agg ?_ | refine wkR_tup ?_)) <;> first | rfl | omega | (dsimp only; omega)) | (rw [zr_form (by omega) (by omega) (by omega) (by omega)]; (repeat' (first | exact .nil | exact wkR_c | exact wkR_own | exact wkR_nils | refine wkR_int ?_ | refine wkR_bool ?_ | refine wkR_sl ?_ | refine wkR_osl ?_ | refine wkR_nsl ?_ | refine wkR_oo ?_ | refine wkR_no ?_ | refine .cons ?_ ?_ | refine wkR_agg ?_ | refine wkR_tup ?_)) <;> first | rfl | omega | (dsimp only; omega)) | (rw [zr_range (by omega) (by omega) (by omega) (by omega)]; (repeat' (first | exact .nil | exact wkR_c | exact wkR_own | exact wkR_nils | refine wkR_int ?_ | refine wkR_bool ?_ | refine wkR_sl ?_ | refine wkR_osl ?_ | refine wkR_nsl ?_ | refine wkR_oo ?_ | refine wkR_no ?_ | refine .cons ?_ ?_ | refine wkR_agg ?_ | refine wkR_tup ?_)) <;> first | rfl | omega | (dsimp only; omega)) | (rw [zr_done (by omega) (by omega) (by omega) (by omega) (by omega)]; (repeat' (first | exact .nil | exact wkR_c | exact wkR_own | exact wkR_nils | refine wkR_int ?_ | refine wkR_bool ?_ | refine wkR_sl ?_ | refine wkR_osl ?_ | refine wkR_nsl ?_ | refine wkR_oo ?_ | refine wkR_no ?_ | refine .cons ?_ ?_ | refine wkR_agg ?_ | refine wkR_tup ?_)) <;> first | rfl | omega | (dsimp only; omega)) | (rw [show 8 - k = 0 from by omega, zr_zero]; (repeat' (first | exact .nil | exact wkR_c | exact wkR_own | exact wkR_nils | refine wkR_int ?_ | refine wkR_bool ?_ | refine wkR_sl ?_ | refine wkR_osl ?_ | refine wkR_nsl ?_ | refine wkR_oo ?_ | refine wkR_no ?_ | refine .cons ?_ ?_ | refine wkR_agg ?_ | refine wkR_tup ?_)) <;> first | rfl | omega | (dsimp only; omega))
             case b82 =>
              have hp82 := hb82
              try simp only [kb] at hp82
              all_goals try exact absurd hb82 (by decide)
              all_goals try (exfalso; omega)
              all_goals
               refine awp_skip ?_
               try simp only [rk_state]
               try simp only [rk_state]
               refine hK13 _ ?_
               refine awp_region_lit fun L100 hL100 => ?_
               refine aops_val (v := ?v101) rfl ?h101 ?_
               case h101 => simp only [qq, Nat.reduceBEq, reduceIte, Nat.reduceEqDiff, Nat.reduceAdd, Nat.reduceLeDiff, reduceCtorEq, Nat.reduceMul, Int.reduceToNat, s8t5, s8t6, s8t10, s8f0, hb12, sD, hb24, hb30, sm, hb77, hb82]; first | (rw [wr_id] <;> omega) | rfl
               simp only [qq, Nat.reduceBEq, reduceIte, Nat.reduceEqDiff, Nat.reduceAdd, Nat.reduceLeDiff, reduceCtorEq, Nat.reduceMul, Int.reduceToNat, s8t5, s8t6, s8t10, s8f0, hb12, sD, hb24, hb30, sm, hb77, hb82]
               refine aops_orunN 1 _ _ ?_
               simp only [qq, Nat.reduceBEq, reduceIte, Nat.reduceEqDiff, Nat.reduceAdd, Nat.reduceLeDiff, reduceCtorEq, Nat.reduceMul, Int.reduceToNat, s8t5, s8t6, s8t10, s8f0, hb12, sD, hb24, hb30, sm, hb77, hb82]
               refine aops_nil (hL100 _ ?_)
               simp only [qq, Nat.reduceBEq, reduceIte, Nat.reduceEqDiff, Nat.reduceAdd, Nat.reduceLeDiff, reduceCtorEq, Nat.reduceMul, Int.reduceToNat, s8t5, s8t6, s8t10, s8f0, hb12, sD, hb24, hb30, sm, hb77, hb82]
               try simp only [rk_state]
               have hnx := zr_next (f := 8 - k) (k := k) (n := n) (sc := 8 ^ k) (l := (l.drop (4 * k))) (by omega) (by omega) (by omega) (by omega) (by omega)
               rw [List.drop_drop, show 4 * k + 4 = 4 * (k + 1) from by omega, show 8 - k - 1 = 8 - (k + 1) from by omega] at hnx
               refine hK8 _ ((fun (k : Nat) (n : Int) => 8 - k) (k + 1) (n + (readR (l.drop (4 * k)) 4).1 % 8 * 8 ^ k)) ?_ ⟨k + 1, n + (readR (l.drop (4 * k)) 4).1 % 8 * 8 ^ k, rfl, ?_, ?_, ?_, ?_, ?_, ?_⟩
               · (try simp only []); omega
               · omega
               · omega
               · (rw [Int.pow_succ, ← hnx]; exact hq3_2)
               · (try simp only [qq, Nat.reduceBEq, reduceIte, Nat.reduceEqDiff, Nat.reduceAdd, Nat.reduceLeDiff, reduceCtorEq, Nat.reduceMul, Int.reduceToNat, s8t5, s8t6, s8t10, s8f0, hb12, sD, hb24, hb30, sm, hb77, hb82])
                 all_goals (first | done | rfl | (simp only [AV.c.injEq, C.int.injEq, List.cons.injEq, and_true, true_and]; omega))
               · (try simp only [qq, Nat.reduceBEq, reduceIte, Nat.reduceEqDiff, Nat.reduceAdd, Nat.reduceLeDiff, reduceCtorEq, Nat.reduceMul, Int.reduceToNat, s8t5, s8t6, s8t10, s8f0, hb12, sD, hb24, hb30, sm, hb77, hb82])
                 all_goals (rw [Int.pow_succ])
               · (try simp only [qq, Nat.reduceBEq, reduceIte, Nat.reduceEqDiff, Nat.reduceAdd, Nat.reduceLeDiff, reduceCtorEq, Nat.reduceMul, Int.reduceToNat, s8t5, s8t6, s8t10, s8f0, hb12, sD, hb24, hb30, sm, hb77, hb82])
                 all_goals (first | done | rfl | (simp only [AV.c.injEq, C.int.injEq, List.cons.injEq, and_true, true_and]; omega))
   case b12 =>
    have hp12 := hb12
    try simp only [kb] at hp12
    all_goals try exact absurd hb12 (by decide)
    all_goals try (exfalso; omega)
    all_goals
     refine awp_exit ?_
     simp only [rk_state, reduceIte, Nat.reduceEqDiff]
     try simp only [rk_state]
     refine hK5 _ ?_
     refine awp_seq_k fun K102 hK102 => ?_
     refine awp_region_lit fun L103 hL103 => ?_
     refine aops_orunN 3 _ _ ?_
     simp only [qq, Nat.reduceBEq, reduceIte, Nat.reduceEqDiff, Nat.reduceAdd, Nat.reduceLeDiff, reduceCtorEq, Nat.reduceMul, Int.reduceToNat, s8t5, s8t6, s8t10, s8f0, hb12]
     refine aops_nil (hL103 _ ?_)
     simp only [qq, Nat.reduceBEq, reduceIte, Nat.reduceEqDiff, Nat.reduceAdd, Nat.reduceLeDiff, reduceCtorEq, Nat.reduceMul, Int.reduceToNat, s8t5, s8t6, s8t10, s8f0, hb12]
     try simp only [rk_state]
     refine hK102 _ ?_
     as_aux_lemma =>
      refine awp_ret ?_
      try simp only [rk_state]
      refine ⟨_, 0, by simp only [qq, Nat.reduceBEq, reduceIte, Nat.reduceEqDiff, Nat.reduceAdd, Nat.reduceLeDiff, reduceCtorEq, Nat.reduceMul, Int.reduceToNat, resA, Try.results98, s8t5, s8t6, s8t10, s8f0, hb12]; rfl, ?_, fun l hl => absurd rfl hl, fun l hl => absurd rfl hl⟩
      simp only [packA]
      rw [← hq3_2]; first | (rw [zr_torn (by omega) (by omega)]; (repeat' (first | exact .nil | exact wkR_c | exact wkR_own | exact wkR_nils | refine wkR_int ?_ | refine wkR_bool ?_ | refine wkR_sl ?_ | refine wkR_osl ?_ | refine wkR_nsl ?_ | refine wkR_oo ?_ | refine wkR_no ?_ | refine .cons ?_ ?_ | refine wkR_agg ?_ | refine wkR_tup ?_)) <;> first | rfl | omega | (dsimp only; omega)) | (rw [zr_form (by omega) (by omega) (by omega) (by omega)]; (repeat' (first | exact .nil | exact wkR_c | exact wkR_own | exact wkR_nils | refine wkR_int ?_ | refine wkR_bool ?_ | refine wkR_sl ?_ | refine wkR_osl ?_ | refine wkR_nsl ?_ | refine wkR_oo ?_ | refine wkR_no ?_ | refine .cons ?_ ?_ | refine wkR_agg ?_ | refine wkR_tup ?_)) <;> first | rfl | omega | (dsimp only; omega)) | (rw [zr_range (by omega) (by omega) (by omega) (by omega)]; (repeat' (first | exact .nil | exact wkR_c | exact wkR_own | exact wkR_nils | refine wkR_int ?_ | refine wkR_bool ?_ | refine wkR_sl ?_ | refine wkR_osl ?_ | refine wkR_nsl ?_ | refine wkR_oo ?_ | refine wkR_no ?_ | refine .cons ?_ ?_ | refine wkR_agg ?_ | refine wkR_tup ?_)) <;> first | rfl | omega | (dsimp only; omega)) | (rw [zr_done (by omega) (by omega) (by omega) (by omega) (by omega)]; (repeat' (first | exact .nil | exact wkR_c | exact wkR_own | exact wkR_nils | refine wkR_int ?_ | refine wkR_bool ?_ | refine wkR_sl ?_ | refine wkR_osl ?_ | refine wkR_nsl ?_ | refine wkR_oo ?_ | refine wkR_no ?_ | refine .cons ?_ ?_ | refine wkR_agg ?_ | refine wkR_tup ?_)) <;> first | rfl | omega | (dsimp only; omega)) | (rw [show 8 - k = 0 from by omega, zr_zero]; (repeat' (first | exact .nil | exact wkR_c | exact wkR_own | exact wkR_nils | refine wkR_int ?_ | refine wkR_bool ?_ | refine wkR_sl ?_ | refine wkR_osl ?_ | refine wkR_nsl ?_ | refine wkR_oo ?_ | refine wkR_no ?_ | refine .cons ?_ ?_ | refine wkR_agg ?_ | refine wkR_tup ?_)) <;> first | rfl | omega | (dsimp only; omega))
set_option maxHeartbeats 4000000 in
set_option maxRecDepth 50000 in
theorem ztake_fun (l : List Bool) (hl : l.length ≤ 140737488355200) : Fun Try.prog 40 [.c (.sl 4 (Rw boC l))] nomem (.tup [.c (.int .i64 (ztakeR l).1), .own false 0 4 (Rw boC (ztakeR l).2.1), .c (.int .i64 (ztakeR l).2.2)]) nomem := by
 refine fun_of_awp Try.func40 rfl (by decide +kernel) (by decide +kernel) (Nat.le_of_ble_eq_true rfl) (fun _ _ => rfl) (fun _ _ => rfl) ?_
 refine awp_seq_k fun K1 hK1 => ?_
 refine awp_region_lit fun L2 hL2 => ?_
 refine aops_orunN 3 _ _ ?_
 simp only [qq, Nat.reduceBEq, reduceIte, Nat.reduceEqDiff, Nat.reduceAdd, Nat.reduceLeDiff, reduceCtorEq, Nat.reduceMul, Int.reduceToNat]
 refine aops_nil (hL2 _ ?_)
 simp only [qq, Nat.reduceBEq, reduceIte, Nat.reduceEqDiff, Nat.reduceAdd, Nat.reduceLeDiff, reduceCtorEq, Nat.reduceMul, Int.reduceToNat]
 try simp only [rk_state]
 refine hK1 _ ?_
 refine awp_seq_k fun K3 hK3 => ?_
 refine awp_region_lit fun L4 hL4 => ?_
 refine aops_orunN 1 _ _ ?_
 simp only [qq, Nat.reduceBEq, reduceIte, Nat.reduceEqDiff, Nat.reduceAdd, Nat.reduceLeDiff, reduceCtorEq, Nat.reduceMul, Int.reduceToNat]
 refine aops_call (zread_fun _ ?s5_0) rfl rfl rfl rfl (by (try simp only [qq, Nat.reduceBEq, reduceIte, Nat.reduceEqDiff, Nat.reduceAdd, Nat.reduceLeDiff, reduceCtorEq, Nat.reduceMul, Int.reduceToNat]); (repeat' (first | exact .nil | exact wk_c | exact wk_ownc | exact wk_nilsc | exact wk_nils | exact wk_fn | refine .cons ?_ ?_ | refine wk_agg ?_ | refine wk_fnL ?_))) rfl rfl ?m5
 case s5_0 => first | assumption | omega | decide +kernel | (simp only [List.length_take, List.length_drop]; omega)
 simp only [qq, Nat.reduceBEq, reduceIte, Nat.reduceEqDiff, Nat.reduceAdd, Nat.reduceLeDiff, reduceCtorEq, Nat.reduceMul, Int.reduceToNat]
 refine aops_orunN 7 _ _ ?_
 simp only [qq, Nat.reduceBEq, reduceIte, Nat.reduceEqDiff, Nat.reduceAdd, Nat.reduceLeDiff, reduceCtorEq, Nat.reduceMul, Int.reduceToNat]
 refine aops_nil (hL4 _ ?_)
 simp only [qq, Nat.reduceBEq, reduceIte, Nat.reduceEqDiff, Nat.reduceAdd, Nat.reduceLeDiff, reduceCtorEq, Nat.reduceMul, Int.reduceToNat]
 try simp only [rk_state]
 refine hK3 _ ?_
 refine awp_seq_k fun K6 hK6 => ?_
 refine awp_seq_k fun K7 hK7 => ?_
 refine awp_region_lit fun L8 hL8 => ?_
 refine aops_orunN 2 _ _ ?_
 simp only [qq, Nat.reduceBEq, reduceIte, Nat.reduceEqDiff, Nat.reduceAdd, Nat.reduceLeDiff, reduceCtorEq, Nat.reduceMul, Int.reduceToNat]
 refine aops_nil (hL8 _ ?_)
 simp only [qq, Nat.reduceBEq, reduceIte, Nat.reduceEqDiff, Nat.reduceAdd, Nat.reduceLeDiff, reduceCtorEq, Nat.reduceMul, Int.reduceToNat]
 try simp only [rk_state]
 refine hK7 _ ?_
 as_aux_lemma =>
  refine awp_cond (t := ?t9) ?h9 (fun hb9 => ?a9) (fun hb9 => ?b9)
  case h9 => simp only [qq, Nat.reduceBEq, reduceIte, Nat.reduceEqDiff, Nat.reduceAdd, Nat.reduceLeDiff, reduceCtorEq, Nat.reduceMul, Int.reduceToNat]; rfl
  case a9 =>
   have hp9 := hb9
   try simp only [kb] at hp9
   all_goals try exact absurd hb9 (by decide)
   all_goals try (exfalso; omega)
   all_goals
    refine awp_seq_k fun K10 hK10 => ?_
    refine awp_region_lit fun L11 hL11 => ?_
    refine aops_orunN 4 _ _ ?_
    simp only [qq, Nat.reduceBEq, reduceIte, Nat.reduceEqDiff, Nat.reduceAdd, Nat.reduceLeDiff, reduceCtorEq, Nat.reduceMul, Int.reduceToNat, hb9]
    refine aops_nil (hL11 _ ?_)
    simp only [qq, Nat.reduceBEq, reduceIte, Nat.reduceEqDiff, Nat.reduceAdd, Nat.reduceLeDiff, reduceCtorEq, Nat.reduceMul, Int.reduceToNat, hb9]
    try simp only [rk_state]
    refine hK10 _ ?_
    refine awp_ret ?_
    try simp only [rk_state]
    first | refine ⟨_, 21, by simp only [qq, Nat.reduceBEq, reduceIte, Nat.reduceEqDiff, Nat.reduceAdd, Nat.reduceLeDiff, reduceCtorEq, Nat.reduceMul, Int.reduceToNat, resA, Try.results40, hb9]; rfl, ?_, fun l hl => absurd rfl hl, fun l hl => absurd rfl hl⟩ | refine ⟨_, 0, by simp only [qq, Nat.reduceBEq, reduceIte, Nat.reduceEqDiff, Nat.reduceAdd, Nat.reduceLeDiff, reduceCtorEq, Nat.reduceMul, Int.reduceToNat, resA, Try.results40, hb9]; rfl, ?_, fun l hl => absurd rfl hl, fun l hl => absurd rfl hl⟩
    simp only [packA]
    unfold ztakeR; (repeat' (first | exact .nil | exact wkR_c | exact wkR_own | exact wkR_nils | refine wkR_int ?_ | refine wkR_bool ?_ | refine wkR_sl ?_ | refine wkR_osl ?_ | refine wkR_nsl ?_ | refine wkR_oo ?_ | refine wkR_no ?_ | refine .cons ?_ ?_ | refine wkR_agg ?_ | refine wkR_tup ?_)) <;> first | done | rfl | omega | (rw [(zreadR_bad (by omega)).1]; done) | (rw [if_neg (by omega)]; exact rfl) | (rw [if_pos (by omega)]; done) | (show (0 : Int) = (zreadR l).2.2; omega)
  case b9 =>
   have hp9 := hb9
   try simp only [kb] at hp9
   all_goals try exact absurd hb9 (by decide)
   all_goals try (exfalso; omega)
   all_goals
    refine awp_skip ?_
    try simp only [rk_state]
    refine hK6 _ ?_
    refine awp_seq_k fun K12 hK12 => ?_
    have hro := zreadR_ok (l := l) (by omega)
    refine awp_region_lit fun L13 hL13 => ?_
    refine aops_orunN 3 _ _ ?_
    simp only [qq, Nat.reduceBEq, reduceIte, Nat.reduceEqDiff, Nat.reduceAdd, Nat.reduceLeDiff, reduceCtorEq, Nat.reduceMul, Int.reduceToNat, hb9]
    refine aops_val (v := ?v14) rfl ?h14 ?_
    case h14 => simp only [qq, Nat.reduceBEq, reduceIte, Nat.reduceEqDiff, Nat.reduceAdd, Nat.reduceLeDiff, reduceCtorEq, Nat.reduceMul, Int.reduceToNat, hb9]; first | (rw [slc_l un36 if4] <;> omega) | (rw [slc_lo un36 if4] <;> omega)
    simp only [qq, Nat.reduceBEq, reduceIte, Nat.reduceEqDiff, Nat.reduceAdd, Nat.reduceLeDiff, reduceCtorEq, Nat.reduceMul, Int.reduceToNat, hb9]
    refine aops_call_own (clone_bool_fun _ ?s15_0) rfl rfl rfl rfl (by (try simp only [qq, Nat.reduceBEq, reduceIte, Nat.reduceEqDiff, Nat.reduceAdd, Nat.reduceLeDiff, reduceCtorEq, Nat.reduceMul, Int.reduceToNat, hb9]); (repeat' (first | exact .nil | exact wk_c | exact wk_ownc | exact wk_nilsc | exact wk_nils | exact wk_fn | refine .cons ?_ ?_ | refine wk_agg ?_ | refine wk_fnL ?_))) rfl rfl rfl (by simp only [qq, Nat.reduceBEq, reduceIte, Nat.reduceEqDiff, Nat.reduceAdd, Nat.reduceLeDiff, reduceCtorEq, Nat.reduceMul, Int.reduceToNat, hb9]) ?m15
    case s15_0 => first | assumption | omega | decide +kernel | (simp only [List.length_take, List.length_drop]; omega)
    simp only [qq, Nat.reduceBEq, reduceIte, Nat.reduceEqDiff, Nat.reduceAdd, Nat.reduceLeDiff, reduceCtorEq, Nat.reduceMul, Int.reduceToNat, AV.setOwn, AV.setOwn1, hb9]
    refine aops_orunN 3 _ _ ?_
    simp only [qq, Nat.reduceBEq, reduceIte, Nat.reduceEqDiff, Nat.reduceAdd, Nat.reduceLeDiff, reduceCtorEq, Nat.reduceMul, Int.reduceToNat, hb9]
    refine aops_nil (hL13 _ ?_)
    simp only [qq, Nat.reduceBEq, reduceIte, Nat.reduceEqDiff, Nat.reduceAdd, Nat.reduceLeDiff, reduceCtorEq, Nat.reduceMul, Int.reduceToNat, hb9]
    try simp only [rk_state]
    refine hK12 _ ?_
    refine awp_ret ?_
    try simp only [rk_state]
    first | refine ⟨_, 21, by simp only [qq, Nat.reduceBEq, reduceIte, Nat.reduceEqDiff, Nat.reduceAdd, Nat.reduceLeDiff, reduceCtorEq, Nat.reduceMul, Int.reduceToNat, resA, Try.results40, hb9]; rfl, ?_, fun l hl => absurd rfl hl, fun l hl => absurd rfl hl⟩ | refine ⟨_, 0, by simp only [qq, Nat.reduceBEq, reduceIte, Nat.reduceEqDiff, Nat.reduceAdd, Nat.reduceLeDiff, reduceCtorEq, Nat.reduceMul, Int.reduceToNat, resA, Try.results40, hb9]; rfl, ?_, fun l hl => absurd rfl hl, fun l hl => absurd rfl hl⟩
    simp only [packA]
    unfold ztakeR; (repeat' (first | exact .nil | exact wkR_c | exact wkR_own | exact wkR_nils | refine wkR_int ?_ | refine wkR_bool ?_ | refine wkR_sl ?_ | refine wkR_osl ?_ | refine wkR_nsl ?_ | refine wkR_oo ?_ | refine wkR_no ?_ | refine .cons ?_ ?_ | refine wkR_agg ?_ | refine wkR_tup ?_)) <;> first | done | rfl | omega | (rw [(zreadR_bad (by omega)).1]; done) | (rw [if_neg (by omega)]; exact rfl) | (rw [if_pos (by omega)]; done) | (show (0 : Int) = (zreadR l).2.2; omega)
end Go.Proofs.Y
