/-
  What is proved: small numbers: what fold, Put, Read, Take, Coded, Decoded compute. Conditions: none.
-/
import Derived.Test.YtoihccclnkhmaaaC1d
import Derived.Test.YtoihccclnkhmaaaPA
set_option linter.unusedVariables false
set_option linter.unusedSimpArgs false
set_option maxRecDepth 4000
namespace Go.Proofs.Y
open Go.Rb
set_option maxHeartbeats 4000000 in
set_option maxRecDepth 50000 in
theorem fold_fun (v : Int) (hv : -4000000 ≤ v ∧ v ≤ 4000000) : Fun Try.prog 97 [.c (.int .i64 v)] nomem (.c (.int .i64 (foldN v))) nomem := by
 have hf := foldN_or v
 refine fun_of_awp Try.func97 rfl (by decide +kernel) (by decide +kernel) (Nat.le_of_ble_eq_true rfl) (fun _ _ => rfl) (fun _ _ => rfl) ?_
 refine seq_reg 1 fun L1 hL1 => ?_
 simp only [qq, seval, -Nat.reducePow, reduceIte, reduceCtorEq]
 refine nil_z hL1 ?_
 refine awp_seq_k fun K2 hK2 => ?_
 refine seq_reg 2 fun L3 hL3 => ?_
 simp only [qq, seval, -Nat.reducePow, reduceIte, reduceCtorEq]
 refine nil_z hL3 ?_
 refine awp_cond (t := ?t4) ?h4 (fun hb4 => ?a4) (fun hb4 => ?b4)
 case h4 => simp only [qq, seval, -Nat.reducePow, reduceIte, reduceCtorEq]; rfl
 case a4 =>
  have hp4 := hb4
  try simp only [kb] at hp4
  refine seq_reg 1 fun L5 hL5 => ?_
  simp only [qq, seval, -Nat.reducePow, reduceIte, reduceCtorEq, hb4]
  refine aops_val (v := ?v6) rfl ?h6 ?_
  case h6 => simp only [qq, seval, -Nat.reducePow, reduceIte, reduceCtorEq, hb4]; first | (rw [wr_id] <;> omega) | rfl
  simp only [qq, seval, -Nat.reducePow, reduceIte, reduceCtorEq, hb4]
  refine aops_val (v := ?v7) rfl ?h7 ?_
  case h7 => simp only [qq, seval, -Nat.reducePow, reduceIte, reduceCtorEq, hb4]; first | (rw [wr_id] <;> omega) | rfl
  simp only [qq, seval, -Nat.reducePow, reduceIte, reduceCtorEq, hb4]
  refine aops_orunN 1 _ _ ?_
  simp only [qq, seval, -Nat.reducePow, reduceIte, reduceCtorEq, hb4]
  refine nil_z hL5 ?_
  as_aux_lemma =>
   refine awp_ret ?_
   try simp only [rk_state]
   refine ⟨_, 0, by simp only [qq, seval, -Nat.reducePow, reduceIte, reduceCtorEq, resA, Try.results97, hb4]; rfl, ?_, nomem_a, nomem_a⟩
   simp only [packA]
   (repeat' (first | exact .nil | exact wkR_c | exact wkR_own | exact wkR_nils | refine wkR_int ?_ | refine wkR_bool ?_ | refine wkR_sl ?_ | refine wkR_osl ?_ | refine wkR_nsl ?_ | refine wkR_oo ?_ | refine wkR_no ?_ | refine .cons ?_ ?_ | refine wkR_agg ?_ | refine wkR_tup ?_)) <;> omega
 case b4 =>
  have hp4 := hb4
  try simp only [kb] at hp4
  refine awp_skip ?_
  refine hK2 _ ?_
  refine seq_reg 1 fun L8 hL8 => ?_
  simp only [qq, seval, -Nat.reducePow, reduceIte, reduceCtorEq, hb4]
  refine aops_val (v := ?v9) rfl ?h9 ?_
  case h9 => simp only [qq, seval, -Nat.reducePow, reduceIte, reduceCtorEq, hb4]; first | (rw [wr_id] <;> omega) | rfl
  simp only [qq, seval, -Nat.reducePow, reduceIte, reduceCtorEq, hb4]
  refine aops_orunN 1 _ _ ?_
  simp only [qq, seval, -Nat.reducePow, reduceIte, reduceCtorEq, hb4]
  refine nil_z hL8 ?_
  refine awp_ret ?_
  try simp only [rk_state]
  refine ⟨_, 0, by simp only [qq, seval, -Nat.reducePow, reduceIte, reduceCtorEq, resA, Try.results97, hb4]; rfl, ?_, nomem_a, nomem_a⟩
  simp only [packA]
  (repeat' (first | exact .nil | exact wkR_c | exact wkR_own | exact wkR_nils | refine wkR_int ?_ | refine wkR_bool ?_ | refine wkR_sl ?_ | refine wkR_osl ?_ | refine wkR_nsl ?_ | refine wkR_oo ?_ | refine wkR_no ?_ | refine .cons ?_ ?_ | refine wkR_agg ?_ | refine wkR_tup ?_)) <;> omega
set_option maxHeartbeats 4000000 in
set_option maxRecDepth 50000 in
theorem zput_fun (l : List Bool) (v : Int) (hl : l.length ≤ 140737488355200) : Fun Try.prog 39 [.c (.sl 4 (Rw boC l)), .c (.int .i64 v)] nomem (.tup [.own false 0 4 (Rw boC (zputR l v).1), .c (.int .i64 (zputR l v).2)]) nomem := by
 have hf := foldN_or v
 refine fun_of_awp Try.func39 rfl (by decide +kernel) (by decide +kernel) (Nat.le_of_ble_eq_true rfl) (fun _ _ => rfl) (fun _ _ => rfl) ?_
 refine seq_reg 2 fun L1 hL1 => ?_
 simp only [qq, seval, -Nat.reducePow, reduceIte, reduceCtorEq]
 refine nil_z hL1 ?_
 refine awp_seq_k fun K2 hK2 => ?_
 refine seq_reg 3 fun L3 hL3 => ?_
 simp only [qq, seval, -Nat.reducePow, reduceIte, reduceCtorEq]
 refine aops_part (b := ?p4) 10 ?h4 (fun hb4 => ?a4) (fun hb4 => ?b4)
 case h4 => simp only [qq, seval, -Nat.reducePow, reduceIte, reduceCtorEq]; rfl
 case a4 =>
  have hp4 := hb4
  try simp only [kb] at hp4
  try simp only [hb4]
  refine aops_orunN 3 _ _ ?_
  simp only [qq, seval, -Nat.reducePow, reduceIte, reduceCtorEq, hb4]
  refine nil_z hL3 ?_
  refine awp_cond (t := true) (by simp only [qq, seval, -Nat.reducePow, reduceIte, reduceCtorEq, hb4]) (fun _ => ?_) (fun h => ?_)
  case refine_2 => cases h
  refine seq_reg 2 fun L5 hL5 => ?_
  simp only [qq, seval, -Nat.reducePow, reduceIte, reduceCtorEq, hb4]
  refine nil_z hL5 ?_
  as_aux_lemma =>
   refine awp_ret ?_
   try simp only [rk_state]
   refine ⟨_, 24, by simp only [qq, seval, -Nat.reducePow, reduceIte, reduceCtorEq, resA, Try.results39, hb4]; rfl, ?_, nomem_a, nomem_a⟩
   simp only [packA]
   (unfold zputR); first | (rw [if_pos (by omega)]; (repeat' (first | exact .nil | exact wkR_c | exact wkR_own | exact wkR_nils | refine wkR_int ?_ | refine wkR_bool ?_ | refine wkR_sl ?_ | refine wkR_osl ?_ | refine wkR_nsl ?_ | refine wkR_oo ?_ | refine wkR_no ?_ | refine .cons ?_ ?_ | refine wkR_agg ?_ | refine wkR_tup ?_)) <;> rfl) | (rw [if_neg (by omega)]; (have hz := zenc_last (f := f) (m := m) (by omega) (by omega)); (repeat' (first | exact .nil | exact wkR_c | exact wkR_own | exact wkR_nils | refine wkR_int ?_ | refine wkR_bool ?_ | refine wkR_sl ?_ | refine wkR_osl ?_ | refine wkR_nsl ?_ | refine wkR_oo ?_ | refine wkR_no ?_ | refine .cons ?_ ?_ | refine wkR_agg ?_ | refine wkR_tup ?_)) <;> first | rfl | (rw [← hz, hq4_3]))
 case b4 =>
  have hp4 := hb4
  try simp only [kb] at hp4
  try simp only [hb4]
  refine aops_orunN 3 _ _ ?_
  simp only [qq, seval, -Nat.reducePow, reduceIte, reduceCtorEq, hb4]
  refine nil_z hL3 ?_
  refine awp_cond (t := ?t6) ?h6 (fun hb6 => ?a6) (fun hb6 => ?b6)
  case h6 => simp only [qq, seval, -Nat.reducePow, reduceIte, reduceCtorEq, hb4]; rfl
  case a6 =>
   have hp6 := hb6
   try simp only [kb] at hp6
   refine seq_reg 2 fun L7 hL7 => ?_
   simp only [qq, seval, -Nat.reducePow, reduceIte, reduceCtorEq, hb4, hb6]
   refine nil_z hL7 ?_
   refine awp_ret ?_
   try simp only [rk_state]
   refine ⟨_, 24, by simp only [qq, seval, -Nat.reducePow, reduceIte, reduceCtorEq, resA, Try.results39, hb4, hb6]; rfl, ?_, nomem_a, nomem_a⟩
   simp only [packA]
   (unfold zputR); first | (rw [if_pos (by omega)]; (repeat' (first | exact .nil | exact wkR_c | exact wkR_own | exact wkR_nils | refine wkR_int ?_ | refine wkR_bool ?_ | refine wkR_sl ?_ | refine wkR_osl ?_ | refine wkR_nsl ?_ | refine wkR_oo ?_ | refine wkR_no ?_ | refine .cons ?_ ?_ | refine wkR_agg ?_ | refine wkR_tup ?_)) <;> rfl) | (rw [if_neg (by omega)]; (have hz := zenc_last (f := f) (m := m) (by omega) (by omega)); (repeat' (first | exact .nil | exact wkR_c | exact wkR_own | exact wkR_nils | refine wkR_int ?_ | refine wkR_bool ?_ | refine wkR_sl ?_ | refine wkR_osl ?_ | refine wkR_nsl ?_ | refine wkR_oo ?_ | refine wkR_no ?_ | refine .cons ?_ ?_ | refine wkR_agg ?_ | refine wkR_tup ?_)) <;> first | rfl | (rw [← hz, hq4_3]))
  case b6 =>
   have hp6 := hb6
   try simp only [kb] at hp6
   refine awp_skip ?_
   refine hK2 _ ?_
   refine seq_reg 1 fun L8 hL8 => ?_
   simp only [qq, seval, -Nat.reducePow, reduceIte, reduceCtorEq, hb4, hb6]
   refine aops_call (fold_fun _ ?s9_0) rfl rfl rfl rfl (by (try simp only [qq, seval, -Nat.reducePow, reduceIte, reduceCtorEq, hb4, hb6]); (repeat' (first | exact .nil | exact wk_c | exact wk_ownc | exact wk_nilsc | exact wk_nils | exact wk_fn | refine .cons ?_ ?_ | refine wk_agg ?_ | refine wk_fnL ?_))) rfl rfl ?m9
   case s9_0 => omega
   simp only [qq, seval, -Nat.reducePow, reduceIte, reduceCtorEq, hb4, hb6]
   refine aops_orunN 1 _ _ ?_
   simp only [qq, seval, -Nat.reducePow, reduceIte, reduceCtorEq, hb4, hb6]
   refine nil_z hL8 ?_
   refine awp_block ?_
   refine awp_loopW (W := [7, 16, 17, 7, 19, 20, 21, 22, 23, 24, 18, 25, 26, 0, 27, 28, 6, 29, 30, 31, 4, 5]) (M := []) rfl rfl (fun kk s => ∃ (f : Nat) (m : Int) (k : List Bool) (x : AV), kk = 1 + f ∧ (0 ≤ m) ∧ (m < 8 ^ f) ∧ (1 ≤ f ∧ f ≤ 8) ∧ (k ++ zenc f m = l ++ zenc 8 (foldN v)) ∧ (k.length + 4 * f ≤ l.length + 32) ∧ (x = .c (.sl 4 (Rw boC k)) ∨ x = .own false 24 4 (Rw boC k)) ∧ s.t 0 = x ∧ s.t 6 = .c (.int .i64 m)) ((fun (f : Nat) (m : Int) (k : List Bool) (x : AV) => 1 + f) (8) (foldN v) (l) (.c (.sl 4 (Rw boC l)))) ?i10 ?r10
   case i10 =>
    refine ⟨8, foldN v, l, .c (.sl 4 (Rw boC l)), rfl, ?_, ?_, ?_, ?_, ?_, ?_, ?_, ?_⟩
    · omega
    · (show _ < (16777216 : Int); omega)
    · omega
    · rfl
    · omega
    · exact .inl rfl
    · (try simp only [qq, seval, -Nat.reducePow, reduceIte, reduceCtorEq, hb4, hb6])
      all_goals (first | done | rfl | (simp only [AV.c.injEq, C.int.injEq, List.cons.injEq, and_true, true_and]; omega))
    · (try simp only [qq, seval, -Nat.reducePow, reduceIte, reduceCtorEq, hb4, hb6])
      all_goals (first | done | rfl | (simp only [AV.c.injEq, C.int.injEq, List.cons.injEq, and_true, true_and]; omega))
   case r10 =>
    rintro kk s hf ⟨f, m, k, x, rfl, hq4_0, hq4_1, hq4_2, hq4_3, hq4_4, hq4_5, s10t0, s10t6⟩ K10 hK10
    clear hf
    refine awp_block ?_
    refine seq_reg 1 fun L11 hL11 => ?_
    simp only [qq, seval, -Nat.reducePow, reduceIte, reduceCtorEq, hb4, hb6, s10t0, s10t6]
    refine nil_z hL11 ?_
    as_aux_lemma =>
     refine awp_seq_k fun K12 hK12 => ?_
     refine seq_reg 2 fun L13 hL13 => ?_
     simp only [qq, seval, -Nat.reducePow, reduceIte, reduceCtorEq, hb4, hb6, s10t0, s10t6]
     refine nil_z hL13 ?_
     refine awp_cond (t := ?t14) ?h14 (fun hb14 => ?a14) (fun hb14 => ?b14)
     case h14 => simp only [qq, seval, -Nat.reducePow, reduceIte, reduceCtorEq, hb4, hb6, s10t0, s10t6]; rfl
     case a14 =>
      have hp14 := hb14
      try simp only [kb] at hp14
      refine reg 1 fun L15 hL15 => ?_
      simp only [qq, seval, -Nat.reducePow, reduceIte, reduceCtorEq, hb4, hb6, s10t0, s10t6, hb14]
      refine nil_q hL15 ?_
      refine hK12 _ ?_
      rcases hq4_5 with hx | hx
      case inl =>
       subst hx
       have sm : m.tmod 8 = m % 8 := Int.tmod_eq_emod_of_nonneg hq4_0
       have sP8 := (putm (k := k) (m := m) hq4_0).1
       have sP0 := (putm (k := k) (m := m) hq4_0).2
       refine seq_reg 3 fun L16 hL16 => ?_
       simp only [qq, seval, -Nat.reducePow, reduceIte, reduceCtorEq, hb4, hb6, s10t0, s10t6, hb14, sm, sP8, sP0]
       refine aops_val (v := ?v17) rfl ?h17 ?_
       case h17 => simp only [qq, seval, -Nat.reducePow, reduceIte, reduceCtorEq, hb4, hb6, s10t0, s10t6, hb14, sm, sP8, sP0]; (rw [y_rem] <;> omega)
       simp only [qq, seval, -Nat.reducePow, reduceIte, reduceCtorEq, hb4, hb6, s10t0, s10t6, hb14, sm, sP8, sP0]
       refine aops_val (v := ?v18) rfl ?h18 ?_
       case h18 => simp only [qq, seval, -Nat.reducePow, reduceIte, reduceCtorEq, hb4, hb6, s10t0, s10t6, hb14, sm, sP8, sP0]; first | (rw [wr_id] <;> omega) | rfl
       simp only [qq, seval, -Nat.reducePow, reduceIte, reduceCtorEq, hb4, hb6, s10t0, s10t6, hb14, sm, sP8, sP0]
       refine aops_call_own (put_fun _ _ _ ?s19_0 ?s19_1) rfl rfl rfl rfl (by (try simp only [qq, seval, -Nat.reducePow, reduceIte, reduceCtorEq, hb4, hb6, s10t0, s10t6, hb14, sm, sP8, sP0]); (repeat' (first | exact .nil | exact wk_c | exact wk_ownc | exact wk_nilsc | exact wk_nils | exact wk_fn | refine .cons ?_ ?_ | refine wk_agg ?_ | refine wk_fnL ?_))) rfl rfl rfl (by simp only [qq, seval, -Nat.reducePow, reduceIte, reduceCtorEq, hb4, hb6, s10t0, s10t6, hb14, sm, sP8, sP0]) ?m19
       case s19_0 => first | assumption | omega | decide +kernel | (simp only [List.length_take, List.length_drop]; omega)
       case s19_1 => omega
       simp only [qq, seval, -Nat.reducePow, reduceIte, reduceCtorEq, AV.setOwn, AV.setOwn1, hb4, hb6, s10t0, s10t6, hb14, sm, sP8, sP0]
       refine aops_orunN 4 _ _ ?_
       simp only [qq, seval, -Nat.reducePow, reduceIte, reduceCtorEq, hb4, hb6, s10t0, s10t6, hb14, sm, sP8, sP0]
       refine aops_nil (hL16 _ ?_)
       simp only [qq, seval, -Nat.reducePow, reduceIte, reduceCtorEq, hb4, hb6, s10t0, s10t6, hb14, sm, sP8, sP0]
       as_aux_lemma =>
        have hp8 := pow8 (k := f) (by omega)
        have sq : m.tdiv 8 = m / 8 := Int.tdiv_eq_ediv_of_nonneg hq4_0
        refine seq_reg 1 fun L20 hL20 => ?_
        simp only [qq, seval, -Nat.reducePow, reduceIte, reduceCtorEq, hb4, hb6, s10t0, s10t6, hb14, sm, sP8, sP0, sq]
        refine aops_val (v := ?v21) rfl ?h21 ?_
        case h21 => simp only [qq, seval, -Nat.reducePow, reduceIte, reduceCtorEq, hb4, hb6, s10t0, s10t6, hb14, sm, sP8, sP0, sq]; (rw [y_quo (by omega), sq, wr_id] <;> omega)
        simp only [qq, seval, -Nat.reducePow, reduceIte, reduceCtorEq, hb4, hb6, s10t0, s10t6, hb14, sm, sP8, sP0, sq]
        refine aops_orunN 1 _ _ ?_
        simp only [qq, seval, -Nat.reducePow, reduceIte, reduceCtorEq, hb4, hb6, s10t0, s10t6, hb14, sm, sP8, sP0, sq]
        refine nil_z hL20 ?_
        refine seq_reg 2 fun L22 hL22 => ?_
        simp only [qq, seval, -Nat.reducePow, reduceIte, reduceCtorEq, hb4, hb6, s10t0, s10t6, hb14, sm, sP8, sP0, sq]
        refine nil_z hL22 ?_
        refine awp_cond (t := ?t23) ?h23 (fun hb23 => ?a23) (fun hb23 => ?b23)
        case h23 => simp only [qq, seval, -Nat.reducePow, reduceIte, reduceCtorEq, hb4, hb6, s10t0, s10t6, hb14, sm, sP8, sP0, sq]; rfl
        case a23 =>
         first | exact absurd hb23 (by decide) | (have hp23 := hb23; (try simp only [kb] at hp23); exfalso; omega)
        case b23 =>
         have hp23 := hb23
         try simp only [kb] at hp23
         refine awp_skip ?_
         try simp only [rk_state]
         try simp only [rk_state]
         have h8 := div8_lt hq4_1 (by omega)
         have hz := zenc_more (f := f) (m := m) (by omega) (by omega)
         refine hK10 _ ((fun (f : Nat) (m : Int) (k : List Bool) (x : AV) => 1 + f) (f - 1) (m / 8) (k ++ bitsN 4 (8 + m % 8)) (.own false 24 4 (Rw boC (k ++ bitsN 4 (8 + m % 8))))) ?_ ⟨f - 1, m / 8, k ++ bitsN 4 (8 + m % 8), .own false 24 4 (Rw boC (k ++ bitsN 4 (8 + m % 8))), rfl, ?_, ?_, ?_, ?_, ?_, ?_, ?_, ?_⟩
         · (try simp only []); omega
         · omega
         · exact h8.2
         · omega
         · (rw [List.append_assoc, ← hz]; exact hq4_3)
         · (rw [List.length_append, bitsN_len]; omega)
         · exact .inr rfl
         · (try simp only [qq, seval, -Nat.reducePow, reduceIte, reduceCtorEq, hb4, hb6, s10t0, s10t6, hb14, sm, sP8, sP0, sq, hb23])
           all_goals (first | done | rfl | (simp only [AV.c.injEq, C.int.injEq, List.cons.injEq, and_true, true_and]; omega))
         · (try simp only [qq, seval, -Nat.reducePow, reduceIte, reduceCtorEq, hb4, hb6, s10t0, s10t6, hb14, sm, sP8, sP0, sq, hb23])
           all_goals (first | done | rfl | (simp only [AV.c.injEq, C.int.injEq, List.cons.injEq, and_true, true_and]; omega))
      case inr =>
       subst hx
       have sm : m.tmod 8 = m % 8 := Int.tmod_eq_emod_of_nonneg hq4_0
       have sP8 := (putm (k := k) (m := m) hq4_0).1
       have sP0 := (putm (k := k) (m := m) hq4_0).2
       refine seq_reg 3 fun L24 hL24 => ?_
       simp only [qq, seval, -Nat.reducePow, reduceIte, reduceCtorEq, hb4, hb6, s10t0, s10t6, hb14, sm, sP8, sP0]
       refine aops_val (v := ?v25) rfl ?h25 ?_
       case h25 => simp only [qq, seval, -Nat.reducePow, reduceIte, reduceCtorEq, hb4, hb6, s10t0, s10t6, hb14, sm, sP8, sP0]; (rw [y_rem] <;> omega)
       simp only [qq, seval, -Nat.reducePow, reduceIte, reduceCtorEq, hb4, hb6, s10t0, s10t6, hb14, sm, sP8, sP0]
       refine aops_val (v := ?v26) rfl ?h26 ?_
       case h26 => simp only [qq, seval, -Nat.reducePow, reduceIte, reduceCtorEq, hb4, hb6, s10t0, s10t6, hb14, sm, sP8, sP0]; first | (rw [wr_id] <;> omega) | rfl
       simp only [qq, seval, -Nat.reducePow, reduceIte, reduceCtorEq, hb4, hb6, s10t0, s10t6, hb14, sm, sP8, sP0]
       refine aops_call_own (put_fun _ _ _ ?s27_0 ?s27_1) rfl rfl rfl rfl (by (try simp only [qq, seval, -Nat.reducePow, reduceIte, reduceCtorEq, hb4, hb6, s10t0, s10t6, hb14, sm, sP8, sP0]); (repeat' (first | exact .nil | exact wk_c | exact wk_ownc | exact wk_nilsc | exact wk_nils | exact wk_fn | refine .cons ?_ ?_ | refine wk_agg ?_ | refine wk_fnL ?_))) rfl rfl rfl (by simp only [qq, seval, -Nat.reducePow, reduceIte, reduceCtorEq, hb4, hb6, s10t0, s10t6, hb14, sm, sP8, sP0]) ?m27
       case s27_0 => first | assumption | omega | decide +kernel | (simp only [List.length_take, List.length_drop]; omega)
       case s27_1 => omega
       simp only [qq, seval, -Nat.reducePow, reduceIte, reduceCtorEq, AV.setOwn, AV.setOwn1, hb4, hb6, s10t0, s10t6, hb14, sm, sP8, sP0]
       refine aops_orunN 4 _ _ ?_
       simp only [qq, seval, -Nat.reducePow, reduceIte, reduceCtorEq, hb4, hb6, s10t0, s10t6, hb14, sm, sP8, sP0]
       refine aops_nil (hL24 _ ?_)
       simp only [qq, seval, -Nat.reducePow, reduceIte, reduceCtorEq, hb4, hb6, s10t0, s10t6, hb14, sm, sP8, sP0]
       as_aux_lemma =>
        have hp8 := pow8 (k := f) (by omega)
        have sq : m.tdiv 8 = m / 8 := Int.tdiv_eq_ediv_of_nonneg hq4_0
        refine seq_reg 1 fun L28 hL28 => ?_
        simp only [qq, seval, -Nat.reducePow, reduceIte, reduceCtorEq, hb4, hb6, s10t0, s10t6, hb14, sm, sP8, sP0, sq]
        refine aops_val (v := ?v29) rfl ?h29 ?_
        case h29 => simp only [qq, seval, -Nat.reducePow, reduceIte, reduceCtorEq, hb4, hb6, s10t0, s10t6, hb14, sm, sP8, sP0, sq]; (rw [y_quo (by omega), sq, wr_id] <;> omega)
        simp only [qq, seval, -Nat.reducePow, reduceIte, reduceCtorEq, hb4, hb6, s10t0, s10t6, hb14, sm, sP8, sP0, sq]
        refine aops_orunN 1 _ _ ?_
        simp only [qq, seval, -Nat.reducePow, reduceIte, reduceCtorEq, hb4, hb6, s10t0, s10t6, hb14, sm, sP8, sP0, sq]
        refine nil_z hL28 ?_
        refine seq_reg 2 fun L30 hL30 => ?_
        simp only [qq, seval, -Nat.reducePow, reduceIte, reduceCtorEq, hb4, hb6, s10t0, s10t6, hb14, sm, sP8, sP0, sq]
        refine nil_z hL30 ?_
        refine awp_cond (t := ?t31) ?h31 (fun hb31 => ?a31) (fun hb31 => ?b31)
        case h31 => simp only [qq, seval, -Nat.reducePow, reduceIte, reduceCtorEq, hb4, hb6, s10t0, s10t6, hb14, sm, sP8, sP0, sq]; rfl
        case a31 =>
         first | exact absurd hb31 (by decide) | (have hp31 := hb31; (try simp only [kb] at hp31); exfalso; omega)
        case b31 =>
         have hp31 := hb31
         try simp only [kb] at hp31
         refine awp_skip ?_
         try simp only [rk_state]
         try simp only [rk_state]
         have h8 := div8_lt hq4_1 (by omega)
         have hz := zenc_more (f := f) (m := m) (by omega) (by omega)
         refine hK10 _ ((fun (f : Nat) (m : Int) (k : List Bool) (x : AV) => 1 + f) (f - 1) (m / 8) (k ++ bitsN 4 (8 + m % 8)) (.own false 24 4 (Rw boC (k ++ bitsN 4 (8 + m % 8))))) ?_ ⟨f - 1, m / 8, k ++ bitsN 4 (8 + m % 8), .own false 24 4 (Rw boC (k ++ bitsN 4 (8 + m % 8))), rfl, ?_, ?_, ?_, ?_, ?_, ?_, ?_, ?_⟩
         · (try simp only []); omega
         · omega
         · exact h8.2
         · omega
         · (rw [List.append_assoc, ← hz]; exact hq4_3)
         · (rw [List.length_append, bitsN_len]; omega)
         · exact .inr rfl
         · (try simp only [qq, seval, -Nat.reducePow, reduceIte, reduceCtorEq, hb4, hb6, s10t0, s10t6, hb14, sm, sP8, sP0, sq, hb31])
           all_goals (first | done | rfl | (simp only [AV.c.injEq, C.int.injEq, List.cons.injEq, and_true, true_and]; omega))
         · (try simp only [qq, seval, -Nat.reducePow, reduceIte, reduceCtorEq, hb4, hb6, s10t0, s10t6, hb14, sm, sP8, sP0, sq, hb31])
           all_goals (first | done | rfl | (simp only [AV.c.injEq, C.int.injEq, List.cons.injEq, and_true, true_and]; omega))
     case b14 =>
      have hp14 := hb14
      try simp only [kb] at hp14
      refine awp_skip ?_
      refine hK12 _ ?_
      as_aux_lemma =>
       rcases hq4_5 with hx | hx
       case inl =>
        subst hx
        have sm : m.tmod 8 = m % 8 := Int.tmod_eq_emod_of_nonneg hq4_0
        have sP8 := (putm (k := k) (m := m) hq4_0).1
        have sP0 := (putm (k := k) (m := m) hq4_0).2
        refine seq_reg 3 fun L32 hL32 => ?_
        simp only [qq, seval, -Nat.reducePow, reduceIte, reduceCtorEq, hb4, hb6, s10t0, s10t6, hb14, sm, sP8, sP0]
        refine aops_val (v := ?v33) rfl ?h33 ?_
        case h33 => simp only [qq, seval, -Nat.reducePow, reduceIte, reduceCtorEq, hb4, hb6, s10t0, s10t6, hb14, sm, sP8, sP0]; (rw [y_rem] <;> omega)
        simp only [qq, seval, -Nat.reducePow, reduceIte, reduceCtorEq, hb4, hb6, s10t0, s10t6, hb14, sm, sP8, sP0]
        refine aops_val (v := ?v34) rfl ?h34 ?_
        case h34 => simp only [qq, seval, -Nat.reducePow, reduceIte, reduceCtorEq, hb4, hb6, s10t0, s10t6, hb14, sm, sP8, sP0]; first | (rw [wr_id] <;> omega) | rfl
        simp only [qq, seval, -Nat.reducePow, reduceIte, reduceCtorEq, hb4, hb6, s10t0, s10t6, hb14, sm, sP8, sP0]
        refine aops_call_own (put_fun _ _ _ ?s35_0 ?s35_1) rfl rfl rfl rfl (by (try simp only [qq, seval, -Nat.reducePow, reduceIte, reduceCtorEq, hb4, hb6, s10t0, s10t6, hb14, sm, sP8, sP0]); (repeat' (first | exact .nil | exact wk_c | exact wk_ownc | exact wk_nilsc | exact wk_nils | exact wk_fn | refine .cons ?_ ?_ | refine wk_agg ?_ | refine wk_fnL ?_))) rfl rfl rfl (by simp only [qq, seval, -Nat.reducePow, reduceIte, reduceCtorEq, hb4, hb6, s10t0, s10t6, hb14, sm, sP8, sP0]) ?m35
        case s35_0 => first | assumption | omega | decide +kernel | (simp only [List.length_take, List.length_drop]; omega)
        case s35_1 => omega
        simp only [qq, seval, -Nat.reducePow, reduceIte, reduceCtorEq, AV.setOwn, AV.setOwn1, hb4, hb6, s10t0, s10t6, hb14, sm, sP8, sP0]
        refine aops_orunN 4 _ _ ?_
        simp only [qq, seval, -Nat.reducePow, reduceIte, reduceCtorEq, hb4, hb6, s10t0, s10t6, hb14, sm, sP8, sP0]
        refine aops_nil (hL32 _ ?_)
        simp only [qq, seval, -Nat.reducePow, reduceIte, reduceCtorEq, hb4, hb6, s10t0, s10t6, hb14, sm, sP8, sP0]
        have hp8 := pow8 (k := f) (by omega)
        have sq : m.tdiv 8 = m / 8 := Int.tdiv_eq_ediv_of_nonneg hq4_0
        refine seq_reg 1 fun L36 hL36 => ?_
        simp only [qq, seval, -Nat.reducePow, reduceIte, reduceCtorEq, hb4, hb6, s10t0, s10t6, hb14, sm, sP8, sP0, sq]
        refine aops_val (v := ?v37) rfl ?h37 ?_
        case h37 => simp only [qq, seval, -Nat.reducePow, reduceIte, reduceCtorEq, hb4, hb6, s10t0, s10t6, hb14, sm, sP8, sP0, sq]; (rw [y_quo (by omega), sq, wr_id] <;> omega)
        simp only [qq, seval, -Nat.reducePow, reduceIte, reduceCtorEq, hb4, hb6, s10t0, s10t6, hb14, sm, sP8, sP0, sq]
        refine aops_orunN 1 _ _ ?_
        simp only [qq, seval, -Nat.reducePow, reduceIte, reduceCtorEq, hb4, hb6, s10t0, s10t6, hb14, sm, sP8, sP0, sq]
        refine nil_z hL36 ?_
        as_aux_lemma =>
         refine seq_reg 2 fun L38 hL38 => ?_
         simp only [qq, seval, -Nat.reducePow, reduceIte, reduceCtorEq, hb4, hb6, s10t0, s10t6, hb14, sm, sP8, sP0, sq]
         refine nil_z hL38 ?_
         refine awp_cond (t := ?t39) ?h39 (fun hb39 => ?a39) (fun hb39 => ?b39)
         case h39 => simp only [qq, seval, -Nat.reducePow, reduceIte, reduceCtorEq, hb4, hb6, s10t0, s10t6, hb14, sm, sP8, sP0, sq]; rfl
         case a39 =>
          have hp39 := hb39
          try simp only [kb] at hp39
          refine seq_reg 3 fun L40 hL40 => ?_
          simp only [qq, seval, -Nat.reducePow, reduceIte, reduceCtorEq, hb4, hb6, s10t0, s10t6, hb14, sm, sP8, sP0, sq, hb39]
          refine nil_z hL40 ?_
          refine awp_ret ?_
          try simp only [rk_state]
          refine ⟨_, 24, by simp only [qq, seval, -Nat.reducePow, reduceIte, reduceCtorEq, resA, Try.results39, hb4, hb6, s10t0, s10t6, hb14, sm, sP8, sP0, sq, hb39]; rfl, ?_, nomem_a, nomem_a⟩
          simp only [packA]
          (unfold zputR); first | (rw [if_pos (by omega)]; (repeat' (first | exact .nil | exact wkR_c | exact wkR_own | exact wkR_nils | refine wkR_int ?_ | refine wkR_bool ?_ | refine wkR_sl ?_ | refine wkR_osl ?_ | refine wkR_nsl ?_ | refine wkR_oo ?_ | refine wkR_no ?_ | refine .cons ?_ ?_ | refine wkR_agg ?_ | refine wkR_tup ?_)) <;> rfl) | (rw [if_neg (by omega)]; (have hz := zenc_last (f := f) (m := m) (by omega) (by omega)); (repeat' (first | exact .nil | exact wkR_c | exact wkR_own | exact wkR_nils | refine wkR_int ?_ | refine wkR_bool ?_ | refine wkR_sl ?_ | refine wkR_osl ?_ | refine wkR_nsl ?_ | refine wkR_oo ?_ | refine wkR_no ?_ | refine .cons ?_ ?_ | refine wkR_agg ?_ | refine wkR_tup ?_)) <;> first | rfl | (rw [← hz, hq4_3]))
         case b39 =>
          first | exact absurd hb39 (by decide) | (have hp39 := hb39; (try simp only [kb] at hp39); exfalso; omega)
       case inr =>
        subst hx
        have sm : m.tmod 8 = m % 8 := Int.tmod_eq_emod_of_nonneg hq4_0
        have sP8 := (putm (k := k) (m := m) hq4_0).1
        have sP0 := (putm (k := k) (m := m) hq4_0).2
        refine seq_reg 3 fun L41 hL41 => ?_
        simp only [qq, seval, -Nat.reducePow, reduceIte, reduceCtorEq, hb4, hb6, s10t0, s10t6, hb14, sm, sP8, sP0]
        refine aops_val (v := ?v42) rfl ?h42 ?_
        case h42 => simp only [qq, seval, -Nat.reducePow, reduceIte, reduceCtorEq, hb4, hb6, s10t0, s10t6, hb14, sm, sP8, sP0]; (rw [y_rem] <;> omega)
        simp only [qq, seval, -Nat.reducePow, reduceIte, reduceCtorEq, hb4, hb6, s10t0, s10t6, hb14, sm, sP8, sP0]
        refine aops_val (v := ?v43) rfl ?h43 ?_
        case h43 => simp only [qq, seval, -Nat.reducePow, reduceIte, reduceCtorEq, hb4, hb6, s10t0, s10t6, hb14, sm, sP8, sP0]; first | (rw [wr_id] <;> omega) | rfl
        simp only [qq, seval, -Nat.reducePow, reduceIte, reduceCtorEq, hb4, hb6, s10t0, s10t6, hb14, sm, sP8, sP0]
        refine aops_call_own (put_fun _ _ _ ?s44_0 ?s44_1) rfl rfl rfl rfl (by (try simp only [qq, seval, -Nat.reducePow, reduceIte, reduceCtorEq, hb4, hb6, s10t0, s10t6, hb14, sm, sP8, sP0]); (repeat' (first | exact .nil | exact wk_c | exact wk_ownc | exact wk_nilsc | exact wk_nils | exact wk_fn | refine .cons ?_ ?_ | refine wk_agg ?_ | refine wk_fnL ?_))) rfl rfl rfl (by simp only [qq, seval, -Nat.reducePow, reduceIte, reduceCtorEq, hb4, hb6, s10t0, s10t6, hb14, sm, sP8, sP0]) ?m44
        case s44_0 => first | assumption | omega | decide +kernel | (simp only [List.length_take, List.length_drop]; omega)
        case s44_1 => omega
        simp only [qq, seval, -Nat.reducePow, reduceIte, reduceCtorEq, AV.setOwn, AV.setOwn1, hb4, hb6, s10t0, s10t6, hb14, sm, sP8, sP0]
        refine aops_orunN 4 _ _ ?_
        simp only [qq, seval, -Nat.reducePow, reduceIte, reduceCtorEq, hb4, hb6, s10t0, s10t6, hb14, sm, sP8, sP0]
        refine aops_nil (hL41 _ ?_)
        simp only [qq, seval, -Nat.reducePow, reduceIte, reduceCtorEq, hb4, hb6, s10t0, s10t6, hb14, sm, sP8, sP0]
        have hp8 := pow8 (k := f) (by omega)
        have sq : m.tdiv 8 = m / 8 := Int.tdiv_eq_ediv_of_nonneg hq4_0
        refine seq_reg 1 fun L45 hL45 => ?_
        simp only [qq, seval, -Nat.reducePow, reduceIte, reduceCtorEq, hb4, hb6, s10t0, s10t6, hb14, sm, sP8, sP0, sq]
        refine aops_val (v := ?v46) rfl ?h46 ?_
        case h46 => simp only [qq, seval, -Nat.reducePow, reduceIte, reduceCtorEq, hb4, hb6, s10t0, s10t6, hb14, sm, sP8, sP0, sq]; (rw [y_quo (by omega), sq, wr_id] <;> omega)
        simp only [qq, seval, -Nat.reducePow, reduceIte, reduceCtorEq, hb4, hb6, s10t0, s10t6, hb14, sm, sP8, sP0, sq]
        refine aops_orunN 1 _ _ ?_
        simp only [qq, seval, -Nat.reducePow, reduceIte, reduceCtorEq, hb4, hb6, s10t0, s10t6, hb14, sm, sP8, sP0, sq]
        refine nil_z hL45 ?_
        as_aux_lemma =>
         refine seq_reg 2 fun L47 hL47 => ?_
         simp only [qq, seval, -Nat.reducePow, reduceIte, reduceCtorEq, hb4, hb6, s10t0, s10t6, hb14, sm, sP8, sP0, sq]
         refine nil_z hL47 ?_
         refine awp_cond (t := ?t48) ?h48 (fun hb48 => ?a48) (fun hb48 => ?b48)
         case h48 => simp only [qq, seval, -Nat.reducePow, reduceIte, reduceCtorEq, hb4, hb6, s10t0, s10t6, hb14, sm, sP8, sP0, sq]; rfl
         case a48 =>
          have hp48 := hb48
          try simp only [kb] at hp48
          refine seq_reg 3 fun L49 hL49 => ?_
          simp only [qq, seval, -Nat.reducePow, reduceIte, reduceCtorEq, hb4, hb6, s10t0, s10t6, hb14, sm, sP8, sP0, sq, hb48]
          refine nil_z hL49 ?_
          refine awp_ret ?_
          try simp only [rk_state]
          refine ⟨_, 24, by simp only [qq, seval, -Nat.reducePow, reduceIte, reduceCtorEq, resA, Try.results39, hb4, hb6, s10t0, s10t6, hb14, sm, sP8, sP0, sq, hb48]; rfl, ?_, nomem_a, nomem_a⟩
          simp only [packA]
          (unfold zputR); first | (rw [if_pos (by omega)]; (repeat' (first | exact .nil | exact wkR_c | exact wkR_own | exact wkR_nils | refine wkR_int ?_ | refine wkR_bool ?_ | refine wkR_sl ?_ | refine wkR_osl ?_ | refine wkR_nsl ?_ | refine wkR_oo ?_ | refine wkR_no ?_ | refine .cons ?_ ?_ | refine wkR_agg ?_ | refine wkR_tup ?_)) <;> rfl) | (rw [if_neg (by omega)]; (have hz := zenc_last (f := f) (m := m) (by omega) (by omega)); (repeat' (first | exact .nil | exact wkR_c | exact wkR_own | exact wkR_nils | refine wkR_int ?_ | refine wkR_bool ?_ | refine wkR_sl ?_ | refine wkR_osl ?_ | refine wkR_nsl ?_ | refine wkR_oo ?_ | refine wkR_no ?_ | refine .cons ?_ ?_ | refine wkR_agg ?_ | refine wkR_tup ?_)) <;> first | rfl | (rw [← hz, hq4_3]))
         case b48 =>
          first | exact absurd hb48 (by decide) | (have hp48 := hb48; (try simp only [kb] at hp48); exfalso; omega)
set_option maxHeartbeats 4000000 in
set_option maxRecDepth 50000 in
theorem zread_fun (l : List Bool) (hl : l.length ≤ 140737488355200) : Fun Try.prog 98 [.c (.sl 4 (Rw boC l))] nomem (.tup [.c (.int .i64 (zreadR l).1), .c (.int .i64 (zreadR l).2.1), .c (.int .i64 (zreadR l).2.2)]) nomem := by
 refine fun_of_awp Try.func98 rfl (by decide +kernel) (by decide +kernel) (Nat.le_of_ble_eq_true rfl) (fun _ _ => rfl) (fun _ _ => rfl) ?_
 refine seq_reg 3 fun L1 hL1 => ?_
 simp only [qq, seval, -Nat.reducePow, reduceIte, reduceCtorEq]
 refine nil_z hL1 ?_
 refine seq_reg 2 fun L2 hL2 => ?_
 simp only [qq, seval, -Nat.reducePow, reduceIte, reduceCtorEq]
 refine nil_z hL2 ?_
 refine awp_seq_k fun K3 hK3 => ?_
 refine seq_reg 1 fun L4 hL4 => ?_
 simp only [qq, seval, -Nat.reducePow, reduceIte, reduceCtorEq]
 refine nil_z hL4 ?_
 as_aux_lemma =>
  refine awp_block ?_
  refine awp_loopW (W := [11, 12, 7, 14, 15, 16, 17, 18, 19, 20, 21, 13, 22, 23, 8, 9, 24, 25, 26, 2, 3, 4, 27, 28, 29, 30, 31, 32, 2, 3, 4, 33, 34, 35, 36, 37, 38, 39, 40, 5, 6, 41, 42, 2, 3, 4, 43, 44, 45, 46, 47, 48, 49, 50, 51, 52, 53, 54, 2, 3, 4, 55, 56, 57, 58, 59, 2, 3, 4, 60, 10]) (M := []) rfl rfl (fun kk s => ∃ (k : Nat) (n : Int), kk = 8 - k ∧ (k ≤ 8) ∧ (0 ≤ n ∧ n ≤ 8000000) ∧ (zread (8 - k) k n (8 ^ k) (l.drop (4 * k)) = zreadR l) ∧ s.t 5 = .c (.int .i64 n) ∧ s.t 6 = .c (.int .i64 (8 ^ k)) ∧ s.t 10 = .c (.int .i64 (k : Int))) ((fun (k : Nat) (n : Int) => 8 - k) (0) (0)) ?i5 ?r5
  case i5 =>
   refine ⟨0, 0, rfl, ?_, ?_, ?_, ?_, ?_, ?_⟩
   · omega
   · omega
   · rfl
   · (try simp only [qq, seval, -Nat.reducePow, reduceIte, reduceCtorEq])
     all_goals (first | done | rfl | (simp only [AV.c.injEq, C.int.injEq, List.cons.injEq, and_true, true_and]; omega))
   · (try simp only [qq, seval, -Nat.reducePow, reduceIte, reduceCtorEq])
     all_goals (first | done | rfl | (simp only [AV.c.injEq, C.int.injEq, List.cons.injEq, and_true, true_and]; omega))
   · (try simp only [qq, seval, -Nat.reducePow, reduceIte, reduceCtorEq])
     all_goals (first | done | rfl | (simp only [AV.c.injEq, C.int.injEq, List.cons.injEq, and_true, true_and]; omega))
  case r5 =>
   rintro kk s hf ⟨k, n, rfl, hq3_0, hq3_1, hq3_2, s5t5, s5t6, s5t10⟩ K5 hK5
   have s5f0 := hf 0 rfl (by (try simp only [qq, seval, -Nat.reducePow, reduceIte, reduceCtorEq, kn]); all_goals rfl)
   simp only [qq, seval, -Nat.reducePow, reduceIte, reduceCtorEq] at s5f0
   clear hf
   refine seq_reg 1 fun L6 hL6 => ?_
   simp only [qq, seval, -Nat.reducePow, reduceIte, reduceCtorEq, s5t5, s5t6, s5t10, s5f0]
   refine nil_z hL6 ?_
   refine awp_seq_k fun K7 hK7 => ?_
   refine awp_cond (t := ?t8) ?h8 (fun hb8 => ?a8) (fun hb8 => ?b8)
   case h8 => simp only [qq, seval, -Nat.reducePow, reduceIte, reduceCtorEq, s5t5, s5t6, s5t10, s5f0]; rfl
   case a8 =>
    have hp8 := hb8
    try simp only [kb] at hp8
    refine awp_skip ?_
    refine hK7 _ ?_
    refine awp_seq_k fun K9 hK9 => ?_
    refine awp_block ?_
    refine seq_reg 2 fun L10 hL10 => ?_
    simp only [qq, seval, -Nat.reducePow, reduceIte, reduceCtorEq, s5t5, s5t6, s5t10, s5f0, hb8]
    refine nil_z hL10 ?_
    refine seq_reg 4 fun L11 hL11 => ?_
    simp only [qq, seval, -Nat.reducePow, reduceIte, reduceCtorEq, s5t5, s5t6, s5t10, s5f0, hb8]
    refine aops_val (v := ?v12) rfl ?h12 ?_
    case h12 => simp only [qq, seval, -Nat.reducePow, reduceIte, reduceCtorEq, s5t5, s5t6, s5t10, s5f0, hb8]; first | (rw [wr_id] <;> omega) | rfl
    simp only [qq, seval, -Nat.reducePow, reduceIte, reduceCtorEq, s5t5, s5t6, s5t10, s5f0, hb8]
    refine aops_orunN 1 _ _ ?_
    simp only [qq, seval, -Nat.reducePow, reduceIte, reduceCtorEq, s5t5, s5t6, s5t10, s5f0, hb8]
    refine aops_val (v := ?v13) rfl ?h13 ?_
    case h13 => simp only [qq, seval, -Nat.reducePow, reduceIte, reduceCtorEq, s5t5, s5t6, s5t10, s5f0, hb8]; first | (rw [slc_l un36 if4] <;> omega) | (rw [slc_lo un36 if4] <;> omega)
    simp only [qq, seval, -Nat.reducePow, reduceIte, reduceCtorEq, s5t5, s5t6, s5t10, s5f0, hb8]
    have sD : l.drop (min (l.length : Int) (4 * (k : Int))).toNat = (l.drop (4 * k)) := by
      by_cases hc : 4 * k ≤ l.length
      · congr 1; omega
      · rw [List.drop_of_length_le (by omega), List.drop_of_length_le (by omega)]
    refine aops_call (read_fun _ _) rfl rfl rfl rfl (by (try simp only [qq, seval, -Nat.reducePow, reduceIte, reduceCtorEq, s5t5, s5t6, s5t10, s5f0, hb8, sD]); (repeat' (first | exact .nil | exact wk_c | exact wk_ownc | exact wk_nilsc | exact wk_nils | exact wk_fn | refine .cons ?_ ?_ | refine wk_agg ?_ | refine wk_fnL ?_))) rfl rfl ?_
    simp only [qq, seval, -Nat.reducePow, reduceIte, reduceCtorEq, s5t5, s5t6, s5t10, s5f0, hb8, sD]
    refine aops_orunN 5 _ _ ?_
    simp only [qq, seval, -Nat.reducePow, reduceIte, reduceCtorEq, s5t5, s5t6, s5t10, s5f0, hb8, sD]
    refine nil_z hL11 ?_
    as_aux_lemma =>
     refine awp_seq_k fun K15 hK15 => ?_
     have hrd := rd4 (l.drop (4 * k))
     have hp8 := pow8 (k := k) (by omega)
     refine seq_reg 2 fun L16 hL16 => ?_
     simp only [qq, seval, -Nat.reducePow, reduceIte, reduceCtorEq, s5t5, s5t6, s5t10, s5f0, hb8, sD]
     refine nil_z hL16 ?_
     refine awp_cond (t := ?t17) ?h17 (fun hb17 => ?a17) (fun hb17 => ?b17)
     case h17 => simp only [qq, seval, -Nat.reducePow, reduceIte, reduceCtorEq, s5t5, s5t6, s5t10, s5f0, hb8, sD]; rfl
     case a17 =>
      have hp17 := hb17
      try simp only [kb] at hp17
      refine seq_reg 4 fun L18 hL18 => ?_
      simp only [qq, seval, -Nat.reducePow, reduceIte, reduceCtorEq, s5t5, s5t6, s5t10, s5f0, hb8, sD, hb17]
      refine nil_z hL18 ?_
      refine awp_ret ?_
      try simp only [rk_state]
      refine ⟨_, 0, by simp only [qq, seval, -Nat.reducePow, reduceIte, reduceCtorEq, resA, Try.results98, s5t5, s5t6, s5t10, s5f0, hb8, sD, hb17]; rfl, ?_, nomem_a, nomem_a⟩
      simp only [packA]
      rw [← hq3_2]; first | (rw [zr_torn (by omega) (by omega)]; (repeat' (first | exact .nil | exact wkR_c | exact wkR_own | exact wkR_nils | refine wkR_int ?_ | refine wkR_bool ?_ | refine wkR_sl ?_ | refine wkR_osl ?_ | refine wkR_nsl ?_ | refine wkR_oo ?_ | refine wkR_no ?_ | refine .cons ?_ ?_ | refine wkR_agg ?_ | refine wkR_tup ?_)) <;> first | rfl | omega | (dsimp only; omega)) | (rw [zr_form (by omega) (by omega) (by omega) (by omega)]; (repeat' (first | exact .nil | exact wkR_c | exact wkR_own | exact wkR_nils | refine wkR_int ?_ | refine wkR_bool ?_ | refine wkR_sl ?_ | refine wkR_osl ?_ | refine wkR_nsl ?_ | refine wkR_oo ?_ | refine wkR_no ?_ | refine .cons ?_ ?_ | refine wkR_agg ?_ | refine wkR_tup ?_)) <;> first | rfl | omega | (dsimp only; omega)) | (rw [zr_range (by omega) (by omega) (by omega) (by omega)]; (repeat' (first | exact .nil | exact wkR_c | exact wkR_own | exact wkR_nils | refine wkR_int ?_ | refine wkR_bool ?_ | refine wkR_sl ?_ | refine wkR_osl ?_ | refine wkR_nsl ?_ | refine wkR_oo ?_ | refine wkR_no ?_ | refine .cons ?_ ?_ | refine wkR_agg ?_ | refine wkR_tup ?_)) <;> first | rfl | omega | (dsimp only; omega)) | (rw [zr_done (by omega) (by omega) (by omega) (by omega) (by omega)]; (repeat' (first | exact .nil | exact wkR_c | exact wkR_own | exact wkR_nils | refine wkR_int ?_ | refine wkR_bool ?_ | refine wkR_sl ?_ | refine wkR_osl ?_ | refine wkR_nsl ?_ | refine wkR_oo ?_ | refine wkR_no ?_ | refine .cons ?_ ?_ | refine wkR_agg ?_ | refine wkR_tup ?_)) <;> first | rfl | omega | (dsimp only; omega)) | (rw [show 8 - k = 0 from by omega, zr_zero]; (repeat' (first | exact .nil | exact wkR_c | exact wkR_own | exact wkR_nils | refine wkR_int ?_ | refine wkR_bool ?_ | refine wkR_sl ?_ | refine wkR_osl ?_ | refine wkR_nsl ?_ | refine wkR_oo ?_ | refine wkR_no ?_ | refine .cons ?_ ?_ | refine wkR_agg ?_ | refine wkR_tup ?_)) <;> first | rfl | omega | (dsimp only; omega))
     case b17 =>
      have hp17 := hb17
      try simp only [kb] at hp17
      refine awp_skip ?_
      refine hK15 _ ?_
      refine awp_seq_k fun K19 hK19 => ?_
      refine seq_reg 3 fun L20 hL20 => ?_
      simp only [qq, seval, -Nat.reducePow, reduceIte, reduceCtorEq, s5t5, s5t6, s5t10, s5f0, hb8, sD, hb17]
      refine aops_part (b := ?p21) 29 ?h21 (fun hb21 => ?a21) (fun hb21 => ?b21)
      case h21 => simp only [qq, seval, -Nat.reducePow, reduceIte, reduceCtorEq, s5t5, s5t6, s5t10, s5f0, hb8, sD, hb17]; rfl
      case a21 =>
       have hp21 := hb21
       try simp only [kb] at hp21
       try simp only [hb21]
       refine aops_orunN 3 _ _ ?_
       simp only [qq, seval, -Nat.reducePow, reduceIte, reduceCtorEq, s5t5, s5t6, s5t10, s5f0, hb8, sD, hb17, hb21]
       refine nil_z hL20 ?_
       as_aux_lemma =>
        refine awp_cond (t := ?t22) ?h22 (fun hb22 => ?a22) (fun hb22 => ?b22)
        case h22 => simp only [qq, seval, -Nat.reducePow, reduceIte, reduceCtorEq, s5t5, s5t6, s5t10, s5f0, hb8, sD, hb17, hb21]; rfl
        case a22 =>
         have hp22 := hb22
         try simp only [kb] at hp22
         refine seq_reg 3 fun L23 hL23 => ?_
         simp only [qq, seval, -Nat.reducePow, reduceIte, reduceCtorEq, s5t5, s5t6, s5t10, s5f0, hb8, sD, hb17, hb21, hb22]
         refine nil_z hL23 ?_
         refine awp_ret ?_
         try simp only [rk_state]
         refine ⟨_, 0, by simp only [qq, seval, -Nat.reducePow, reduceIte, reduceCtorEq, resA, Try.results98, s5t5, s5t6, s5t10, s5f0, hb8, sD, hb17, hb21, hb22]; rfl, ?_, nomem_a, nomem_a⟩
         simp only [packA]
         rw [← hq3_2]; first | (rw [zr_torn (by omega) (by omega)]; (repeat' (first | exact .nil | exact wkR_c | exact wkR_own | exact wkR_nils | refine wkR_int ?_ | refine wkR_bool ?_ | refine wkR_sl ?_ | refine wkR_osl ?_ | refine wkR_nsl ?_ | refine wkR_oo ?_ | refine wkR_no ?_ | refine .cons ?_ ?_ | refine wkR_agg ?_ | refine wkR_tup ?_)) <;> first | rfl | omega | (dsimp only; omega)) | (rw [zr_form (by omega) (by omega) (by omega) (by omega)]; (repeat' (first | exact .nil | exact wkR_c | exact wkR_own | exact wkR_nils | refine wkR_int ?_ | refine wkR_bool ?_ | refine wkR_sl ?_ | refine wkR_osl ?_ | refine wkR_nsl ?_ | refine wkR_oo ?_ | refine wkR_no ?_ | refine .cons ?_ ?_ | refine wkR_agg ?_ | refine wkR_tup ?_)) <;> first | rfl | omega | (dsimp only; omega)) | (rw [zr_range (by omega) (by omega) (by omega) (by omega)]; (repeat' (first | exact .nil | exact wkR_c | exact wkR_own | exact wkR_nils | refine wkR_int ?_ | refine wkR_bool ?_ | refine wkR_sl ?_ | refine wkR_osl ?_ | refine wkR_nsl ?_ | refine wkR_oo ?_ | refine wkR_no ?_ | refine .cons ?_ ?_ | refine wkR_agg ?_ | refine wkR_tup ?_)) <;> first | rfl | omega | (dsimp only; omega)) | (rw [zr_done (by omega) (by omega) (by omega) (by omega) (by omega)]; (repeat' (first | exact .nil | exact wkR_c | exact wkR_own | exact wkR_nils | refine wkR_int ?_ | refine wkR_bool ?_ | refine wkR_sl ?_ | refine wkR_osl ?_ | refine wkR_nsl ?_ | refine wkR_oo ?_ | refine wkR_no ?_ | refine .cons ?_ ?_ | refine wkR_agg ?_ | refine wkR_tup ?_)) <;> first | rfl | omega | (dsimp only; omega)) | (rw [show 8 - k = 0 from by omega, zr_zero]; (repeat' (first | exact .nil | exact wkR_c | exact wkR_own | exact wkR_nils | refine wkR_int ?_ | refine wkR_bool ?_ | refine wkR_sl ?_ | refine wkR_osl ?_ | refine wkR_nsl ?_ | refine wkR_oo ?_ | refine wkR_no ?_ | refine .cons ?_ ?_ | refine wkR_agg ?_ | refine wkR_tup ?_)) <;> first | rfl | omega | (dsimp only; omega))
        case b22 =>
         have hp22 := hb22
         try simp only [kb] at hp22
         refine awp_skip ?_
         refine hK19 _ ?_
         refine awp_seq_k fun K24 hK24 => ?_
         have sm : (readR (l.drop (4 * k)) 4).1.tmod 8 = (readR (l.drop (4 * k)) 4).1 % 8 := Int.tmod_eq_emod_of_nonneg (by omega)
         have hmb := mul_bd (a := (readR (l.drop (4 * k)) 4).1 % 8) (b := 8 ^ k) (c := 16777216) (by omega) (by omega) (by omega) (by omega)
         refine seq_reg 2 fun L25 hL25 => ?_
         simp only [qq, seval, -Nat.reducePow, reduceIte, reduceCtorEq, s5t5, s5t6, s5t10, s5f0, hb8, sD, hb17, hb21, hb22, sm]
         refine aops_val (v := ?v26) rfl ?h26 ?_
         case h26 => simp only [qq, seval, -Nat.reducePow, reduceIte, reduceCtorEq, s5t5, s5t6, s5t10, s5f0, hb8, sD, hb17, hb21, hb22, sm]; (rw [y_rem] <;> omega)
         simp only [qq, seval, -Nat.reducePow, reduceIte, reduceCtorEq, s5t5, s5t6, s5t10, s5f0, hb8, sD, hb17, hb21, hb22, sm]
         refine aops_orunN 1 _ _ ?_
         simp only [qq, seval, -Nat.reducePow, reduceIte, reduceCtorEq, s5t5, s5t6, s5t10, s5f0, hb8, sD, hb17, hb21, hb22, sm]
         refine aops_val (v := ?v27) rfl ?h27 ?_
         case h27 => simp only [qq, seval, -Nat.reducePow, reduceIte, reduceCtorEq, s5t5, s5t6, s5t10, s5f0, hb8, sD, hb17, hb21, hb22, sm]; first | (rw [wr_id] <;> omega) | rfl
         simp only [qq, seval, -Nat.reducePow, reduceIte, reduceCtorEq, s5t5, s5t6, s5t10, s5f0, hb8, sD, hb17, hb21, hb22, sm]
         refine aops_val (v := ?v28) rfl ?h28 ?_
         case h28 => simp only [qq, seval, -Nat.reducePow, reduceIte, reduceCtorEq, s5t5, s5t6, s5t10, s5f0, hb8, sD, hb17, hb21, hb22, sm]; first | (rw [wr_id] <;> omega) | rfl
         simp only [qq, seval, -Nat.reducePow, reduceIte, reduceCtorEq, s5t5, s5t6, s5t10, s5f0, hb8, sD, hb17, hb21, hb22, sm]
         refine aops_orunN 1 _ _ ?_
         simp only [qq, seval, -Nat.reducePow, reduceIte, reduceCtorEq, s5t5, s5t6, s5t10, s5f0, hb8, sD, hb17, hb21, hb22, sm]
         refine aops_val (v := ?v29) rfl ?h29 ?_
         case h29 => simp only [qq, seval, -Nat.reducePow, reduceIte, reduceCtorEq, s5t5, s5t6, s5t10, s5f0, hb8, sD, hb17, hb21, hb22, sm]; first | (rw [wr_id] <;> omega) | rfl
         simp only [qq, seval, -Nat.reducePow, reduceIte, reduceCtorEq, s5t5, s5t6, s5t10, s5f0, hb8, sD, hb17, hb21, hb22, sm]
         refine aops_orunN 2 _ _ ?_
         simp only [qq, seval, -Nat.reducePow, reduceIte, reduceCtorEq, s5t5, s5t6, s5t10, s5f0, hb8, sD, hb17, hb21, hb22, sm]
         refine nil_z hL25 ?_
         refine seq_reg 2 fun L30 hL30 => ?_
         simp only [qq, seval, -Nat.reducePow, reduceIte, reduceCtorEq, s5t5, s5t6, s5t10, s5f0, hb8, sD, hb17, hb21, hb22, sm]
         refine nil_z hL30 ?_
         as_aux_lemma =>
          refine awp_cond (t := ?t31) ?h31 (fun hb31 => ?a31) (fun hb31 => ?b31)
          case h31 => simp only [qq, seval, -Nat.reducePow, reduceIte, reduceCtorEq, s5t5, s5t6, s5t10, s5f0, hb8, sD, hb17, hb21, hb22, sm]; rfl
          case a31 =>
           have hp31 := hb31
           try simp only [kb] at hp31
           refine seq_reg 3 fun L32 hL32 => ?_
           simp only [qq, seval, -Nat.reducePow, reduceIte, reduceCtorEq, s5t5, s5t6, s5t10, s5f0, hb8, sD, hb17, hb21, hb22, sm, hb31]
           refine nil_z hL32 ?_
           refine awp_ret ?_
           try simp only [rk_state]
           refine ⟨_, 0, by simp only [qq, seval, -Nat.reducePow, reduceIte, reduceCtorEq, resA, Try.results98, s5t5, s5t6, s5t10, s5f0, hb8, sD, hb17, hb21, hb22, sm, hb31]; rfl, ?_, nomem_a, nomem_a⟩
           simp only [packA]
           rw [← hq3_2]; first | (rw [zr_torn (by omega) (by omega)]; (repeat' (first | exact .nil | exact wkR_c | exact wkR_own | exact wkR_nils | refine wkR_int ?_ | refine wkR_bool ?_ | refine wkR_sl ?_ | refine wkR_osl ?_ | refine wkR_nsl ?_ | refine wkR_oo ?_ | refine wkR_no ?_ | refine .cons ?_ ?_ | refine wkR_agg ?_ | refine wkR_tup ?_)) <;> first | rfl | omega | (dsimp only; omega)) | (rw [zr_form (by omega) (by omega) (by omega) (by omega)]; (repeat' (first | exact .nil | exact wkR_c | exact wkR_own | exact wkR_nils | refine wkR_int ?_ | refine wkR_bool ?_ | refine wkR_sl ?_ | refine wkR_osl ?_ | refine wkR_nsl ?_ | refine wkR_oo ?_ | refine wkR_no ?_ | refine .cons ?_ ?_ | refine wkR_agg ?_ | refine wkR_tup ?_)) <;> first | rfl | omega | (dsimp only; omega)) | (rw [zr_range (by omega) (by omega) (by omega) (by omega)]; (repeat' (first | exact .nil | exact wkR_c | exact wkR_own | exact wkR_nils | refine wkR_int ?_ | refine wkR_bool ?_ | refine wkR_sl ?_ | refine wkR_osl ?_ | refine wkR_nsl ?_ | refine wkR_oo ?_ | refine wkR_no ?_ | refine .cons ?_ ?_ | refine wkR_agg ?_ | refine wkR_tup ?_)) <;> first | rfl | omega | (dsimp only; omega)) | (rw [zr_done (by omega) (by omega) (by omega) (by omega) (by omega)]; (repeat' (first | exact .nil | exact wkR_c | exact wkR_own | exact wkR_nils | refine wkR_int ?_ | refine wkR_bool ?_ | refine wkR_sl ?_ | refine wkR_osl ?_ | refine wkR_nsl ?_ | refine wkR_oo ?_ | refine wkR_no ?_ | refine .cons ?_ ?_ | refine wkR_agg ?_ | refine wkR_tup ?_)) <;> first | rfl | omega | (dsimp only; omega)) | (rw [show 8 - k = 0 from by omega, zr_zero]; (repeat' (first | exact .nil | exact wkR_c | exact wkR_own | exact wkR_nils | refine wkR_int ?_ | refine wkR_bool ?_ | refine wkR_sl ?_ | refine wkR_osl ?_ | refine wkR_nsl ?_ | refine wkR_oo ?_ | refine wkR_no ?_ | refine .cons ?_ ?_ | refine wkR_agg ?_ | refine wkR_tup ?_)) <;> first | rfl | omega | (dsimp only; omega))
          case b31 =>
           have hp31 := hb31
           try simp only [kb] at hp31
           refine awp_skip ?_
           refine hK24 _ ?_
           refine seq_reg 2 fun L33 hL33 => ?_
           simp only [qq, seval, -Nat.reducePow, reduceIte, reduceCtorEq, s5t5, s5t6, s5t10, s5f0, hb8, sD, hb17, hb21, hb22, sm, hb31]
           refine nil_z hL33 ?_
           refine awp_cond (t := ?t34) ?h34 (fun hb34 => ?a34) (fun hb34 => ?b34)
           case h34 => simp only [qq, seval, -Nat.reducePow, reduceIte, reduceCtorEq, s5t5, s5t6, s5t10, s5f0, hb8, sD, hb17, hb21, hb22, sm, hb31]; rfl
           case a34 =>
            have hp34 := hb34
            try simp only [kb] at hp34
            refine awp_seq_k fun K35 hK35 => ?_
            have hu := unf_or (n := n + (readR (l.drop (4 * k)) 4).1 % 8 * 8 ^ k) (by omega)
            have sm2 : (n + (readR (l.drop (4 * k)) 4).1 % 8 * 8 ^ k).tmod 2 = (n + (readR (l.drop (4 * k)) 4).1 % 8 * 8 ^ k) % 2 := Int.tmod_eq_emod_of_nonneg (by omega)
            refine seq_reg 1 fun L36 hL36 => ?_
            simp only [qq, seval, -Nat.reducePow, reduceIte, reduceCtorEq, s5t5, s5t6, s5t10, s5f0, hb8, sD, hb17, hb21, hb22, sm, hb31, hb34, sm2]
            refine aops_val (v := ?v37) rfl ?h37 ?_
            case h37 => simp only [qq, seval, -Nat.reducePow, reduceIte, reduceCtorEq, s5t5, s5t6, s5t10, s5f0, hb8, sD, hb17, hb21, hb22, sm, hb31, hb34, sm2]; (rw [y_rem] <;> omega)
            simp only [qq, seval, -Nat.reducePow, reduceIte, reduceCtorEq, s5t5, s5t6, s5t10, s5f0, hb8, sD, hb17, hb21, hb22, sm, hb31, hb34, sm2]
            refine aops_orunN 1 _ _ ?_
            simp only [qq, seval, -Nat.reducePow, reduceIte, reduceCtorEq, s5t5, s5t6, s5t10, s5f0, hb8, sD, hb17, hb21, hb22, sm, hb31, hb34, sm2]
            refine nil_z hL36 ?_
            as_aux_lemma =>
             refine awp_cond (t := ?t38) ?h38 (fun hb38 => ?a38) (fun hb38 => ?b38)
             case h38 => simp only [qq, seval, -Nat.reducePow, reduceIte, reduceCtorEq, s5t5, s5t6, s5t10, s5f0, hb8, sD, hb17, hb21, hb22, sm, hb31, hb34, sm2]; rfl
             case a38 =>
              have hp38 := hb38
              try simp only [kb] at hp38
              have sU : (0 - (n + (readR (l.drop (4 * k)) 4).1 % 8 * 8 ^ k + 1)).tdiv 2 = unf (n + (readR (l.drop (4 * k)) 4).1 % 8 * 8 ^ k) := by omega
              refine seq_reg 1 fun L39 hL39 => ?_
              simp only [qq, seval, -Nat.reducePow, reduceIte, reduceCtorEq, s5t5, s5t6, s5t10, s5f0, hb8, sD, hb17, hb21, hb22, sm, hb31, hb34, sm2, hb38, sU]
              refine aops_val (v := ?v40) rfl ?h40 ?_
              case h40 => simp only [qq, seval, -Nat.reducePow, reduceIte, reduceCtorEq, s5t5, s5t6, s5t10, s5f0, hb8, sD, hb17, hb21, hb22, sm, hb31, hb34, sm2, hb38, sU]; first | (rw [wr_id] <;> omega) | rfl
              simp only [qq, seval, -Nat.reducePow, reduceIte, reduceCtorEq, s5t5, s5t6, s5t10, s5f0, hb8, sD, hb17, hb21, hb22, sm, hb31, hb34, sm2, hb38, sU]
              refine aops_val (v := ?v41) rfl ?h41 ?_
              case h41 => simp only [qq, seval, -Nat.reducePow, reduceIte, reduceCtorEq, s5t5, s5t6, s5t10, s5f0, hb8, sD, hb17, hb21, hb22, sm, hb31, hb34, sm2, hb38, sU]; first | (rw [wr_id] <;> omega) | rfl
              simp only [qq, seval, -Nat.reducePow, reduceIte, reduceCtorEq, s5t5, s5t6, s5t10, s5f0, hb8, sD, hb17, hb21, hb22, sm, hb31, hb34, sm2, hb38, sU]
              refine aops_val (v := ?v42) rfl ?h42 ?_
              case h42 => simp only [qq, seval, -Nat.reducePow, reduceIte, reduceCtorEq, s5t5, s5t6, s5t10, s5f0, hb8, sD, hb17, hb21, hb22, sm, hb31, hb34, sm2, hb38, sU]; (rw [y_quo (by omega), sU, wr_id] <;> omega)
              simp only [qq, seval, -Nat.reducePow, reduceIte, reduceCtorEq, s5t5, s5t6, s5t10, s5f0, hb8, sD, hb17, hb21, hb22, sm, hb31, hb34, sm2, hb38, sU]
              refine aops_orunN 1 _ _ ?_
              simp only [qq, seval, -Nat.reducePow, reduceIte, reduceCtorEq, s5t5, s5t6, s5t10, s5f0, hb8, sD, hb17, hb21, hb22, sm, hb31, hb34, sm2, hb38, sU]
              refine aops_val (v := ?v43) rfl ?h43 ?_
              case h43 => simp only [qq, seval, -Nat.reducePow, reduceIte, reduceCtorEq, s5t5, s5t6, s5t10, s5f0, hb8, sD, hb17, hb21, hb22, sm, hb31, hb34, sm2, hb38, sU]; first | (rw [wr_id] <;> omega) | rfl
              simp only [qq, seval, -Nat.reducePow, reduceIte, reduceCtorEq, s5t5, s5t6, s5t10, s5f0, hb8, sD, hb17, hb21, hb22, sm, hb31, hb34, sm2, hb38, sU]
              refine aops_val (v := ?v44) rfl ?h44 ?_
              case h44 => simp only [qq, seval, -Nat.reducePow, reduceIte, reduceCtorEq, s5t5, s5t6, s5t10, s5f0, hb8, sD, hb17, hb21, hb22, sm, hb31, hb34, sm2, hb38, sU]; first | (rw [wr_id] <;> omega) | rfl
              simp only [qq, seval, -Nat.reducePow, reduceIte, reduceCtorEq, s5t5, s5t6, s5t10, s5f0, hb8, sD, hb17, hb21, hb22, sm, hb31, hb34, sm2, hb38, sU]
              refine aops_orunN 3 _ _ ?_
              simp only [qq, seval, -Nat.reducePow, reduceIte, reduceCtorEq, s5t5, s5t6, s5t10, s5f0, hb8, sD, hb17, hb21, hb22, sm, hb31, hb34, sm2, hb38, sU]
              refine nil_z hL39 ?_
              refine awp_ret ?_
              try simp only [rk_state]
              refine ⟨_, 0, by simp only [qq, seval, -Nat.reducePow, reduceIte, reduceCtorEq, resA, Try.results98, s5t5, s5t6, s5t10, s5f0, hb8, sD, hb17, hb21, hb22, sm, hb31, hb34, sm2, hb38, sU]; rfl, ?_, nomem_a, nomem_a⟩
              simp only [packA]
              rw [← hq3_2]; first | (rw [zr_torn (by omega) (by omega)]; (repeat' (first | exact .nil | exact wkR_c | exact wkR_own | exact wkR_nils | refine wkR_int ?_ | refine wkR_bool ?_ | refine wkR_sl ?_ | refine wkR_osl ?_ | refine wkR_nsl ?_ | refine wkR_oo ?_ | refine wkR_no ?_ | refine .cons ?_ ?_ | refine wkR_agg ?_ | refine wkR_tup ?_)) <;> first | rfl | omega | (dsimp only; omega)) | (rw [zr_form (by omega) (by omega) (by omega) (by omega)]; (repeat' (first | exact .nil | exact wkR_c | exact wkR_own | exact wkR_nils | refine wkR_int ?_ | refine wkR_bool ?_ | refine wkR_sl ?_ | refine wkR_osl ?_ | refine wkR_nsl ?_ | refine wkR_oo ?_ | refine wkR_no ?_ | refine .cons ?_ ?_ | refine wkR_agg ?_ | refine wkR_tup ?_)) <;> first | rfl | omega | (dsimp only; omega)) | (rw [zr_range (by omega) (by omega) (by omega) (by omega)]; (repeat' (first | exact .nil | exact wkR_c | exact wkR_own | exact wkR_nils | refine wkR_int ?_ | refine wkR_bool ?_ | refine wkR_sl ?_ | refine wkR_osl ?_ | refine wkR_nsl ?_ | refine wkR_oo ?_ | refine wkR_no ?_ | refine .cons ?_ ?_ | refine wkR_agg ?_ | refine wkR_tup ?_)) <;> first | rfl | omega | (dsimp only; omega)) | (rw [zr_done (by omega) (by omega) (by omega) (by omega) (by omega)]; (repeat' (first | exact .nil | exact wkR_c | exact wkR_own | exact wkR_nils | refine wkR_int ?_ | refine wkR_bool ?_ | refine wkR_sl ?_ | refine wkR_osl ?_ | refine wkR_nsl ?_ | refine wkR_oo ?_ | refine wkR_no ?_ | refine .cons ?_ ?_ | refine wkR_agg ?_ | refine wkR_tup ?_)) <;> first | rfl | omega | (dsimp only; omega)) | (rw [show 8 - k = 0 from by omega, zr_zero]; (repeat' (first | exact .nil | exact wkR_c | exact wkR_own | exact wkR_nils | refine wkR_int ?_ | refine wkR_bool ?_ | refine wkR_sl ?_ | refine wkR_osl ?_ | refine wkR_nsl ?_ | refine wkR_oo ?_ | refine wkR_no ?_ | refine .cons ?_ ?_ | refine wkR_agg ?_ | refine wkR_tup ?_)) <;> first | rfl | omega | (dsimp only; omega))
             case b38 =>
              have hp38 := hb38
              try simp only [kb] at hp38
              refine awp_skip ?_
              refine hK35 _ ?_
              have sU2 : (n + (readR (l.drop (4 * k)) 4).1 % 8 * 8 ^ k).tdiv 2 = unf (n + (readR (l.drop (4 * k)) 4).1 % 8 * 8 ^ k) := by omega
              refine seq_reg 1 fun L45 hL45 => ?_
              simp only [qq, seval, -Nat.reducePow, reduceIte, reduceCtorEq, s5t5, s5t6, s5t10, s5f0, hb8, sD, hb17, hb21, hb22, sm, hb31, hb34, sm2, hb38, sU2]
              refine aops_val (v := ?v46) rfl ?h46 ?_
              case h46 => simp only [qq, seval, -Nat.reducePow, reduceIte, reduceCtorEq, s5t5, s5t6, s5t10, s5f0, hb8, sD, hb17, hb21, hb22, sm, hb31, hb34, sm2, hb38, sU2]; (rw [y_quo (by omega), sU2, wr_id] <;> omega)
              simp only [qq, seval, -Nat.reducePow, reduceIte, reduceCtorEq, s5t5, s5t6, s5t10, s5f0, hb8, sD, hb17, hb21, hb22, sm, hb31, hb34, sm2, hb38, sU2]
              refine aops_orunN 1 _ _ ?_
              simp only [qq, seval, -Nat.reducePow, reduceIte, reduceCtorEq, s5t5, s5t6, s5t10, s5f0, hb8, sD, hb17, hb21, hb22, sm, hb31, hb34, sm2, hb38, sU2]
              refine aops_val (v := ?v47) rfl ?h47 ?_
              case h47 => simp only [qq, seval, -Nat.reducePow, reduceIte, reduceCtorEq, s5t5, s5t6, s5t10, s5f0, hb8, sD, hb17, hb21, hb22, sm, hb31, hb34, sm2, hb38, sU2]; first | (rw [wr_id] <;> omega) | rfl
              simp only [qq, seval, -Nat.reducePow, reduceIte, reduceCtorEq, s5t5, s5t6, s5t10, s5f0, hb8, sD, hb17, hb21, hb22, sm, hb31, hb34, sm2, hb38, sU2]
              refine aops_val (v := ?v48) rfl ?h48 ?_
              case h48 => simp only [qq, seval, -Nat.reducePow, reduceIte, reduceCtorEq, s5t5, s5t6, s5t10, s5f0, hb8, sD, hb17, hb21, hb22, sm, hb31, hb34, sm2, hb38, sU2]; first | (rw [wr_id] <;> omega) | rfl
              simp only [qq, seval, -Nat.reducePow, reduceIte, reduceCtorEq, s5t5, s5t6, s5t10, s5f0, hb8, sD, hb17, hb21, hb22, sm, hb31, hb34, sm2, hb38, sU2]
              refine aops_orunN 3 _ _ ?_
              simp only [qq, seval, -Nat.reducePow, reduceIte, reduceCtorEq, s5t5, s5t6, s5t10, s5f0, hb8, sD, hb17, hb21, hb22, sm, hb31, hb34, sm2, hb38, sU2]
              refine nil_z hL45 ?_
              refine awp_ret ?_
              try simp only [rk_state]
              refine ⟨_, 0, by simp only [qq, seval, -Nat.reducePow, reduceIte, reduceCtorEq, resA, Try.results98, s5t5, s5t6, s5t10, s5f0, hb8, sD, hb17, hb21, hb22, sm, hb31, hb34, sm2, hb38, sU2]; rfl, ?_, nomem_a, nomem_a⟩
              simp only [packA]
              rw [← hq3_2]; first | (rw [zr_torn (by omega) (by omega)]; (repeat' (first | exact .nil | exact wkR_c | exact wkR_own | exact wkR_nils | refine wkR_int ?_ | refine wkR_bool ?_ | refine wkR_sl ?_ | refine wkR_osl ?_ | refine wkR_nsl ?_ | refine wkR_oo ?_ | refine wkR_no ?_ | refine .cons ?_ ?_ | refine wkR_agg ?_ | refine wkR_tup ?_)) <;> first | rfl | omega | (dsimp only; omega)) | (rw [zr_form (by omega) (by omega) (by omega) (by omega)]; (repeat' (first | exact .nil | exact wkR_c | exact wkR_own | exact wkR_nils | refine wkR_int ?_ | refine wkR_bool ?_ | refine wkR_sl ?_ | refine wkR_osl ?_ | refine wkR_nsl ?_ | refine wkR_oo ?_ | refine wkR_no ?_ | refine .cons ?_ ?_ | refine wkR_agg ?_ | refine wkR_tup ?_)) <;> first | rfl | omega | (dsimp only; omega)) | (rw [zr_range (by omega) (by omega) (by omega) (by omega)]; (repeat' (first | exact .nil | exact wkR_c | exact wkR_own | exact wkR_nils | refine wkR_int ?_ | refine wkR_bool ?_ | refine wkR_sl ?_ | refine wkR_osl ?_ | refine wkR_nsl ?_ | refine wkR_oo ?_ | refine wkR_no ?_ | refine .cons ?_ ?_ | refine wkR_agg ?_ | refine wkR_tup ?_)) <;> first | rfl | omega | (dsimp only; omega)) | (rw [zr_done (by omega) (by omega) (by omega) (by omega) (by omega)]; (repeat' (first | exact .nil | exact wkR_c | exact wkR_own | exact wkR_nils | refine wkR_int ?_ | refine wkR_bool ?_ | refine wkR_sl ?_ | refine wkR_osl ?_ | refine wkR_nsl ?_ | refine wkR_oo ?_ | refine wkR_no ?_ | refine .cons ?_ ?_ | refine wkR_agg ?_ | refine wkR_tup ?_)) <;> first | rfl | omega | (dsimp only; omega)) | (rw [show 8 - k = 0 from by omega, zr_zero]; (repeat' (first | exact .nil | exact wkR_c | exact wkR_own | exact wkR_nils | refine wkR_int ?_ | refine wkR_bool ?_ | refine wkR_sl ?_ | refine wkR_osl ?_ | refine wkR_nsl ?_ | refine wkR_oo ?_ | refine wkR_no ?_ | refine .cons ?_ ?_ | refine wkR_agg ?_ | refine wkR_tup ?_)) <;> first | rfl | omega | (dsimp only; omega))
           case b34 =>
            first | exact absurd hb34 (by decide) | (have hp34 := hb34; (try simp only [kb] at hp34); exfalso; omega)
      case b21 =>
       have hp21 := hb21
       try simp only [kb] at hp21
       try simp only [hb21]
       refine aops_orunN 3 _ _ ?_
       simp only [qq, seval, -Nat.reducePow, reduceIte, reduceCtorEq, s5t5, s5t6, s5t10, s5f0, hb8, sD, hb17, hb21]
       refine nil_z hL20 ?_
       refine awp_cond (t := false) (by simp only [qq, seval, -Nat.reducePow, reduceIte, reduceCtorEq, s5t5, s5t6, s5t10, s5f0, hb8, sD, hb17, hb21]) (fun h => ?_) (fun _ => ?_)
       case refine_1 => cases h
       refine awp_skip ?_
       refine hK19 _ ?_
       refine awp_seq_k fun K49 hK49 => ?_
       have sm : (readR (l.drop (4 * k)) 4).1.tmod 8 = (readR (l.drop (4 * k)) 4).1 % 8 := Int.tmod_eq_emod_of_nonneg (by omega)
       have hmb := mul_bd (a := (readR (l.drop (4 * k)) 4).1 % 8) (b := 8 ^ k) (c := 16777216) (by omega) (by omega) (by omega) (by omega)
       refine seq_reg 2 fun L50 hL50 => ?_
       simp only [qq, seval, -Nat.reducePow, reduceIte, reduceCtorEq, s5t5, s5t6, s5t10, s5f0, hb8, sD, hb17, hb21, sm]
       refine aops_val (v := ?v51) rfl ?h51 ?_
       case h51 => simp only [qq, seval, -Nat.reducePow, reduceIte, reduceCtorEq, s5t5, s5t6, s5t10, s5f0, hb8, sD, hb17, hb21, sm]; (rw [y_rem] <;> omega)
       simp only [qq, seval, -Nat.reducePow, reduceIte, reduceCtorEq, s5t5, s5t6, s5t10, s5f0, hb8, sD, hb17, hb21, sm]
       refine aops_orunN 1 _ _ ?_
       simp only [qq, seval, -Nat.reducePow, reduceIte, reduceCtorEq, s5t5, s5t6, s5t10, s5f0, hb8, sD, hb17, hb21, sm]
       refine aops_val (v := ?v52) rfl ?h52 ?_
       case h52 => simp only [qq, seval, -Nat.reducePow, reduceIte, reduceCtorEq, s5t5, s5t6, s5t10, s5f0, hb8, sD, hb17, hb21, sm]; first | (rw [wr_id] <;> omega) | rfl
       simp only [qq, seval, -Nat.reducePow, reduceIte, reduceCtorEq, s5t5, s5t6, s5t10, s5f0, hb8, sD, hb17, hb21, sm]
       refine aops_val (v := ?v53) rfl ?h53 ?_
       case h53 => simp only [qq, seval, -Nat.reducePow, reduceIte, reduceCtorEq, s5t5, s5t6, s5t10, s5f0, hb8, sD, hb17, hb21, sm]; first | (rw [wr_id] <;> omega) | rfl
       simp only [qq, seval, -Nat.reducePow, reduceIte, reduceCtorEq, s5t5, s5t6, s5t10, s5f0, hb8, sD, hb17, hb21, sm]
       refine aops_orunN 1 _ _ ?_
       simp only [qq, seval, -Nat.reducePow, reduceIte, reduceCtorEq, s5t5, s5t6, s5t10, s5f0, hb8, sD, hb17, hb21, sm]
       refine aops_val (v := ?v54) rfl ?h54 ?_
       case h54 => simp only [qq, seval, -Nat.reducePow, reduceIte, reduceCtorEq, s5t5, s5t6, s5t10, s5f0, hb8, sD, hb17, hb21, sm]; first | (rw [wr_id] <;> omega) | rfl
       simp only [qq, seval, -Nat.reducePow, reduceIte, reduceCtorEq, s5t5, s5t6, s5t10, s5f0, hb8, sD, hb17, hb21, sm]
       refine aops_orunN 2 _ _ ?_
       simp only [qq, seval, -Nat.reducePow, reduceIte, reduceCtorEq, s5t5, s5t6, s5t10, s5f0, hb8, sD, hb17, hb21, sm]
       refine nil_z hL50 ?_
       as_aux_lemma =>
        refine seq_reg 2 fun L55 hL55 => ?_
        simp only [qq, seval, -Nat.reducePow, reduceIte, reduceCtorEq, s5t5, s5t6, s5t10, s5f0, hb8, sD, hb17, hb21, sm]
        refine nil_z hL55 ?_
        refine awp_cond (t := ?t56) ?h56 (fun hb56 => ?a56) (fun hb56 => ?b56)
        case h56 => simp only [qq, seval, -Nat.reducePow, reduceIte, reduceCtorEq, s5t5, s5t6, s5t10, s5f0, hb8, sD, hb17, hb21, sm]; rfl
        case a56 =>
         have hp56 := hb56
         try simp only [kb] at hp56
         refine seq_reg 3 fun L57 hL57 => ?_
         simp only [qq, seval, -Nat.reducePow, reduceIte, reduceCtorEq, s5t5, s5t6, s5t10, s5f0, hb8, sD, hb17, hb21, sm, hb56]
         refine nil_z hL57 ?_
         refine awp_ret ?_
         try simp only [rk_state]
         refine ⟨_, 0, by simp only [qq, seval, -Nat.reducePow, reduceIte, reduceCtorEq, resA, Try.results98, s5t5, s5t6, s5t10, s5f0, hb8, sD, hb17, hb21, sm, hb56]; rfl, ?_, nomem_a, nomem_a⟩
         simp only [packA]
         rw [← hq3_2]; first | (rw [zr_torn (by omega) (by omega)]; (repeat' (first | exact .nil | exact wkR_c | exact wkR_own | exact wkR_nils | refine wkR_int ?_ | refine wkR_bool ?_ | refine wkR_sl ?_ | refine wkR_osl ?_ | refine wkR_nsl ?_ | refine wkR_oo ?_ | refine wkR_no ?_ | refine .cons ?_ ?_ | refine wkR_agg ?_ | refine wkR_tup ?_)) <;> first | rfl | omega | (dsimp only; omega)) | (rw [zr_form (by omega) (by omega) (by omega) (by omega)]; (repeat' (first | exact .nil | exact wkR_c | exact wkR_own | exact wkR_nils | refine wkR_int ?_ | refine wkR_bool ?_ | refine wkR_sl ?_ | refine wkR_osl ?_ | refine wkR_nsl ?_ | refine wkR_oo ?_ | refine wkR_no ?_ | refine .cons ?_ ?_ | refine wkR_agg ?_ | refine wkR_tup ?_)) <;> first | rfl | omega | (dsimp only; omega)) | (rw [zr_range (by omega) (by omega) (by omega) (by omega)]; (repeat' (first | exact .nil | exact wkR_c | exact wkR_own | exact wkR_nils | refine wkR_int ?_ | refine wkR_bool ?_ | refine wkR_sl ?_ | refine wkR_osl ?_ | refine wkR_nsl ?_ | refine wkR_oo ?_ | refine wkR_no ?_ | refine .cons ?_ ?_ | refine wkR_agg ?_ | refine wkR_tup ?_)) <;> first | rfl | omega | (dsimp only; omega)) | (rw [zr_done (by omega) (by omega) (by omega) (by omega) (by omega)]; (repeat' (first | exact .nil | exact wkR_c | exact wkR_own | exact wkR_nils | refine wkR_int ?_ | refine wkR_bool ?_ | refine wkR_sl ?_ | refine wkR_osl ?_ | refine wkR_nsl ?_ | refine wkR_oo ?_ | refine wkR_no ?_ | refine .cons ?_ ?_ | refine wkR_agg ?_ | refine wkR_tup ?_)) <;> first | rfl | omega | (dsimp only; omega)) | (rw [show 8 - k = 0 from by omega, zr_zero]; (repeat' (first | exact .nil | exact wkR_c | exact wkR_own | exact wkR_nils | refine wkR_int ?_ | refine wkR_bool ?_ | refine wkR_sl ?_ | refine wkR_osl ?_ | refine wkR_nsl ?_ | refine wkR_oo ?_ | refine wkR_no ?_ | refine .cons ?_ ?_ | refine wkR_agg ?_ | refine wkR_tup ?_)) <;> first | rfl | omega | (dsimp only; omega))
        case b56 =>
         have hp56 := hb56
         try simp only [kb] at hp56
         refine awp_skip ?_
         refine hK49 _ ?_
         refine seq_reg 2 fun L58 hL58 => ?_
         simp only [qq, seval, -Nat.reducePow, reduceIte, reduceCtorEq, s5t5, s5t6, s5t10, s5f0, hb8, sD, hb17, hb21, sm, hb56]
         refine nil_z hL58 ?_
         as_aux_lemma =>
          refine awp_cond (t := ?t59) ?h59 (fun hb59 => ?a59) (fun hb59 => ?b59)
          case h59 => simp only [qq, seval, -Nat.reducePow, reduceIte, reduceCtorEq, s5t5, s5t6, s5t10, s5f0, hb8, sD, hb17, hb21, sm, hb56]; rfl
          case a59 =>
           have hp59 := hb59
           try simp only [kb] at hp59
           refine awp_seq_k fun K60 hK60 => ?_
           have hu := unf_or (n := n + (readR (l.drop (4 * k)) 4).1 % 8 * 8 ^ k) (by omega)
           have sm2 : (n + (readR (l.drop (4 * k)) 4).1 % 8 * 8 ^ k).tmod 2 = (n + (readR (l.drop (4 * k)) 4).1 % 8 * 8 ^ k) % 2 := Int.tmod_eq_emod_of_nonneg (by omega)
           refine seq_reg 1 fun L61 hL61 => ?_
           simp only [qq, seval, -Nat.reducePow, reduceIte, reduceCtorEq, s5t5, s5t6, s5t10, s5f0, hb8, sD, hb17, hb21, sm, hb56, hb59, sm2]
           refine aops_val (v := ?v62) rfl ?h62 ?_
           case h62 => simp only [qq, seval, -Nat.reducePow, reduceIte, reduceCtorEq, s5t5, s5t6, s5t10, s5f0, hb8, sD, hb17, hb21, sm, hb56, hb59, sm2]; (rw [y_rem] <;> omega)
           simp only [qq, seval, -Nat.reducePow, reduceIte, reduceCtorEq, s5t5, s5t6, s5t10, s5f0, hb8, sD, hb17, hb21, sm, hb56, hb59, sm2]
           refine aops_orunN 1 _ _ ?_
           simp only [qq, seval, -Nat.reducePow, reduceIte, reduceCtorEq, s5t5, s5t6, s5t10, s5f0, hb8, sD, hb17, hb21, sm, hb56, hb59, sm2]
           refine nil_z hL61 ?_
           refine awp_cond (t := ?t63) ?h63 (fun hb63 => ?a63) (fun hb63 => ?b63)
           case h63 => simp only [qq, seval, -Nat.reducePow, reduceIte, reduceCtorEq, s5t5, s5t6, s5t10, s5f0, hb8, sD, hb17, hb21, sm, hb56, hb59, sm2]; rfl
           case a63 =>
            have hp63 := hb63
            try simp only [kb] at hp63
            have sU : (0 - (n + (readR (l.drop (4 * k)) 4).1 % 8 * 8 ^ k + 1)).tdiv 2 = unf (n + (readR (l.drop (4 * k)) 4).1 % 8 * 8 ^ k) := by omega
            refine seq_reg 1 fun L64 hL64 => ?_
            simp only [qq, seval, -Nat.reducePow, reduceIte, reduceCtorEq, s5t5, s5t6, s5t10, s5f0, hb8, sD, hb17, hb21, sm, hb56, hb59, sm2, hb63, sU]
            refine aops_val (v := ?v65) rfl ?h65 ?_
            case h65 => simp only [qq, seval, -Nat.reducePow, reduceIte, reduceCtorEq, s5t5, s5t6, s5t10, s5f0, hb8, sD, hb17, hb21, sm, hb56, hb59, sm2, hb63, sU]; first | (rw [wr_id] <;> omega) | rfl
            simp only [qq, seval, -Nat.reducePow, reduceIte, reduceCtorEq, s5t5, s5t6, s5t10, s5f0, hb8, sD, hb17, hb21, sm, hb56, hb59, sm2, hb63, sU]
            refine aops_val (v := ?v66) rfl ?h66 ?_
            case h66 => simp only [qq, seval, -Nat.reducePow, reduceIte, reduceCtorEq, s5t5, s5t6, s5t10, s5f0, hb8, sD, hb17, hb21, sm, hb56, hb59, sm2, hb63, sU]; first | (rw [wr_id] <;> omega) | rfl
            simp only [qq, seval, -Nat.reducePow, reduceIte, reduceCtorEq, s5t5, s5t6, s5t10, s5f0, hb8, sD, hb17, hb21, sm, hb56, hb59, sm2, hb63, sU]
            refine aops_val (v := ?v67) rfl ?h67 ?_
            case h67 => simp only [qq, seval, -Nat.reducePow, reduceIte, reduceCtorEq, s5t5, s5t6, s5t10, s5f0, hb8, sD, hb17, hb21, sm, hb56, hb59, sm2, hb63, sU]; (rw [y_quo (by omega), sU, wr_id] <;> omega)
            simp only [qq, seval, -Nat.reducePow, reduceIte, reduceCtorEq, s5t5, s5t6, s5t10, s5f0, hb8, sD, hb17, hb21, sm, hb56, hb59, sm2, hb63, sU]
            refine aops_orunN 1 _ _ ?_
            simp only [qq, seval, -Nat.reducePow, reduceIte, reduceCtorEq, s5t5, s5t6, s5t10, s5f0, hb8, sD, hb17, hb21, sm, hb56, hb59, sm2, hb63, sU]
            refine aops_val (v := ?v68) rfl ?h68 ?_
            case h68 => simp only [qq, seval, -Nat.reducePow, reduceIte, reduceCtorEq, s5t5, s5t6, s5t10, s5f0, hb8, sD, hb17, hb21, sm, hb56, hb59, sm2, hb63, sU]; first | (rw [wr_id] <;> omega) | rfl
            simp only [qq, seval, -Nat.reducePow, reduceIte, reduceCtorEq, s5t5, s5t6, s5t10, s5f0, hb8, sD, hb17, hb21, sm, hb56, hb59, sm2, hb63, sU]
            refine aops_val (v := ?v69) rfl ?h69 ?_
            case h69 => simp only [qq, seval, -Nat.reducePow, reduceIte, reduceCtorEq, s5t5, s5t6, s5t10, s5f0, hb8, sD, hb17, hb21, sm, hb56, hb59, sm2, hb63, sU]; first | (rw [wr_id] <;> omega) | rfl
            simp only [qq, seval, -Nat.reducePow, reduceIte, reduceCtorEq, s5t5, s5t6, s5t10, s5f0, hb8, sD, hb17, hb21, sm, hb56, hb59, sm2, hb63, sU]
            refine aops_orunN 3 _ _ ?_
            simp only [qq, seval, -Nat.reducePow, reduceIte, reduceCtorEq, s5t5, s5t6, s5t10, s5f0, hb8, sD, hb17, hb21, sm, hb56, hb59, sm2, hb63, sU]
            refine nil_z hL64 ?_
            refine awp_ret ?_
            try simp only [rk_state]
            refine ⟨_, 0, by simp only [qq, seval, -Nat.reducePow, reduceIte, reduceCtorEq, resA, Try.results98, s5t5, s5t6, s5t10, s5f0, hb8, sD, hb17, hb21, sm, hb56, hb59, sm2, hb63, sU]; rfl, ?_, nomem_a, nomem_a⟩
            simp only [packA]
            rw [← hq3_2]; first | (rw [zr_torn (by omega) (by omega)]; (repeat' (first | exact .nil | exact wkR_c | exact wkR_own | exact wkR_nils | refine wkR_int ?_ | refine wkR_bool ?_ | refine wkR_sl ?_ | refine wkR_osl ?_ | refine wkR_nsl ?_ | refine wkR_oo ?_ | refine wkR_no ?_ | refine .cons ?_ ?_ | refine wkR_agg ?_ | refine wkR_tup ?_)) <;> first | rfl | omega | (dsimp only; omega)) | (rw [zr_form (by omega) (by omega) (by omega) (by omega)]; (repeat' (first | exact .nil | exact wkR_c | exact wkR_own | exact wkR_nils | refine wkR_int ?_ | refine wkR_bool ?_ | refine wkR_sl ?_ | refine wkR_osl ?_ | refine wkR_nsl ?_ | refine wkR_oo ?_ | refine wkR_no ?_ | refine .cons ?_ ?_ | refine wkR_agg ?_ | refine wkR_tup ?_)) <;> first | rfl | omega | (dsimp only; omega)) | (rw [zr_range (by omega) (by omega) (by omega) (by omega)]; (repeat' (first | exact .nil | exact wkR_c | exact wkR_own | exact wkR_nils | refine wkR_int ?_ | refine wkR_bool ?_ | refine wkR_sl ?_ | refine wkR_osl ?_ | refine wkR_nsl ?_ | refine wkR_oo ?_ | refine wkR_no ?_ | refine .cons ?_ ?_ | refine wkR_agg ?_ | refine wkR_tup ?_)) <;> first | rfl | omega | (dsimp only; omega)) | (rw [zr_done (by omega) (by omega) (by omega) (by omega) (by omega)]; (repeat' (first | exact .nil | exact wkR_c | exact wkR_own | exact wkR_nils | refine wkR_int ?_ | refine wkR_bool ?_ | refine wkR_sl ?_ | refine wkR_osl ?_ | refine wkR_nsl ?_ | refine wkR_oo ?_ | refine wkR_no ?_ | refine .cons ?_ ?_ | refine wkR_agg ?_ | refine wkR_tup ?_)) <;> first | rfl | omega | (dsimp only; omega)) | (rw [show 8 - k = 0 from by omega, zr_zero]; (repeat' (first | exact .nil | exact wkR_c | exact wkR_own | exact wkR_nils | refine wkR_int ?_ | refine wkR_bool ?_ | refine wkR_sl ?_ | refine wkR_osl ?_ | refine wkR_nsl ?_ | refine wkR_oo ?_ | refine wkR_no ?_ | refine .cons ?_ ?_ | refine wkR_agg ?_ | refine wkR_tup ?_)) <;> first | rfl | omega | (dsimp only; omega))
           case b63 =>
            have hp63 := hb63
            try simp only [kb] at hp63
            refine awp_skip ?_
            refine hK60 _ ?_
            have sU2 : (n + (readR (l.drop (4 * k)) 4).1 % 8 * 8 ^ k).tdiv 2 = unf (n + (readR (l.drop (4 * k)) 4).1 % 8 * 8 ^ k) := by omega
            refine seq_reg 1 fun L70 hL70 => ?_
            simp only [qq, seval, -Nat.reducePow, reduceIte, reduceCtorEq, s5t5, s5t6, s5t10, s5f0, hb8, sD, hb17, hb21, sm, hb56, hb59, sm2, hb63, sU2]
            refine aops_val (v := ?v71) rfl ?h71 ?_
            case h71 => simp only [qq, seval, -Nat.reducePow, reduceIte, reduceCtorEq, s5t5, s5t6, s5t10, s5f0, hb8, sD, hb17, hb21, sm, hb56, hb59, sm2, hb63, sU2]; (rw [y_quo (by omega), sU2, wr_id] <;> omega)
            simp only [qq, seval, -Nat.reducePow, reduceIte, reduceCtorEq, s5t5, s5t6, s5t10, s5f0, hb8, sD, hb17, hb21, sm, hb56, hb59, sm2, hb63, sU2]
            refine aops_orunN 1 _ _ ?_
            simp only [qq, seval, -Nat.reducePow, reduceIte, reduceCtorEq, s5t5, s5t6, s5t10, s5f0, hb8, sD, hb17, hb21, sm, hb56, hb59, sm2, hb63, sU2]
            refine aops_val (v := ?v72) rfl ?h72 ?_
            case h72 => simp only [qq, seval, -Nat.reducePow, reduceIte, reduceCtorEq, s5t5, s5t6, s5t10, s5f0, hb8, sD, hb17, hb21, sm, hb56, hb59, sm2, hb63, sU2]; first | (rw [wr_id] <;> omega) | rfl
            simp only [qq, seval, -Nat.reducePow, reduceIte, reduceCtorEq, s5t5, s5t6, s5t10, s5f0, hb8, sD, hb17, hb21, sm, hb56, hb59, sm2, hb63, sU2]
            refine aops_val (v := ?v73) rfl ?h73 ?_
            case h73 => simp only [qq, seval, -Nat.reducePow, reduceIte, reduceCtorEq, s5t5, s5t6, s5t10, s5f0, hb8, sD, hb17, hb21, sm, hb56, hb59, sm2, hb63, sU2]; first | (rw [wr_id] <;> omega) | rfl
            simp only [qq, seval, -Nat.reducePow, reduceIte, reduceCtorEq, s5t5, s5t6, s5t10, s5f0, hb8, sD, hb17, hb21, sm, hb56, hb59, sm2, hb63, sU2]
            refine aops_orunN 3 _ _ ?_
            simp only [qq, seval, -Nat.reducePow, reduceIte, reduceCtorEq, s5t5, s5t6, s5t10, s5f0, hb8, sD, hb17, hb21, sm, hb56, hb59, sm2, hb63, sU2]
            refine nil_z hL70 ?_
            as_aux_lemma =>
             refine awp_ret ?_
             try simp only [rk_state]
             refine ⟨_, 0, by simp only [qq, seval, -Nat.reducePow, reduceIte, reduceCtorEq, resA, Try.results98, s5t5, s5t6, s5t10, s5f0, hb8, sD, hb17, hb21, sm, hb56, hb59, sm2, hb63, sU2]; rfl, ?_, nomem_a, nomem_a⟩
             simp only [packA]
             rw [← hq3_2]; first | (rw [zr_torn (by omega) (by omega)]; (repeat' (first | exact .nil | exact wkR_c | exact wkR_own | exact wkR_nils | refine wkR_int ?_ | refine wkR_bool ?_ | refine wkR_sl ?_ | refine wkR_osl ?_ | refine wkR_nsl ?_ | refine wkR_oo ?_ | refine wkR_no ?_ | refine .cons ?_ ?_ | refine wkR_agg ?_ | refine wkR_tup ?_)) <;> first | rfl | omega | (dsimp only; omega)) | (rw [zr_form (by omega) (by omega) (by omega) (by omega)]; (repeat' (first | exact .nil | exact wkR_c | exact wkR_own | exact wkR_nils | refine wkR_int ?_ | refine wkR_bool ?_ | refine wkR_sl ?_ | refine wkR_osl ?_ | refine wkR_nsl ?_ | refine wkR_oo ?_ | refine wkR_no ?_ | refine .cons ?_ ?_ | refine wkR_agg ?_ | refine wkR_tup ?_)) <;> first | rfl | omega | (dsimp only; omega)) | (rw [zr_range (by omega) (by omega) (by omega) (by omega)]; (repeat' (first | exact .nil | exact wkR_c | exact wkR_own | exact wkR_nils | refine wkR_int ?_ | refine wkR_bool ?_ | refine wkR_sl ?_ | refine wkR_osl ?_ | refine wkR_nsl ?_ | refine wkR_oo ?_ | refine wkR_no ?_ | refine .cons ?_ ?_ | refine wkR_agg ?_ | refine wkR_tup ?_)) <;> first | rfl | omega | (dsimp only; omega)) | (rw [zr_done (by omega) (by omega) (by omega) (by omega) (by omega)]; (repeat' (first | exact .nil | exact wkR_c | exact wkR_own | exact wkR_nils | refine wkR_int ?_ | refine wkR_bool ?_ | refine wkR_sl ?_ | refine wkR_osl ?_ | refine wkR_nsl ?_ | refine wkR_oo ?_ | refine wkR_no ?_ | refine .cons ?_ ?_ | refine wkR_agg ?_ | refine wkR_tup ?_)) <;> first | rfl | omega | (dsimp only; omega)) | (rw [show 8 - k = 0 from by omega, zr_zero]; (repeat' (first | exact .nil | exact wkR_c | exact wkR_own | exact wkR_nils | refine wkR_int ?_ | refine wkR_bool ?_ | refine wkR_sl ?_ | refine wkR_osl ?_ | refine wkR_nsl ?_ | refine wkR_oo ?_ | refine wkR_no ?_ | refine .cons ?_ ?_ | refine wkR_agg ?_ | refine wkR_tup ?_)) <;> first | rfl | omega | (dsimp only; omega))
          case b59 =>
           have hp59 := hb59
           try simp only [kb] at hp59
           refine awp_skip ?_
           try simp only [rk_state]
           refine hK9 _ ?_
           refine reg 0 fun L74 hL74 => ?_
           simp only [qq, seval, -Nat.reducePow, reduceIte, reduceCtorEq, s5t5, s5t6, s5t10, s5f0, hb8, sD, hb17, hb21, sm, hb56, hb59]
           refine aops_val (v := ?v75) rfl ?h75 ?_
           case h75 => simp only [qq, seval, -Nat.reducePow, reduceIte, reduceCtorEq, s5t5, s5t6, s5t10, s5f0, hb8, sD, hb17, hb21, sm, hb56, hb59]; first | (rw [wr_id] <;> omega) | rfl
           simp only [qq, seval, -Nat.reducePow, reduceIte, reduceCtorEq, s5t5, s5t6, s5t10, s5f0, hb8, sD, hb17, hb21, sm, hb56, hb59]
           refine aops_orunN 1 _ _ ?_
           simp only [qq, seval, -Nat.reducePow, reduceIte, reduceCtorEq, s5t5, s5t6, s5t10, s5f0, hb8, sD, hb17, hb21, sm, hb56, hb59]
           refine nil_q hL74 ?_
           try simp only [rk_state]
           have hnx := zr_next (f := 8 - k) (k := k) (n := n) (sc := 8 ^ k) (l := (l.drop (4 * k))) (by omega) (by omega) (by omega) (by omega) (by omega)
           rw [List.drop_drop, show 4 * k + 4 = 4 * (k + 1) from by omega, show 8 - k - 1 = 8 - (k + 1) from by omega] at hnx
           refine hK5 _ ((fun (k : Nat) (n : Int) => 8 - k) (k + 1) (n + (readR (l.drop (4 * k)) 4).1 % 8 * 8 ^ k)) ?_ ⟨k + 1, n + (readR (l.drop (4 * k)) 4).1 % 8 * 8 ^ k, rfl, ?_, ?_, ?_, ?_, ?_, ?_⟩
           · (try simp only []); omega
           · omega
           · omega
           · (rw [Int.pow_succ, ← hnx]; exact hq3_2)
           · (try simp only [qq, seval, -Nat.reducePow, reduceIte, reduceCtorEq, s5t5, s5t6, s5t10, s5f0, hb8, sD, hb17, hb21, sm, hb56, hb59])
             all_goals (first | done | rfl | (simp only [AV.c.injEq, C.int.injEq, List.cons.injEq, and_true, true_and]; omega))
           · (try simp only [qq, seval, -Nat.reducePow, reduceIte, reduceCtorEq, s5t5, s5t6, s5t10, s5f0, hb8, sD, hb17, hb21, sm, hb56, hb59])
             all_goals (rw [Int.pow_succ])
           · (try simp only [qq, seval, -Nat.reducePow, reduceIte, reduceCtorEq, s5t5, s5t6, s5t10, s5f0, hb8, sD, hb17, hb21, sm, hb56, hb59])
             all_goals (first | done | rfl | (simp only [AV.c.injEq, C.int.injEq, List.cons.injEq, and_true, true_and]; omega))
   case b8 =>
    have hp8 := hb8
    try simp only [kb] at hp8
    refine awp_exit ?_
    simp only [rk_state, reduceIte, Nat.reduceEqDiff]
    refine hK3 _ ?_
    refine seq_reg 3 fun L76 hL76 => ?_
    simp only [qq, seval, -Nat.reducePow, reduceIte, reduceCtorEq, s5t5, s5t6, s5t10, s5f0, hb8]
    refine nil_z hL76 ?_
    refine awp_ret ?_
    try simp only [rk_state]
    refine ⟨_, 0, by simp only [qq, seval, -Nat.reducePow, reduceIte, reduceCtorEq, resA, Try.results98, s5t5, s5t6, s5t10, s5f0, hb8]; rfl, ?_, nomem_a, nomem_a⟩
    simp only [packA]
    rw [← hq3_2]; first | (rw [zr_torn (by omega) (by omega)]; (repeat' (first | exact .nil | exact wkR_c | exact wkR_own | exact wkR_nils | refine wkR_int ?_ | refine wkR_bool ?_ | refine wkR_sl ?_ | refine wkR_osl ?_ | refine wkR_nsl ?_ | refine wkR_oo ?_ | refine wkR_no ?_ | refine .cons ?_ ?_ | refine wkR_agg ?_ | refine wkR_tup ?_)) <;> first | rfl | omega | (dsimp only; omega)) | (rw [zr_form (by omega) (by omega) (by omega) (by omega)]; (repeat' (first | exact .nil | exact wkR_c | exact wkR_own | exact wkR_nils | refine wkR_int ?_ | refine wkR_bool ?_ | refine wkR_sl ?_ | refine wkR_osl ?_ | refine wkR_nsl ?_ | refine wkR_oo ?_ | refine wkR_no ?_ | refine .cons ?_ ?_ | refine wkR_agg ?_ | refine wkR_tup ?_)) <;> first | rfl | omega | (dsimp only; omega)) | (rw [zr_range (by omega) (by omega) (by omega) (by omega)]; (repeat' (first | exact .nil | exact wkR_c | exact wkR_own | exact wkR_nils | refine wkR_int ?_ | refine wkR_bool ?_ | refine wkR_sl ?_ | refine wkR_osl ?_ | refine wkR_nsl ?_ | refine wkR_oo ?_ | refine wkR_no ?_ | refine .cons ?_ ?_ | refine wkR_agg ?_ | refine wkR_tup ?_)) <;> first | rfl | omega | (dsimp only; omega)) | (rw [zr_done (by omega) (by omega) (by omega) (by omega) (by omega)]; (repeat' (first | exact .nil | exact wkR_c | exact wkR_own | exact wkR_nils | refine wkR_int ?_ | refine wkR_bool ?_ | refine wkR_sl ?_ | refine wkR_osl ?_ | refine wkR_nsl ?_ | refine wkR_oo ?_ | refine wkR_no ?_ | refine .cons ?_ ?_ | refine wkR_agg ?_ | refine wkR_tup ?_)) <;> first | rfl | omega | (dsimp only; omega)) | (rw [show 8 - k = 0 from by omega, zr_zero]; (repeat' (first | exact .nil | exact wkR_c | exact wkR_own | exact wkR_nils | refine wkR_int ?_ | refine wkR_bool ?_ | refine wkR_sl ?_ | refine wkR_osl ?_ | refine wkR_nsl ?_ | refine wkR_oo ?_ | refine wkR_no ?_ | refine .cons ?_ ?_ | refine wkR_agg ?_ | refine wkR_tup ?_)) <;> first | rfl | omega | (dsimp only; omega))
set_option maxHeartbeats 4000000 in
set_option maxRecDepth 50000 in
theorem ztake_fun (l : List Bool) (hl : l.length ≤ 140737488355200) : Fun Try.prog 40 [.c (.sl 4 (Rw boC l))] nomem (.tup [.c (.int .i64 (ztakeR l).1), .own false 0 4 (Rw boC (ztakeR l).2.1), .c (.int .i64 (ztakeR l).2.2)]) nomem := by
 refine fun_of_awp Try.func40 rfl (by decide +kernel) (by decide +kernel) (Nat.le_of_ble_eq_true rfl) (fun _ _ => rfl) (fun _ _ => rfl) ?_
 refine seq_reg 3 fun L1 hL1 => ?_
 simp only [qq, seval, -Nat.reducePow, reduceIte, reduceCtorEq]
 refine nil_z hL1 ?_
 refine seq_reg 1 fun L2 hL2 => ?_
 simp only [qq, seval, -Nat.reducePow, reduceIte, reduceCtorEq]
 refine aops_call (zread_fun _ ?s3_0) rfl rfl rfl rfl (by (try simp only [qq, seval, -Nat.reducePow, reduceIte, reduceCtorEq]); (repeat' (first | exact .nil | exact wk_c | exact wk_ownc | exact wk_nilsc | exact wk_nils | exact wk_fn | refine .cons ?_ ?_ | refine wk_agg ?_ | refine wk_fnL ?_))) rfl rfl ?m3
 case s3_0 => first | assumption | omega | decide +kernel | (simp only [List.length_take, List.length_drop]; omega)
 simp only [qq, seval, -Nat.reducePow, reduceIte, reduceCtorEq]
 refine aops_orunN 7 _ _ ?_
 simp only [qq, seval, -Nat.reducePow, reduceIte, reduceCtorEq]
 refine nil_z hL2 ?_
 refine awp_seq_k fun K4 hK4 => ?_
 refine seq_reg 2 fun L5 hL5 => ?_
 simp only [qq, seval, -Nat.reducePow, reduceIte, reduceCtorEq]
 refine nil_z hL5 ?_
 as_aux_lemma =>
  refine awp_cond (t := ?t6) ?h6 (fun hb6 => ?a6) (fun hb6 => ?b6)
  case h6 => simp only [qq, seval, -Nat.reducePow, reduceIte, reduceCtorEq]; rfl
  case a6 =>
   have hp6 := hb6
   try simp only [kb] at hp6
   refine seq_reg 4 fun L7 hL7 => ?_
   simp only [qq, seval, -Nat.reducePow, reduceIte, reduceCtorEq, hb6]
   refine nil_z hL7 ?_
   refine awp_ret ?_
   try simp only [rk_state]
   refine ⟨_, 21, by simp only [qq, seval, -Nat.reducePow, reduceIte, reduceCtorEq, resA, Try.results40, hb6]; rfl, ?_, nomem_a, nomem_a⟩
   simp only [packA]
   unfold ztakeR; (repeat' (first | exact .nil | exact wkR_c | exact wkR_own | exact wkR_nils | refine wkR_int ?_ | refine wkR_bool ?_ | refine wkR_sl ?_ | refine wkR_osl ?_ | refine wkR_nsl ?_ | refine wkR_oo ?_ | refine wkR_no ?_ | refine .cons ?_ ?_ | refine wkR_agg ?_ | refine wkR_tup ?_)) <;> first | done | rfl | omega | (rw [(zreadR_bad (by omega)).1]; done) | (rw [if_neg (by omega)]; exact rfl) | (rw [if_pos (by omega)]; done) | (show (0 : Int) = (zreadR l).2.2; omega)
  case b6 =>
   have hp6 := hb6
   try simp only [kb] at hp6
   refine awp_skip ?_
   refine hK4 _ ?_
   have hro := zreadR_ok (l := l) (by omega)
   refine seq_reg 3 fun L8 hL8 => ?_
   simp only [qq, seval, -Nat.reducePow, reduceIte, reduceCtorEq, hb6]
   refine aops_val (v := ?v9) rfl ?h9 ?_
   case h9 => simp only [qq, seval, -Nat.reducePow, reduceIte, reduceCtorEq, hb6]; first | (rw [slc_l un36 if4] <;> omega) | (rw [slc_lo un36 if4] <;> omega)
   simp only [qq, seval, -Nat.reducePow, reduceIte, reduceCtorEq, hb6]
   refine aops_call_own (clone_bool_fun _ ?s10_0) rfl rfl rfl rfl (by (try simp only [qq, seval, -Nat.reducePow, reduceIte, reduceCtorEq, hb6]); (repeat' (first | exact .nil | exact wk_c | exact wk_ownc | exact wk_nilsc | exact wk_nils | exact wk_fn | refine .cons ?_ ?_ | refine wk_agg ?_ | refine wk_fnL ?_))) rfl rfl rfl (by simp only [qq, seval, -Nat.reducePow, reduceIte, reduceCtorEq, hb6]) ?m10
   case s10_0 => first | assumption | omega | decide +kernel | (simp only [List.length_take, List.length_drop]; omega)
   simp only [qq, seval, -Nat.reducePow, reduceIte, reduceCtorEq, AV.setOwn, AV.setOwn1, hb6]
   refine aops_orunN 3 _ _ ?_
   simp only [qq, seval, -Nat.reducePow, reduceIte, reduceCtorEq, hb6]
   refine aops_nil (hL8 _ ?_)
   simp only [qq, seval, -Nat.reducePow, reduceIte, reduceCtorEq, hb6]
   refine awp_ret ?_
   try simp only [rk_state]
   refine ⟨_, 21, by simp only [qq, seval, -Nat.reducePow, reduceIte, reduceCtorEq, resA, Try.results40, hb6]; rfl, ?_, nomem_a, nomem_a⟩
   simp only [packA]
   unfold ztakeR; (repeat' (first | exact .nil | exact wkR_c | exact wkR_own | exact wkR_nils | refine wkR_int ?_ | refine wkR_bool ?_ | refine wkR_sl ?_ | refine wkR_osl ?_ | refine wkR_nsl ?_ | refine wkR_oo ?_ | refine wkR_no ?_ | refine .cons ?_ ?_ | refine wkR_agg ?_ | refine wkR_tup ?_)) <;> first | done | rfl | omega | (rw [(zreadR_bad (by omega)).1]; done) | (rw [if_neg (by omega)]; exact rfl) | (rw [if_pos (by omega)]; done) | (show (0 : Int) = (zreadR l).2.2; omega)
end Go.Proofs.Y
