/-
  What is proved: small numbers: what Coded, Decoded and the law ZigSays compute. Conditions: none.
-/
import Derived.Test.YtoihccclnkhmaaaC2
set_option linter.unusedVariables false
set_option linter.unusedSimpArgs false
set_option maxRecDepth 4000
namespace Go.Proofs.Y
open Go.Rb
set_option maxHeartbeats 4000000 in
set_option maxRecDepth 50000 in
theorem coded_fun (l : List Bool) (v : Int) (hl : l.length ≤ 140737488355200) : Fun Try.prog 41 [.c (.sl 4 (Rw boC l)), .c (.int .i64 v)] nomem (.tup [.own false 0 4 (Rw boC (zputR l v).1), .c (.int .i64 (zputR l v).2)]) nomem := by
 refine fun_of_awp Try.func41 rfl (by decide +kernel) (by decide +kernel) (Nat.le_of_ble_eq_true rfl) (fun _ _ => rfl) (fun _ _ => rfl) ?_
 refine seq_reg 2 fun L1 hL1 => ?_
 simp only [qq, seval, -Nat.reducePow, reduceIte, reduceCtorEq]
 refine nil_z hL1 ?_
 refine awp_seq_k fun K2 hK2 => ?_
 refine seq_reg 1 fun L3 hL3 => ?_
 simp only [qq, seval, -Nat.reducePow, reduceIte, reduceCtorEq]
 refine aops_call (in_fun _ _ _) rfl rfl rfl rfl (by (try simp only [qq, seval, -Nat.reducePow, reduceIte, reduceCtorEq]); (repeat' (first | exact .nil | exact wk_c | exact wk_ownc | exact wk_nilsc | exact wk_nils | exact wk_fn | refine .cons ?_ ?_ | refine wk_agg ?_ | refine wk_fnL ?_))) rfl rfl ?_
 simp only [qq, seval, -Nat.reducePow, reduceIte, reduceCtorEq]
 refine aops_orunN 1 _ _ ?_
 simp only [qq, seval, -Nat.reducePow, reduceIte, reduceCtorEq]
 refine nil_z hL3 ?_
 refine awp_cond (t := ?t5) ?h5 (fun hb5 => ?a5) (fun hb5 => ?b5)
 case h5 => simp only [qq, seval, -Nat.reducePow, reduceIte, reduceCtorEq]; rfl
 case a5 =>
  have hp5 := hb5
  try simp only [kb] at hp5
  refine seq_reg 2 fun L6 hL6 => ?_
  simp only [qq, seval, -Nat.reducePow, reduceIte, reduceCtorEq, hb5]
  refine nil_z hL6 ?_
  as_aux_lemma =>
   refine awp_ret ?_
   try simp only [rk_state]
   first | refine ⟨_, d, by simp only [qq, seval, -Nat.reducePow, reduceIte, reduceCtorEq, resA, Try.results41, hb5]; rfl, ?_, nomem_a, nomem_a⟩ | refine ⟨_, 0, by simp only [qq, seval, -Nat.reducePow, reduceIte, reduceCtorEq, resA, Try.results41, hb5]; rfl, ?_, nomem_a, nomem_a⟩
   simp only [packA]
   (unfold zputR); first | (rw [if_pos (by omega)]; (repeat' (first | exact .nil | exact wkR_c | exact wkR_own | exact wkR_nils | refine wkR_int ?_ | refine wkR_bool ?_ | refine wkR_sl ?_ | refine wkR_osl ?_ | refine wkR_nsl ?_ | refine wkR_oo ?_ | refine wkR_no ?_ | refine .cons ?_ ?_ | refine wkR_agg ?_ | refine wkR_tup ?_)) <;> rfl) | (rw [if_neg (by omega)]; (repeat' (first | exact .nil | exact wkR_c | exact wkR_own | exact wkR_nils | refine wkR_int ?_ | refine wkR_bool ?_ | refine wkR_sl ?_ | refine wkR_osl ?_ | refine wkR_nsl ?_ | refine wkR_oo ?_ | refine wkR_no ?_ | refine .cons ?_ ?_ | refine wkR_agg ?_ | refine wkR_tup ?_)) <;> first | rfl | (rw [sc, hacc]) | (simp only [sc]))
 case b5 =>
  have hp5 := hb5
  try simp only [kb] at hp5
  refine awp_skip ?_
  refine hK2 _ ?_
  refine seq_reg 1 fun L7 hL7 => ?_
  simp only [qq, seval, -Nat.reducePow, reduceIte, reduceCtorEq, hb5]
  refine aops_val (v := ?v8) rfl ?h8 ?_
  case h8 => simp only [qq, seval, -Nat.reducePow, reduceIte, reduceCtorEq, hb5]; first | (rw [wr_id] <;> omega) | rfl
  simp only [qq, seval, -Nat.reducePow, reduceIte, reduceCtorEq, hb5]
  refine aops_orunN 1 _ _ ?_
  simp only [qq, seval, -Nat.reducePow, reduceIte, reduceCtorEq, hb5]
  refine nil_z hL7 ?_
  refine awp_seq_k fun K9 hK9 => ?_
  refine seq_reg 2 fun L10 hL10 => ?_
  simp only [qq, seval, -Nat.reducePow, reduceIte, reduceCtorEq, hb5]
  refine nil_z hL10 ?_
  refine awp_cond (t := ?t11) ?h11 (fun hb11 => ?a11) (fun hb11 => ?b11)
  case h11 => simp only [qq, seval, -Nat.reducePow, reduceIte, reduceCtorEq, hb5]; rfl
  case a11 =>
   have hp11 := hb11
   try simp only [kb] at hp11
   refine reg 1 fun L12 hL12 => ?_
   simp only [qq, seval, -Nat.reducePow, reduceIte, reduceCtorEq, hb5, hb11]
   refine aops_val (v := ?v13) rfl ?h13 ?_
   case h13 => simp only [qq, seval, -Nat.reducePow, reduceIte, reduceCtorEq, hb5, hb11]; first | (rw [wr_id] <;> omega) | rfl
   simp only [qq, seval, -Nat.reducePow, reduceIte, reduceCtorEq, hb5, hb11]
   refine aops_val (v := ?v14) rfl ?h14 ?_
   case h14 => simp only [qq, seval, -Nat.reducePow, reduceIte, reduceCtorEq, hb5, hb11]; first | (rw [wr_id] <;> omega) | rfl
   simp only [qq, seval, -Nat.reducePow, reduceIte, reduceCtorEq, hb5, hb11]
   refine aops_val (v := ?v15) rfl ?h15 ?_
   case h15 => simp only [qq, seval, -Nat.reducePow, reduceIte, reduceCtorEq, hb5, hb11]; first | (rw [wr_id] <;> omega) | rfl
   simp only [qq, seval, -Nat.reducePow, reduceIte, reduceCtorEq, hb5, hb11]
   refine aops_orunN 1 _ _ ?_
   simp only [qq, seval, -Nat.reducePow, reduceIte, reduceCtorEq, hb5, hb11]
   refine nil_q hL12 ?_
   refine hK9 _ ?_
   as_aux_lemma =>
    have hf := foldN_or v
    refine seq_reg0 fun L16 hL16 => ?_
    refine aops_nilown 3 32 rfl rfl ?x17 ?_
    case x17 => simp only [qq, seval, -Nat.reducePow, reduceIte, reduceCtorEq, hb5, hb11]
    simp only [qq, seval, -Nat.reducePow, reduceIte, reduceCtorEq, hb5, hb11]
    refine nil_z hL16 ?_
    refine awp_seq_k fun K18 hK18 => ?_
    have hf := foldN_or v
    refine seq_reg 1 fun L19 hL19 => ?_
    simp only [qq, seval, -Nat.reducePow, reduceIte, reduceCtorEq, hb5, hb11]
    refine nil_z hL19 ?_
    refine awp_block ?_
    refine awp_loopW (W := [23, 24, 25, 26, 27, 28, 29, 30, 31, 32, 7, 33, 34, 6, 8]) (M := []) rfl rfl (fun kk s => ∃ (f : Nat) (m : Int) (acc : List Int) (b : Bool), kk = 1 + f ∧ (0 ≤ m) ∧ (m < 8 ^ f ∧ f ≤ 8) ∧ (acc.length + f ≤ 8) ∧ (acc ++ (if b = true ∨ m > 0 then dig f m else []) = dig 8 (foldN v)) ∧ (m > 0 → 1 ≤ f) ∧ (b = true → 1 ≤ f) ∧ s.t 6 = .c (.int .i64 m) ∧ s.t 7 = .own false 32 3 (Rw inC acc) ∧ s.t 8 = .c (.bool b)) ((fun (f : Nat) (m : Int) (acc : List Int) (b : Bool) => 1 + f) (8) (foldN v) ([]) (true)) ?i20 ?r20
    case i20 =>
     refine ⟨8, foldN v, [], true, rfl, ?_, ?_, ?_, ?_, ?_, ?_, ?_, ?_, ?_⟩
     · omega
     · (refine ⟨?_, Nat.le_refl _⟩; show _ < (16777216 : Int); omega)
     · (simp)
     · simp
     · omega
     · omega
     · (try simp only [qq, seval, -Nat.reducePow, reduceIte, reduceCtorEq, hb5, hb11])
       all_goals (simp only [AV.c.injEq, C.int.injEq, true_and]; omega)
     · (try simp only [qq, seval, -Nat.reducePow, reduceIte, reduceCtorEq, hb5, hb11])
       all_goals (first | done | rfl | (simp only [AV.c.injEq, C.int.injEq, List.cons.injEq, and_true, true_and]; omega))
     · (try simp only [qq, seval, -Nat.reducePow, reduceIte, reduceCtorEq, hb5, hb11])
       all_goals (first | done | rfl | (simp only [AV.c.injEq, C.int.injEq, List.cons.injEq, and_true, true_and]; omega))
    case r20 =>
     rintro kk s hf ⟨f, m, acc, b, rfl, hq8_0, hq8_1, hq8_2, hq8_3, hq8_4, hq8_5, s20t6, s20t7, s20t8⟩ K20 hK20
     have s20f0 := hf 0 rfl (by (try simp only [qq, seval, -Nat.reducePow, reduceIte, reduceCtorEq, kn, hb5, hb11]); all_goals rfl)
     simp only [qq, seval, -Nat.reducePow, reduceIte, reduceCtorEq, hb5, hb11] at s20f0
     have s20f4 := hf 4 rfl (by (try simp only [qq, seval, -Nat.reducePow, reduceIte, reduceCtorEq, kn, hb5, hb11]); all_goals rfl)
     simp only [qq, seval, -Nat.reducePow, reduceIte, reduceCtorEq, hb5, hb11] at s20f4
     have s20f5 := hf 5 rfl (by (try simp only [qq, seval, -Nat.reducePow, reduceIte, reduceCtorEq, kn, hb5, hb11]); all_goals rfl)
     simp only [qq, seval, -Nat.reducePow, reduceIte, reduceCtorEq, hb5, hb11] at s20f5
     clear hf
     refine awp_seq_k fun K21 hK21 => ?_
     refine seq_reg 2 fun L22 hL22 => ?_
     simp only [qq, seval, -Nat.reducePow, reduceIte, reduceCtorEq, hb5, hb11, s20t6, s20t7, s20t8, s20f0, s20f4, s20f5]
     refine aops_part (b := ?p23) 24 ?h23 (fun hb23 => ?a23) (fun hb23 => ?b23)
     case h23 => simp only [qq, seval, -Nat.reducePow, reduceIte, reduceCtorEq, hb5, hb11, s20t6, s20t7, s20t8, s20f0, s20f4, s20f5]; rfl
     case a23 =>
      have hp23 := hb23
      try simp only [kb] at hp23
      try simp only [hb23]
      refine aops_orunN 3 _ _ ?_
      simp only [qq, seval, -Nat.reducePow, reduceIte, reduceCtorEq, hb5, hb11, s20t6, s20t7, s20t8, s20f0, s20f4, s20f5, hb23]
      refine nil_z hL22 ?_
      as_aux_lemma =>
       refine awp_cond (t := true) (by simp only [qq, seval, -Nat.reducePow, reduceIte, reduceCtorEq, hb5, hb11, s20t6, s20t7, s20t8, s20f0, s20f4, s20f5, hb23]) (fun _ => ?_) (fun h => ?_)
       case refine_2 => cases h
       refine awp_skip ?_
       refine hK21 _ ?_
       refine awp_seq_k fun K24 hK24 => ?_
       refine awp_block ?_
       have hbm : b = true ∨ m > 0 := by first | exact .inl (by assumption) | exact .inr (by omega)
       have sm : m.tmod 8 = m % 8 := Int.tmod_eq_emod_of_nonneg hq8_0
       have hf1 : 1 ≤ f := by rcases hbm with h9 | h9; exact hq8_5 h9; exact hq8_4 h9
       have hds := dig_step (f := f) (m := m) hf1 hq8_0
       refine seq_reg 2 fun L25 hL25 => ?_
       simp only [qq, seval, -Nat.reducePow, reduceIte, reduceCtorEq, hb5, hb11, s20t6, s20t7, s20t8, s20f0, s20f4, s20f5, hb23, sm]
       refine aops_val (v := ?v26) rfl ?h26 ?_
       case h26 => simp only [qq, seval, -Nat.reducePow, reduceIte, reduceCtorEq, hb5, hb11, s20t6, s20t7, s20t8, s20f0, s20f4, s20f5, hb23, sm]; (rw [y_rem] <;> omega)
       simp only [qq, seval, -Nat.reducePow, reduceIte, reduceCtorEq, hb5, hb11, s20t6, s20t7, s20t8, s20f0, s20f4, s20f5, hb23, sm]
       refine aops_orunN 1 _ _ ?_
       simp only [qq, seval, -Nat.reducePow, reduceIte, reduceCtorEq, hb5, hb11, s20t6, s20t7, s20t8, s20f0, s20f4, s20f5, hb23, sm]
       refine aops_append (rows := ?rows27) (new := ?new27) rfl rfl rfl rfl rfl rfl un43 ?hx27 (by simp only [qq, seval, -Nat.reducePow, reduceIte, reduceCtorEq, maskO, maskN, hb5, hb11, s20t6, s20t7, s20t8, s20f0, s20f4, s20f5, hb23, sm]) (by simp only [qq, seval, -Nat.reducePow, reduceIte, reduceCtorEq, maskO, maskN, hb5, hb11, s20t6, s20t7, s20t8, s20f0, s20f4, s20f5, hb23, sm]) (by simp only [qq, seval, -Nat.reducePow, reduceIte, reduceCtorEq, hb5, hb11, s20t6, s20t7, s20t8, s20f0, s20f4, s20f5, hb23, sm]) ?hy27 (by simp only [tyf]; rfl) (by simp only [tyf]; decide) ?hsz27 ?hml27 ?hh27
       case hx27 => simp only [qq, seval, -Nat.reducePow, reduceIte, reduceCtorEq, AV.base, hb5, hb11, s20t6, s20t7, s20t8, s20f0, s20f4, s20f5, hb23, sm]; rfl
       case hy27 => simp only [qq, seval, -Nat.reducePow, reduceIte, reduceCtorEq, hb5, hb11, s20t6, s20t7, s20t8, s20f0, s20f4, s20f5, hb23, sm]; rfl
       case hsz27 => ((try simp only [tyf, rwR, List.length_append, List.length_cons, List.length_nil, List.length_take, List.length_drop]); omega)
       case hml27 => ((try simp only [maxLen, tyf, rwR, List.length_append, List.length_cons, List.length_nil, List.length_take, List.length_drop]); omega)
       simp only [qq, seval, -Nat.reducePow, reduceIte, reduceCtorEq, maskO, maskN, hb5, hb11, s20t6, s20t7, s20t8, s20f0, s20f4, s20f5, hb23, sm]
       refine aops_orunN 1 _ _ ?_
       simp only [qq, seval, -Nat.reducePow, reduceIte, reduceCtorEq, hb5, hb11, s20t6, s20t7, s20t8, s20f0, s20f4, s20f5, hb23, sm]
       refine aops_nil (hL25 _ ?_)
       simp only [qq, seval, -Nat.reducePow, reduceIte, reduceCtorEq, hb5, hb11, s20t6, s20t7, s20t8, s20f0, s20f4, s20f5, hb23, sm]
       have hp8 := pow8 (k := f) (by omega)
       have sq : m.tdiv 8 = m / 8 := Int.tdiv_eq_ediv_of_nonneg hq8_0
       refine reg 1 fun L28 hL28 => ?_
       simp only [qq, seval, -Nat.reducePow, reduceIte, reduceCtorEq, hb5, hb11, s20t6, s20t7, s20t8, s20f0, s20f4, s20f5, hb23, sm, sq]
       refine aops_val (v := ?v29) rfl ?h29 ?_
       case h29 => simp only [qq, seval, -Nat.reducePow, reduceIte, reduceCtorEq, hb5, hb11, s20t6, s20t7, s20t8, s20f0, s20f4, s20f5, hb23, sm, sq]; (rw [y_quo (by omega), sq, wr_id] <;> omega)
       simp only [qq, seval, -Nat.reducePow, reduceIte, reduceCtorEq, hb5, hb11, s20t6, s20t7, s20t8, s20f0, s20f4, s20f5, hb23, sm, sq]
       refine aops_orunN 1 _ _ ?_
       simp only [qq, seval, -Nat.reducePow, reduceIte, reduceCtorEq, hb5, hb11, s20t6, s20t7, s20t8, s20f0, s20f4, s20f5, hb23, sm, sq]
       refine nil_q hL28 ?_
       try simp only [rk_state]
       refine hK24 _ ?_
       refine reg 1 fun L30 hL30 => ?_
       simp only [qq, seval, -Nat.reducePow, reduceIte, reduceCtorEq, hb5, hb11, s20t6, s20t7, s20t8, s20f0, s20f4, s20f5, hb23, sm, sq]
       refine nil_q hL30 ?_
       try simp only [rk_state]
       refine hK20 _ ((fun (f : Nat) (m : Int) (acc : List Int) (b : Bool) => 1 + f) (f - 1) (m / 8) (acc ++ [m % 8]) (false)) ?_ ⟨f - 1, m / 8, acc ++ [m % 8], false, rfl, ?_, ?_, ?_, ?_, ?_, ?_, ?_, ?_, ?_⟩
       · (try simp only []); omega
       · omega
       · (refine ⟨?_, by omega⟩; obtain ⟨g, rfl⟩ : ∃ g, f = g + 1 := ⟨f - 1, by omega⟩; have h9 := hq8_1.1; rw [Int.pow_succ] at h9; simp only [Nat.add_sub_cancel]; omega)
       · (rw [List.length_append]; simp only [List.length_cons, List.length_nil]; omega)
       · (rw [← hq8_3, if_pos hbm, hds, List.append_assoc]; simp only [Bool.false_eq_true, false_or]; rfl)
       · (intro h7; obtain ⟨h8, _⟩ := div8_lt hq8_1.1 (by omega); omega)
       · (intro h7; cases h7)
       · (try simp only [qq, seval, -Nat.reducePow, reduceIte, reduceCtorEq, hb5, hb11, s20t6, s20t7, s20t8, s20f0, s20f4, s20f5, hb23, sm, sq])
         all_goals (first | done | rfl | (simp only [AV.c.injEq, C.int.injEq, List.cons.injEq, and_true, true_and]; omega))
       · (try simp only [qq, seval, -Nat.reducePow, reduceIte, reduceCtorEq, hb5, hb11, s20t6, s20t7, s20t8, s20f0, s20f4, s20f5, hb23, sm, sq])
         all_goals (first | done | rfl | (simp only [AV.c.injEq, C.int.injEq, List.cons.injEq, and_true, true_and]; omega))
       · (try simp only [qq, seval, -Nat.reducePow, reduceIte, reduceCtorEq, hb5, hb11, s20t6, s20t7, s20t8, s20f0, s20f4, s20f5, hb23, sm, sq])
         all_goals (first | done | rfl | (simp only [AV.c.injEq, C.int.injEq, List.cons.injEq, and_true, true_and]; omega))
     case b23 =>
      have hp23 := hb23
      try simp only [kb] at hp23
      try simp only [hb23]
      refine aops_orunN 3 _ _ ?_
      simp only [qq, seval, -Nat.reducePow, reduceIte, reduceCtorEq, hb5, hb11, s20t6, s20t7, s20t8, s20f0, s20f4, s20f5, hb23]
      refine nil_z hL22 ?_
      as_aux_lemma =>
       refine awp_cond (t := ?t31) ?h31 (fun hb31 => ?a31) (fun hb31 => ?b31)
       case h31 => simp only [qq, seval, -Nat.reducePow, reduceIte, reduceCtorEq, hb5, hb11, s20t6, s20t7, s20t8, s20f0, s20f4, s20f5, hb23]; rfl
       case a31 =>
        have hp31 := hb31
        try simp only [kb] at hp31
        refine awp_skip ?_
        refine hK21 _ ?_
        refine awp_seq_k fun K32 hK32 => ?_
        refine awp_block ?_
        have hbm : b = true ∨ m > 0 := by first | exact .inl (by assumption) | exact .inr (by omega)
        have sm : m.tmod 8 = m % 8 := Int.tmod_eq_emod_of_nonneg hq8_0
        have hf1 : 1 ≤ f := by rcases hbm with h9 | h9; exact hq8_5 h9; exact hq8_4 h9
        have hds := dig_step (f := f) (m := m) hf1 hq8_0
        refine seq_reg 2 fun L33 hL33 => ?_
        simp only [qq, seval, -Nat.reducePow, reduceIte, reduceCtorEq, hb5, hb11, s20t6, s20t7, s20t8, s20f0, s20f4, s20f5, hb23, hb31, sm]
        refine aops_val (v := ?v34) rfl ?h34 ?_
        case h34 => simp only [qq, seval, -Nat.reducePow, reduceIte, reduceCtorEq, hb5, hb11, s20t6, s20t7, s20t8, s20f0, s20f4, s20f5, hb23, hb31, sm]; (rw [y_rem] <;> omega)
        simp only [qq, seval, -Nat.reducePow, reduceIte, reduceCtorEq, hb5, hb11, s20t6, s20t7, s20t8, s20f0, s20f4, s20f5, hb23, hb31, sm]
        refine aops_orunN 1 _ _ ?_
        simp only [qq, seval, -Nat.reducePow, reduceIte, reduceCtorEq, hb5, hb11, s20t6, s20t7, s20t8, s20f0, s20f4, s20f5, hb23, hb31, sm]
        refine aops_append (rows := ?rows35) (new := ?new35) rfl rfl rfl rfl rfl rfl un43 ?hx35 (by simp only [qq, seval, -Nat.reducePow, reduceIte, reduceCtorEq, maskO, maskN, hb5, hb11, s20t6, s20t7, s20t8, s20f0, s20f4, s20f5, hb23, hb31, sm]) (by simp only [qq, seval, -Nat.reducePow, reduceIte, reduceCtorEq, maskO, maskN, hb5, hb11, s20t6, s20t7, s20t8, s20f0, s20f4, s20f5, hb23, hb31, sm]) (by simp only [qq, seval, -Nat.reducePow, reduceIte, reduceCtorEq, hb5, hb11, s20t6, s20t7, s20t8, s20f0, s20f4, s20f5, hb23, hb31, sm]) ?hy35 (by simp only [tyf]; rfl) (by simp only [tyf]; decide) ?hsz35 ?hml35 ?hh35
        case hx35 => simp only [qq, seval, -Nat.reducePow, reduceIte, reduceCtorEq, AV.base, hb5, hb11, s20t6, s20t7, s20t8, s20f0, s20f4, s20f5, hb23, hb31, sm]; rfl
        case hy35 => simp only [qq, seval, -Nat.reducePow, reduceIte, reduceCtorEq, hb5, hb11, s20t6, s20t7, s20t8, s20f0, s20f4, s20f5, hb23, hb31, sm]; rfl
        case hsz35 => ((try simp only [tyf, rwR, List.length_append, List.length_cons, List.length_nil, List.length_take, List.length_drop]); omega)
        case hml35 => ((try simp only [maxLen, tyf, rwR, List.length_append, List.length_cons, List.length_nil, List.length_take, List.length_drop]); omega)
        simp only [qq, seval, -Nat.reducePow, reduceIte, reduceCtorEq, maskO, maskN, hb5, hb11, s20t6, s20t7, s20t8, s20f0, s20f4, s20f5, hb23, hb31, sm]
        refine aops_orunN 1 _ _ ?_
        simp only [qq, seval, -Nat.reducePow, reduceIte, reduceCtorEq, hb5, hb11, s20t6, s20t7, s20t8, s20f0, s20f4, s20f5, hb23, hb31, sm]
        refine aops_nil (hL33 _ ?_)
        simp only [qq, seval, -Nat.reducePow, reduceIte, reduceCtorEq, hb5, hb11, s20t6, s20t7, s20t8, s20f0, s20f4, s20f5, hb23, hb31, sm]
        have hp8 := pow8 (k := f) (by omega)
        have sq : m.tdiv 8 = m / 8 := Int.tdiv_eq_ediv_of_nonneg hq8_0
        refine reg 1 fun L36 hL36 => ?_
        simp only [qq, seval, -Nat.reducePow, reduceIte, reduceCtorEq, hb5, hb11, s20t6, s20t7, s20t8, s20f0, s20f4, s20f5, hb23, hb31, sm, sq]
        refine aops_val (v := ?v37) rfl ?h37 ?_
        case h37 => simp only [qq, seval, -Nat.reducePow, reduceIte, reduceCtorEq, hb5, hb11, s20t6, s20t7, s20t8, s20f0, s20f4, s20f5, hb23, hb31, sm, sq]; (rw [y_quo (by omega), sq, wr_id] <;> omega)
        simp only [qq, seval, -Nat.reducePow, reduceIte, reduceCtorEq, hb5, hb11, s20t6, s20t7, s20t8, s20f0, s20f4, s20f5, hb23, hb31, sm, sq]
        refine aops_orunN 1 _ _ ?_
        simp only [qq, seval, -Nat.reducePow, reduceIte, reduceCtorEq, hb5, hb11, s20t6, s20t7, s20t8, s20f0, s20f4, s20f5, hb23, hb31, sm, sq]
        refine nil_q hL36 ?_
        try simp only [rk_state]
        refine hK32 _ ?_
        refine reg 1 fun L38 hL38 => ?_
        simp only [qq, seval, -Nat.reducePow, reduceIte, reduceCtorEq, hb5, hb11, s20t6, s20t7, s20t8, s20f0, s20f4, s20f5, hb23, hb31, sm, sq]
        refine nil_q hL38 ?_
        try simp only [rk_state]
        refine hK20 _ ((fun (f : Nat) (m : Int) (acc : List Int) (b : Bool) => 1 + f) (f - 1) (m / 8) (acc ++ [m % 8]) (false)) ?_ ⟨f - 1, m / 8, acc ++ [m % 8], false, rfl, ?_, ?_, ?_, ?_, ?_, ?_, ?_, ?_, ?_⟩
        · (try simp only []); omega
        · omega
        · (refine ⟨?_, by omega⟩; obtain ⟨g, rfl⟩ : ∃ g, f = g + 1 := ⟨f - 1, by omega⟩; have h9 := hq8_1.1; rw [Int.pow_succ] at h9; simp only [Nat.add_sub_cancel]; omega)
        · (rw [List.length_append]; simp only [List.length_cons, List.length_nil]; omega)
        · (rw [← hq8_3, if_pos hbm, hds, List.append_assoc]; simp only [Bool.false_eq_true, false_or]; rfl)
        · (intro h7; obtain ⟨h8, _⟩ := div8_lt hq8_1.1 (by omega); omega)
        · (intro h7; cases h7)
        · (try simp only [qq, seval, -Nat.reducePow, reduceIte, reduceCtorEq, hb5, hb11, s20t6, s20t7, s20t8, s20f0, s20f4, s20f5, hb23, hb31, sm, sq])
          all_goals (first | done | rfl | (simp only [AV.c.injEq, C.int.injEq, List.cons.injEq, and_true, true_and]; omega))
        · (try simp only [qq, seval, -Nat.reducePow, reduceIte, reduceCtorEq, hb5, hb11, s20t6, s20t7, s20t8, s20f0, s20f4, s20f5, hb23, hb31, sm, sq])
          all_goals (first | done | rfl | (simp only [AV.c.injEq, C.int.injEq, List.cons.injEq, and_true, true_and]; omega))
        · (try simp only [qq, seval, -Nat.reducePow, reduceIte, reduceCtorEq, hb5, hb11, s20t6, s20t7, s20t8, s20f0, s20f4, s20f5, hb23, hb31, sm, sq])
          all_goals (first | done | rfl | (simp only [AV.c.injEq, C.int.injEq, List.cons.injEq, and_true, true_and]; omega))
       case b31 =>
        have hp31 := hb31
        try simp only [kb] at hp31
        refine awp_exit ?_
        simp only [rk_state, reduceIte, Nat.reduceEqDiff]
        refine hK18 _ ?_
        as_aux_lemma =>
         have hacc : acc = dig 8 (foldN v) := by rw [← hq8_3, if_neg (by rcases b with _ | _ <;> simp_all <;> omega), List.append_nil]
         have hal : acc.length ≤ 8 := by omega
         refine seq_reg 1 fun L39 hL39 => ?_
         simp only [qq, seval, -Nat.reducePow, reduceIte, reduceCtorEq, hb5, hb11, s20t6, s20t7, s20t8, s20f0, s20f4, s20f5, hb23, hb31]
         refine aops_call_own (clone_bool_fun _ ?s40_0) rfl rfl rfl rfl (by (try simp only [qq, seval, -Nat.reducePow, reduceIte, reduceCtorEq, hb5, hb11, s20t6, s20t7, s20t8, s20f0, s20f4, s20f5, hb23, hb31]); (repeat' (first | exact .nil | exact wk_c | exact wk_ownc | exact wk_nilsc | exact wk_nils | exact wk_fn | refine .cons ?_ ?_ | refine wk_agg ?_ | refine wk_fnL ?_))) rfl rfl rfl (by simp only [qq, seval, -Nat.reducePow, reduceIte, reduceCtorEq, hb5, hb11, s20t6, s20t7, s20t8, s20f0, s20f4, s20f5, hb23, hb31]) ?m40
         case s40_0 => first | assumption | omega | decide +kernel | (simp only [List.length_take, List.length_drop]; omega)
         simp only [qq, seval, -Nat.reducePow, reduceIte, reduceCtorEq, AV.setOwn, AV.setOwn1, hb5, hb11, s20t6, s20t7, s20t8, s20f0, s20f4, s20f5, hb23, hb31]
         refine aops_orunN 1 _ _ ?_
         simp only [qq, seval, -Nat.reducePow, reduceIte, reduceCtorEq, hb5, hb11, s20t6, s20t7, s20t8, s20f0, s20f4, s20f5, hb23, hb31]
         refine aops_nil (hL39 _ ?_)
         simp only [qq, seval, -Nat.reducePow, reduceIte, reduceCtorEq, hb5, hb11, s20t6, s20t7, s20t8, s20f0, s20f4, s20f5, hb23, hb31]
         refine awp_seq_k fun K41 hK41 => ?_
         refine seq_reg 3 fun L42 hL42 => ?_
         simp only [qq, seval, -Nat.reducePow, reduceIte, reduceCtorEq, hb5, hb11, s20t6, s20t7, s20t8, s20f0, s20f4, s20f5, hb23, hb31]
         refine nil_z hL42 ?_
         refine awp_block ?_
         refine awp_loopW (W := [40, 41, 42, 43, 10, 11, 44, 45, 46, 47, 48, 49, 50, 51, 52, 53, 54, 55, 56, 57, 58, 59, 9, 60, 39]) (M := []) rfl rfl (fun kk s => ∃ (i : Nat) (d : Nat), kk = acc.length - i ∧ (i ≤ acc.length) ∧ s.t 9 = .own false d 4 (Rw boC (l ++ codeAt acc i)) ∧ s.t 39 = .c (.int .i64 (i : Int))) ((fun (i : Nat) (d : Nat) => acc.length - i) (0) (36)) ?i43 ?r43
         case i43 =>
          refine ⟨0, 36, rfl, ?_, ?_, ?_⟩
          · first | omega | simp
          · (try simp only [qq, seval, -Nat.reducePow, reduceIte, reduceCtorEq, hb5, hb11, s20t6, s20t7, s20t8, s20f0, s20f4, s20f5, hb23, hb31])
            all_goals (rw [show codeAt acc 0 = [] from rfl, List.append_nil])
          · (try simp only [qq, seval, -Nat.reducePow, reduceIte, reduceCtorEq, hb5, hb11, s20t6, s20t7, s20t8, s20f0, s20f4, s20f5, hb23, hb31])
            all_goals (first | done | rfl | (simp only [AV.c.injEq, C.int.injEq, List.cons.injEq, and_true, true_and]; omega))
         case r43 =>
          rintro kk s hf ⟨i, d, rfl, hq14_0, s43t9, s43t39⟩ K43 hK43
          have s43f4 := hf 4 rfl (by (try simp only [qq, seval, -Nat.reducePow, reduceIte, reduceCtorEq, kn, hb5, hb11, s20t6, s20t7, s20t8, s20f0, s20f4, s20f5, hb23, hb31]); all_goals rfl)
          simp only [qq, seval, -Nat.reducePow, reduceIte, reduceCtorEq, hb5, hb11, s20t6, s20t7, s20t8, s20f0, s20f4, s20f5, hb23, hb31] at s43f4
          have s43f5 := hf 5 rfl (by (try simp only [qq, seval, -Nat.reducePow, reduceIte, reduceCtorEq, kn, hb5, hb11, s20t6, s20t7, s20t8, s20f0, s20f4, s20f5, hb23, hb31]); all_goals rfl)
          simp only [qq, seval, -Nat.reducePow, reduceIte, reduceCtorEq, hb5, hb11, s20t6, s20t7, s20t8, s20f0, s20f4, s20f5, hb23, hb31] at s43f5
          have s43f7 := hf 7 rfl (by (try simp only [qq, seval, -Nat.reducePow, reduceIte, reduceCtorEq, kn, hb5, hb11, s20t6, s20t7, s20t8, s20f0, s20f4, s20f5, hb23, hb31]); all_goals rfl)
          simp only [qq, seval, -Nat.reducePow, reduceIte, reduceCtorEq, hb5, hb11, s20t6, s20t7, s20t8, s20f0, s20f4, s20f5, hb23, hb31] at s43f7
          have s43f37 := hf 37 rfl (by (try simp only [qq, seval, -Nat.reducePow, reduceIte, reduceCtorEq, kn, hb5, hb11, s20t6, s20t7, s20t8, s20f0, s20f4, s20f5, hb23, hb31]); all_goals rfl)
          simp only [qq, seval, -Nat.reducePow, reduceIte, reduceCtorEq, hb5, hb11, s20t6, s20t7, s20t8, s20f0, s20f4, s20f5, hb23, hb31] at s43f37
          have s43f38 := hf 38 rfl (by (try simp only [qq, seval, -Nat.reducePow, reduceIte, reduceCtorEq, kn, hb5, hb11, s20t6, s20t7, s20t8, s20f0, s20f4, s20f5, hb23, hb31]); all_goals rfl)
          simp only [qq, seval, -Nat.reducePow, reduceIte, reduceCtorEq, hb5, hb11, s20t6, s20t7, s20t8, s20f0, s20f4, s20f5, hb23, hb31] at s43f38
          clear hf
          have hcl := codeAt_len acc i
          refine seq_reg 1 fun L44 hL44 => ?_
          simp only [qq, seval, -Nat.reducePow, reduceIte, reduceCtorEq, hb5, hb11, s20t6, s20t7, s20t8, s20f0, s20f4, s20f5, hb23, hb31, s43t9, s43t39, s43f4, s43f5, s43f7, s43f37, s43f38]
          refine nil_z hL44 ?_
          as_aux_lemma =>
           refine awp_seq_k fun K45 hK45 => ?_
           refine awp_cond (t := ?t46) ?h46 (fun hb46 => ?a46) (fun hb46 => ?b46)
           case h46 => simp only [qq, seval, -Nat.reducePow, reduceIte, reduceCtorEq, hb5, hb11, s20t6, s20t7, s20t8, s20f0, s20f4, s20f5, hb23, hb31, s43t9, s43t39, s43f4, s43f5, s43f7, s43f37, s43f38]; rfl
           case a46 =>
            have hp46 := hb46
            try simp only [kb] at hp46
            refine awp_skip ?_
            refine hK45 _ ?_
            refine awp_seq_k fun K47 hK47 => ?_
            refine awp_block ?_
            refine seq_reg 1 fun L48 hL48 => ?_
            simp only [qq, seval, -Nat.reducePow, reduceIte, reduceCtorEq, hb5, hb11, s20t6, s20t7, s20t8, s20f0, s20f4, s20f5, hb23, hb31, s43t9, s43t39, s43f4, s43f5, s43f7, s43f37, s43f38, hb46]
            refine aops_val (v := ?v49) rfl ?h49 ?_
            case h49 => simp only [qq, seval, -Nat.reducePow, reduceIte, reduceCtorEq, hb5, hb11, s20t6, s20t7, s20t8, s20f0, s20f4, s20f5, hb23, hb31, s43t9, s43t39, s43f4, s43f5, s43f7, s43f37, s43f38, hb46]; first | (rw [idx_c un43 if3] <;> omega) | (rw [idx_o un43 if3] <;> omega) | (rw [idx_a un43 if3] <;> omega)
            simp only [qq, seval, -Nat.reducePow, reduceIte, reduceCtorEq, hb5, hb11, s20t6, s20t7, s20t8, s20f0, s20f4, s20f5, hb23, hb31, s43t9, s43t39, s43f4, s43f5, s43f7, s43f37, s43f38, hb46]
            refine aops_orunN 3 _ _ ?_
            simp only [qq, seval, -Nat.reducePow, reduceIte, reduceCtorEq, hb5, hb11, s20t6, s20t7, s20t8, s20f0, s20f4, s20f5, hb23, hb31, s43t9, s43t39, s43f4, s43f5, s43f7, s43f37, s43f38, hb46]
            refine nil_z hL48 ?_
            refine reg 4 fun L50 hL50 => ?_
            simp only [qq, seval, -Nat.reducePow, reduceIte, reduceCtorEq, hb5, hb11, s20t6, s20t7, s20t8, s20f0, s20f4, s20f5, hb23, hb31, s43t9, s43t39, s43f4, s43f5, s43f7, s43f37, s43f38, hb46]
            refine aops_val (v := ?v51) rfl ?h51 ?_
            case h51 => simp only [qq, seval, -Nat.reducePow, reduceIte, reduceCtorEq, hb5, hb11, s20t6, s20t7, s20t8, s20f0, s20f4, s20f5, hb23, hb31, s43t9, s43t39, s43f4, s43f5, s43f7, s43f37, s43f38, hb46]; first | (rw [wr_id] <;> omega) | rfl
            simp only [qq, seval, -Nat.reducePow, reduceIte, reduceCtorEq, hb5, hb11, s20t6, s20t7, s20t8, s20f0, s20f4, s20f5, hb23, hb31, s43t9, s43t39, s43f4, s43f5, s43f7, s43f37, s43f38, hb46]
            refine aops_orunN 4 _ _ ?_
            simp only [qq, seval, -Nat.reducePow, reduceIte, reduceCtorEq, hb5, hb11, s20t6, s20t7, s20t8, s20f0, s20f4, s20f5, hb23, hb31, s43t9, s43t39, s43f4, s43f5, s43f7, s43f37, s43f38, hb46]
            refine aops_val (v := ?v52) rfl ?h52 ?_
            case h52 => simp only [qq, seval, -Nat.reducePow, reduceIte, reduceCtorEq, hb5, hb11, s20t6, s20t7, s20t8, s20f0, s20f4, s20f5, hb23, hb31, s43t9, s43t39, s43f4, s43f5, s43f7, s43f37, s43f38, hb46]; (rw [y_rem] <;> omega)
            simp only [qq, seval, -Nat.reducePow, reduceIte, reduceCtorEq, hb5, hb11, s20t6, s20t7, s20t8, s20f0, s20f4, s20f5, hb23, hb31, s43t9, s43t39, s43f4, s43f5, s43f7, s43f37, s43f38, hb46]
            refine aops_orunN 2 _ _ ?_
            simp only [qq, seval, -Nat.reducePow, reduceIte, reduceCtorEq, hb5, hb11, s20t6, s20t7, s20t8, s20f0, s20f4, s20f5, hb23, hb31, s43t9, s43t39, s43f4, s43f5, s43f7, s43f37, s43f38, hb46]
            refine aops_val (v := ?v53) rfl ?h53 ?_
            case h53 => simp only [qq, seval, -Nat.reducePow, reduceIte, reduceCtorEq, hb5, hb11, s20t6, s20t7, s20t8, s20f0, s20f4, s20f5, hb23, hb31, s43t9, s43t39, s43f4, s43f5, s43f7, s43f37, s43f38, hb46]; (rw [y_rem] <;> omega)
            simp only [qq, seval, -Nat.reducePow, reduceIte, reduceCtorEq, hb5, hb11, s20t6, s20t7, s20t8, s20f0, s20f4, s20f5, hb23, hb31, s43t9, s43t39, s43f4, s43f5, s43f7, s43f37, s43f38, hb46]
            refine aops_orunN 2 _ _ ?_
            simp only [qq, seval, -Nat.reducePow, reduceIte, reduceCtorEq, hb5, hb11, s20t6, s20t7, s20t8, s20f0, s20f4, s20f5, hb23, hb31, s43t9, s43t39, s43f4, s43f5, s43f7, s43f37, s43f38, hb46]
            refine aops_append (rows := ?rows54) (new := ?new54) rfl rfl rfl rfl rfl rfl un36 ?hx54 (by simp only [qq, seval, -Nat.reducePow, reduceIte, reduceCtorEq, maskO, maskN, hb5, hb11, s20t6, s20t7, s20t8, s20f0, s20f4, s20f5, hb23, hb31, s43t9, s43t39, s43f4, s43f5, s43f7, s43f37, s43f38, hb46]) (by simp only [qq, seval, -Nat.reducePow, reduceIte, reduceCtorEq, maskO, maskN, hb5, hb11, s20t6, s20t7, s20t8, s20f0, s20f4, s20f5, hb23, hb31, s43t9, s43t39, s43f4, s43f5, s43f7, s43f37, s43f38, hb46]) (by simp only [qq, seval, -Nat.reducePow, reduceIte, reduceCtorEq, hb5, hb11, s20t6, s20t7, s20t8, s20f0, s20f4, s20f5, hb23, hb31, s43t9, s43t39, s43f4, s43f5, s43f7, s43f37, s43f38, hb46]) ?hy54 (by simp only [tyf]; rfl) (by simp only [tyf]; decide) ?hsz54 ?hml54 ?hh54
            case hx54 => simp only [qq, seval, -Nat.reducePow, reduceIte, reduceCtorEq, AV.base, hb5, hb11, s20t6, s20t7, s20t8, s20f0, s20f4, s20f5, hb23, hb31, s43t9, s43t39, s43f4, s43f5, s43f7, s43f37, s43f38, hb46]; rfl
            case hy54 => simp only [qq, seval, -Nat.reducePow, reduceIte, reduceCtorEq, hb5, hb11, s20t6, s20t7, s20t8, s20f0, s20f4, s20f5, hb23, hb31, s43t9, s43t39, s43f4, s43f5, s43f7, s43f37, s43f38, hb46]; rfl
            case hsz54 => ((try simp only [tyf, rwR, List.length_append, List.length_cons, List.length_nil, List.length_take, List.length_drop]); omega)
            case hml54 => ((try simp only [maxLen, tyf, rwR, List.length_append, List.length_cons, List.length_nil, List.length_take, List.length_drop]); omega)
            simp only [qq, seval, -Nat.reducePow, reduceIte, reduceCtorEq, maskO, maskN, hb5, hb11, s20t6, s20t7, s20t8, s20f0, s20f4, s20f5, hb23, hb31, s43t9, s43t39, s43f4, s43f5, s43f7, s43f37, s43f38, hb46]
            refine aops_orunN 1 _ _ ?_
            simp only [qq, seval, -Nat.reducePow, reduceIte, reduceCtorEq, hb5, hb11, s20t6, s20t7, s20t8, s20f0, s20f4, s20f5, hb23, hb31, s43t9, s43t39, s43f4, s43f5, s43f7, s43f37, s43f38, hb46]
            refine aops_nil (hL50 _ ?_)
            simp only [qq, seval, -Nat.reducePow, reduceIte, reduceCtorEq, hb5, hb11, s20t6, s20t7, s20t8, s20f0, s20f4, s20f5, hb23, hb31, s43t9, s43t39, s43f4, s43f5, s43f7, s43f37, s43f38, hb46]
            try simp only [rk_state]
            refine hK47 _ ?_
            refine reg 0 fun L55 hL55 => ?_
            simp only [qq, seval, -Nat.reducePow, reduceIte, reduceCtorEq, hb5, hb11, s20t6, s20t7, s20t8, s20f0, s20f4, s20f5, hb23, hb31, s43t9, s43t39, s43f4, s43f5, s43f7, s43f37, s43f38, hb46]
            refine aops_val (v := ?v56) rfl ?h56 ?_
            case h56 => simp only [qq, seval, -Nat.reducePow, reduceIte, reduceCtorEq, hb5, hb11, s20t6, s20t7, s20t8, s20f0, s20f4, s20f5, hb23, hb31, s43t9, s43t39, s43f4, s43f5, s43f7, s43f37, s43f38, hb46]; first | (rw [wr_id] <;> omega) | rfl
            simp only [qq, seval, -Nat.reducePow, reduceIte, reduceCtorEq, hb5, hb11, s20t6, s20t7, s20t8, s20f0, s20f4, s20f5, hb23, hb31, s43t9, s43t39, s43f4, s43f5, s43f7, s43f37, s43f38, hb46]
            refine aops_orunN 1 _ _ ?_
            simp only [qq, seval, -Nat.reducePow, reduceIte, reduceCtorEq, hb5, hb11, s20t6, s20t7, s20t8, s20f0, s20f4, s20f5, hb23, hb31, s43t9, s43t39, s43f4, s43f5, s43f7, s43f37, s43f38, hb46]
            refine nil_q hL55 ?_
            try simp only [rk_state]
            have sn := codeAt_next acc i
            refine hK43 _ ((fun (i : Nat) (d : Nat) => acc.length - i) (i + 1) (59)) ?_ ⟨i + 1, 59, rfl, ?_, ?_, ?_⟩
            · (try simp only []); omega
            · first | omega | simp
            · (try simp only [qq, seval, -Nat.reducePow, reduceIte, reduceCtorEq, hb5, hb11, s20t6, s20t7, s20t8, s20f0, s20f4, s20f5, hb23, hb31, s43t9, s43t39, s43f4, s43f5, s43f7, s43f37, s43f38, hb46, sn])
              all_goals (first | done | rfl | (simp only [List.append_assoc]; rfl))
            · (try simp only [qq, seval, -Nat.reducePow, reduceIte, reduceCtorEq, hb5, hb11, s20t6, s20t7, s20t8, s20f0, s20f4, s20f5, hb23, hb31, s43t9, s43t39, s43f4, s43f5, s43f7, s43f37, s43f38, hb46, sn])
              all_goals (first | done | rfl | (simp only [AV.c.injEq, C.int.injEq, List.cons.injEq, and_true, true_and]; omega))
           case b46 =>
            have hp46 := hb46
            try simp only [kb] at hp46
            refine awp_exit ?_
            simp only [rk_state, reduceIte, Nat.reduceEqDiff]
            refine hK41 _ ?_
            as_aux_lemma =>
             have ei : i = acc.length := by omega
             subst ei
             have sc := code_fold (v := v) (by omega)
             rw [← hacc] at sc
             refine seq_reg 3 fun L57 hL57 => ?_
             simp only [qq, seval, -Nat.reducePow, reduceIte, reduceCtorEq, hb5, hb11, s20t6, s20t7, s20t8, s20f0, s20f4, s20f5, hb23, hb31, s43t9, s43t39, s43f4, s43f5, s43f7, s43f37, s43f38, hb46, sc]
             refine nil_z hL57 ?_
             refine awp_ret ?_
             try simp only [rk_state]
             first | refine ⟨_, d, by simp only [qq, seval, -Nat.reducePow, reduceIte, reduceCtorEq, resA, Try.results41, hb5, hb11, s20t6, s20t7, s20t8, s20f0, s20f4, s20f5, hb23, hb31, s43t9, s43t39, s43f4, s43f5, s43f7, s43f37, s43f38, hb46, sc]; rfl, ?_, nomem_a, nomem_a⟩ | refine ⟨_, 0, by simp only [qq, seval, -Nat.reducePow, reduceIte, reduceCtorEq, resA, Try.results41, hb5, hb11, s20t6, s20t7, s20t8, s20f0, s20f4, s20f5, hb23, hb31, s43t9, s43t39, s43f4, s43f5, s43f7, s43f37, s43f38, hb46, sc]; rfl, ?_, nomem_a, nomem_a⟩
             simp only [packA]
             (unfold zputR); first | (rw [if_pos (by omega)]; (repeat' (first | exact .nil | exact wkR_c | exact wkR_own | exact wkR_nils | refine wkR_int ?_ | refine wkR_bool ?_ | refine wkR_sl ?_ | refine wkR_osl ?_ | refine wkR_nsl ?_ | refine wkR_oo ?_ | refine wkR_no ?_ | refine .cons ?_ ?_ | refine wkR_agg ?_ | refine wkR_tup ?_)) <;> rfl) | (rw [if_neg (by omega)]; (repeat' (first | exact .nil | exact wkR_c | exact wkR_own | exact wkR_nils | refine wkR_int ?_ | refine wkR_bool ?_ | refine wkR_sl ?_ | refine wkR_osl ?_ | refine wkR_nsl ?_ | refine wkR_oo ?_ | refine wkR_no ?_ | refine .cons ?_ ?_ | refine wkR_agg ?_ | refine wkR_tup ?_)) <;> first | rfl | (rw [sc, hacc]) | (simp only [sc]))
  case b11 =>
   have hp11 := hb11
   try simp only [kb] at hp11
   refine awp_skip ?_
   refine hK9 _ ?_
   have hf := foldN_or v
   refine seq_reg0 fun L58 hL58 => ?_
   refine aops_nilown 3 32 rfl rfl ?x59 ?_
   case x59 => simp only [qq, seval, -Nat.reducePow, reduceIte, reduceCtorEq, hb5, hb11]
   simp only [qq, seval, -Nat.reducePow, reduceIte, reduceCtorEq, hb5, hb11]
   refine nil_z hL58 ?_
   refine awp_seq_k fun K60 hK60 => ?_
   have hf := foldN_or v
   refine seq_reg 1 fun L61 hL61 => ?_
   simp only [qq, seval, -Nat.reducePow, reduceIte, reduceCtorEq, hb5, hb11]
   refine nil_z hL61 ?_
   as_aux_lemma =>
    refine awp_block ?_
    refine awp_loopW (W := [23, 24, 25, 26, 27, 28, 29, 30, 31, 32, 7, 33, 34, 6, 8]) (M := []) rfl rfl (fun kk s => ∃ (f : Nat) (m : Int) (acc : List Int) (b : Bool), kk = 1 + f ∧ (0 ≤ m) ∧ (m < 8 ^ f ∧ f ≤ 8) ∧ (acc.length + f ≤ 8) ∧ (acc ++ (if b = true ∨ m > 0 then dig f m else []) = dig 8 (foldN v)) ∧ (m > 0 → 1 ≤ f) ∧ (b = true → 1 ≤ f) ∧ s.t 6 = .c (.int .i64 m) ∧ s.t 7 = .own false 32 3 (Rw inC acc) ∧ s.t 8 = .c (.bool b)) ((fun (f : Nat) (m : Int) (acc : List Int) (b : Bool) => 1 + f) (8) (foldN v) ([]) (true)) ?i62 ?r62
    case i62 =>
     refine ⟨8, foldN v, [], true, rfl, ?_, ?_, ?_, ?_, ?_, ?_, ?_, ?_, ?_⟩
     · omega
     · (refine ⟨?_, Nat.le_refl _⟩; show _ < (16777216 : Int); omega)
     · (simp)
     · simp
     · omega
     · omega
     · (try simp only [qq, seval, -Nat.reducePow, reduceIte, reduceCtorEq, hb5, hb11])
       all_goals (simp only [AV.c.injEq, C.int.injEq, true_and]; omega)
     · (try simp only [qq, seval, -Nat.reducePow, reduceIte, reduceCtorEq, hb5, hb11])
       all_goals (first | done | rfl | (simp only [AV.c.injEq, C.int.injEq, List.cons.injEq, and_true, true_and]; omega))
     · (try simp only [qq, seval, -Nat.reducePow, reduceIte, reduceCtorEq, hb5, hb11])
       all_goals (first | done | rfl | (simp only [AV.c.injEq, C.int.injEq, List.cons.injEq, and_true, true_and]; omega))
    case r62 =>
     rintro kk s hf ⟨f, m, acc, b, rfl, hq8_0, hq8_1, hq8_2, hq8_3, hq8_4, hq8_5, s62t6, s62t7, s62t8⟩ K62 hK62
     have s62f0 := hf 0 rfl (by (try simp only [qq, seval, -Nat.reducePow, reduceIte, reduceCtorEq, kn, hb5, hb11]); all_goals rfl)
     simp only [qq, seval, -Nat.reducePow, reduceIte, reduceCtorEq, hb5, hb11] at s62f0
     have s62f4 := hf 4 rfl (by (try simp only [qq, seval, -Nat.reducePow, reduceIte, reduceCtorEq, kn, hb5, hb11]); all_goals rfl)
     simp only [qq, seval, -Nat.reducePow, reduceIte, reduceCtorEq, hb5, hb11] at s62f4
     have s62f5 := hf 5 rfl (by (try simp only [qq, seval, -Nat.reducePow, reduceIte, reduceCtorEq, kn, hb5, hb11]); all_goals rfl)
     simp only [qq, seval, -Nat.reducePow, reduceIte, reduceCtorEq, hb5, hb11] at s62f5
     clear hf
     refine awp_seq_k fun K63 hK63 => ?_
     refine seq_reg 2 fun L64 hL64 => ?_
     simp only [qq, seval, -Nat.reducePow, reduceIte, reduceCtorEq, hb5, hb11, s62t6, s62t7, s62t8, s62f0, s62f4, s62f5]
     refine aops_part (b := ?p65) 24 ?h65 (fun hb65 => ?a65) (fun hb65 => ?b65)
     case h65 => simp only [qq, seval, -Nat.reducePow, reduceIte, reduceCtorEq, hb5, hb11, s62t6, s62t7, s62t8, s62f0, s62f4, s62f5]; rfl
     case a65 =>
      have hp65 := hb65
      try simp only [kb] at hp65
      try simp only [hb65]
      refine aops_orunN 3 _ _ ?_
      simp only [qq, seval, -Nat.reducePow, reduceIte, reduceCtorEq, hb5, hb11, s62t6, s62t7, s62t8, s62f0, s62f4, s62f5, hb65]
      refine nil_z hL64 ?_
      refine awp_cond (t := true) (by simp only [qq, seval, -Nat.reducePow, reduceIte, reduceCtorEq, hb5, hb11, s62t6, s62t7, s62t8, s62f0, s62f4, s62f5, hb65]) (fun _ => ?_) (fun h => ?_)
      case refine_2 => cases h
      refine awp_skip ?_
      refine hK63 _ ?_
      refine awp_seq_k fun K66 hK66 => ?_
      refine awp_block ?_
      have hbm : b = true ∨ m > 0 := by first | exact .inl (by assumption) | exact .inr (by omega)
      have sm : m.tmod 8 = m % 8 := Int.tmod_eq_emod_of_nonneg hq8_0
      have hf1 : 1 ≤ f := by rcases hbm with h9 | h9; exact hq8_5 h9; exact hq8_4 h9
      have hds := dig_step (f := f) (m := m) hf1 hq8_0
      refine seq_reg 2 fun L67 hL67 => ?_
      simp only [qq, seval, -Nat.reducePow, reduceIte, reduceCtorEq, hb5, hb11, s62t6, s62t7, s62t8, s62f0, s62f4, s62f5, hb65, sm]
      refine aops_val (v := ?v68) rfl ?h68 ?_
      case h68 => simp only [qq, seval, -Nat.reducePow, reduceIte, reduceCtorEq, hb5, hb11, s62t6, s62t7, s62t8, s62f0, s62f4, s62f5, hb65, sm]; (rw [y_rem] <;> omega)
      simp only [qq, seval, -Nat.reducePow, reduceIte, reduceCtorEq, hb5, hb11, s62t6, s62t7, s62t8, s62f0, s62f4, s62f5, hb65, sm]
      refine aops_orunN 1 _ _ ?_
      simp only [qq, seval, -Nat.reducePow, reduceIte, reduceCtorEq, hb5, hb11, s62t6, s62t7, s62t8, s62f0, s62f4, s62f5, hb65, sm]
      refine aops_append (rows := ?rows69) (new := ?new69) rfl rfl rfl rfl rfl rfl un43 ?hx69 (by simp only [qq, seval, -Nat.reducePow, reduceIte, reduceCtorEq, maskO, maskN, hb5, hb11, s62t6, s62t7, s62t8, s62f0, s62f4, s62f5, hb65, sm]) (by simp only [qq, seval, -Nat.reducePow, reduceIte, reduceCtorEq, maskO, maskN, hb5, hb11, s62t6, s62t7, s62t8, s62f0, s62f4, s62f5, hb65, sm]) (by simp only [qq, seval, -Nat.reducePow, reduceIte, reduceCtorEq, hb5, hb11, s62t6, s62t7, s62t8, s62f0, s62f4, s62f5, hb65, sm]) ?hy69 (by simp only [tyf]; rfl) (by simp only [tyf]; decide) ?hsz69 ?hml69 ?hh69
      case hx69 => simp only [qq, seval, -Nat.reducePow, reduceIte, reduceCtorEq, AV.base, hb5, hb11, s62t6, s62t7, s62t8, s62f0, s62f4, s62f5, hb65, sm]; rfl
      case hy69 => simp only [qq, seval, -Nat.reducePow, reduceIte, reduceCtorEq, hb5, hb11, s62t6, s62t7, s62t8, s62f0, s62f4, s62f5, hb65, sm]; rfl
      case hsz69 => ((try simp only [tyf, rwR, List.length_append, List.length_cons, List.length_nil, List.length_take, List.length_drop]); omega)
      case hml69 => ((try simp only [maxLen, tyf, rwR, List.length_append, List.length_cons, List.length_nil, List.length_take, List.length_drop]); omega)
      simp only [qq, seval, -Nat.reducePow, reduceIte, reduceCtorEq, maskO, maskN, hb5, hb11, s62t6, s62t7, s62t8, s62f0, s62f4, s62f5, hb65, sm]
      refine aops_orunN 1 _ _ ?_
      simp only [qq, seval, -Nat.reducePow, reduceIte, reduceCtorEq, hb5, hb11, s62t6, s62t7, s62t8, s62f0, s62f4, s62f5, hb65, sm]
      refine aops_nil (hL67 _ ?_)
      simp only [qq, seval, -Nat.reducePow, reduceIte, reduceCtorEq, hb5, hb11, s62t6, s62t7, s62t8, s62f0, s62f4, s62f5, hb65, sm]
      have hp8 := pow8 (k := f) (by omega)
      have sq : m.tdiv 8 = m / 8 := Int.tdiv_eq_ediv_of_nonneg hq8_0
      refine reg 1 fun L70 hL70 => ?_
      simp only [qq, seval, -Nat.reducePow, reduceIte, reduceCtorEq, hb5, hb11, s62t6, s62t7, s62t8, s62f0, s62f4, s62f5, hb65, sm, sq]
      refine aops_val (v := ?v71) rfl ?h71 ?_
      case h71 => simp only [qq, seval, -Nat.reducePow, reduceIte, reduceCtorEq, hb5, hb11, s62t6, s62t7, s62t8, s62f0, s62f4, s62f5, hb65, sm, sq]; (rw [y_quo (by omega), sq, wr_id] <;> omega)
      simp only [qq, seval, -Nat.reducePow, reduceIte, reduceCtorEq, hb5, hb11, s62t6, s62t7, s62t8, s62f0, s62f4, s62f5, hb65, sm, sq]
      refine aops_orunN 1 _ _ ?_
      simp only [qq, seval, -Nat.reducePow, reduceIte, reduceCtorEq, hb5, hb11, s62t6, s62t7, s62t8, s62f0, s62f4, s62f5, hb65, sm, sq]
      refine nil_q hL70 ?_
      try simp only [rk_state]
      refine hK66 _ ?_
      as_aux_lemma =>
       refine reg 1 fun L72 hL72 => ?_
       simp only [qq, seval, -Nat.reducePow, reduceIte, reduceCtorEq, hb5, hb11, s62t6, s62t7, s62t8, s62f0, s62f4, s62f5, hb65, sm, sq]
       refine nil_q hL72 ?_
       try simp only [rk_state]
       refine hK62 _ ((fun (f : Nat) (m : Int) (acc : List Int) (b : Bool) => 1 + f) (f - 1) (m / 8) (acc ++ [m % 8]) (false)) ?_ ⟨f - 1, m / 8, acc ++ [m % 8], false, rfl, ?_, ?_, ?_, ?_, ?_, ?_, ?_, ?_, ?_⟩
       · (try simp only []); omega
       · omega
       · (refine ⟨?_, by omega⟩; obtain ⟨g, rfl⟩ : ∃ g, f = g + 1 := ⟨f - 1, by omega⟩; have h9 := hq8_1.1; rw [Int.pow_succ] at h9; simp only [Nat.add_sub_cancel]; omega)
       · (rw [List.length_append]; simp only [List.length_cons, List.length_nil]; omega)
       · (rw [← hq8_3, if_pos hbm, hds, List.append_assoc]; simp only [Bool.false_eq_true, false_or]; rfl)
       · (intro h7; obtain ⟨h8, _⟩ := div8_lt hq8_1.1 (by omega); omega)
       · (intro h7; cases h7)
       · (try simp only [qq, seval, -Nat.reducePow, reduceIte, reduceCtorEq, hb5, hb11, s62t6, s62t7, s62t8, s62f0, s62f4, s62f5, hb65, sm, sq])
         all_goals (first | done | rfl | (simp only [AV.c.injEq, C.int.injEq, List.cons.injEq, and_true, true_and]; omega))
       · (try simp only [qq, seval, -Nat.reducePow, reduceIte, reduceCtorEq, hb5, hb11, s62t6, s62t7, s62t8, s62f0, s62f4, s62f5, hb65, sm, sq])
         all_goals (first | done | rfl | (simp only [AV.c.injEq, C.int.injEq, List.cons.injEq, and_true, true_and]; omega))
       · (try simp only [qq, seval, -Nat.reducePow, reduceIte, reduceCtorEq, hb5, hb11, s62t6, s62t7, s62t8, s62f0, s62f4, s62f5, hb65, sm, sq])
         all_goals (first | done | rfl | (simp only [AV.c.injEq, C.int.injEq, List.cons.injEq, and_true, true_and]; omega))
     case b65 =>
      have hp65 := hb65
      try simp only [kb] at hp65
      try simp only [hb65]
      refine aops_orunN 3 _ _ ?_
      simp only [qq, seval, -Nat.reducePow, reduceIte, reduceCtorEq, hb5, hb11, s62t6, s62t7, s62t8, s62f0, s62f4, s62f5, hb65]
      refine nil_z hL64 ?_
      refine awp_cond (t := ?t73) ?h73 (fun hb73 => ?a73) (fun hb73 => ?b73)
      case h73 => simp only [qq, seval, -Nat.reducePow, reduceIte, reduceCtorEq, hb5, hb11, s62t6, s62t7, s62t8, s62f0, s62f4, s62f5, hb65]; rfl
      case a73 =>
       have hp73 := hb73
       try simp only [kb] at hp73
       refine awp_skip ?_
       refine hK63 _ ?_
       refine awp_seq_k fun K74 hK74 => ?_
       refine awp_block ?_
       have hbm : b = true ∨ m > 0 := by first | exact .inl (by assumption) | exact .inr (by omega)
       have sm : m.tmod 8 = m % 8 := Int.tmod_eq_emod_of_nonneg hq8_0
       have hf1 : 1 ≤ f := by rcases hbm with h9 | h9; exact hq8_5 h9; exact hq8_4 h9
       have hds := dig_step (f := f) (m := m) hf1 hq8_0
       refine seq_reg 2 fun L75 hL75 => ?_
       simp only [qq, seval, -Nat.reducePow, reduceIte, reduceCtorEq, hb5, hb11, s62t6, s62t7, s62t8, s62f0, s62f4, s62f5, hb65, hb73, sm]
       refine aops_val (v := ?v76) rfl ?h76 ?_
       case h76 => simp only [qq, seval, -Nat.reducePow, reduceIte, reduceCtorEq, hb5, hb11, s62t6, s62t7, s62t8, s62f0, s62f4, s62f5, hb65, hb73, sm]; (rw [y_rem] <;> omega)
       simp only [qq, seval, -Nat.reducePow, reduceIte, reduceCtorEq, hb5, hb11, s62t6, s62t7, s62t8, s62f0, s62f4, s62f5, hb65, hb73, sm]
       refine aops_orunN 1 _ _ ?_
       simp only [qq, seval, -Nat.reducePow, reduceIte, reduceCtorEq, hb5, hb11, s62t6, s62t7, s62t8, s62f0, s62f4, s62f5, hb65, hb73, sm]
       refine aops_append (rows := ?rows77) (new := ?new77) rfl rfl rfl rfl rfl rfl un43 ?hx77 (by simp only [qq, seval, -Nat.reducePow, reduceIte, reduceCtorEq, maskO, maskN, hb5, hb11, s62t6, s62t7, s62t8, s62f0, s62f4, s62f5, hb65, hb73, sm]) (by simp only [qq, seval, -Nat.reducePow, reduceIte, reduceCtorEq, maskO, maskN, hb5, hb11, s62t6, s62t7, s62t8, s62f0, s62f4, s62f5, hb65, hb73, sm]) (by simp only [qq, seval, -Nat.reducePow, reduceIte, reduceCtorEq, hb5, hb11, s62t6, s62t7, s62t8, s62f0, s62f4, s62f5, hb65, hb73, sm]) ?hy77 (by simp only [tyf]; rfl) (by simp only [tyf]; decide) ?hsz77 ?hml77 ?hh77
       case hx77 => simp only [qq, seval, -Nat.reducePow, reduceIte, reduceCtorEq, AV.base, hb5, hb11, s62t6, s62t7, s62t8, s62f0, s62f4, s62f5, hb65, hb73, sm]; rfl
       case hy77 => simp only [qq, seval, -Nat.reducePow, reduceIte, reduceCtorEq, hb5, hb11, s62t6, s62t7, s62t8, s62f0, s62f4, s62f5, hb65, hb73, sm]; rfl
       case hsz77 => ((try simp only [tyf, rwR, List.length_append, List.length_cons, List.length_nil, List.length_take, List.length_drop]); omega)
       case hml77 => ((try simp only [maxLen, tyf, rwR, List.length_append, List.length_cons, List.length_nil, List.length_take, List.length_drop]); omega)
       simp only [qq, seval, -Nat.reducePow, reduceIte, reduceCtorEq, maskO, maskN, hb5, hb11, s62t6, s62t7, s62t8, s62f0, s62f4, s62f5, hb65, hb73, sm]
       refine aops_orunN 1 _ _ ?_
       simp only [qq, seval, -Nat.reducePow, reduceIte, reduceCtorEq, hb5, hb11, s62t6, s62t7, s62t8, s62f0, s62f4, s62f5, hb65, hb73, sm]
       refine aops_nil (hL75 _ ?_)
       simp only [qq, seval, -Nat.reducePow, reduceIte, reduceCtorEq, hb5, hb11, s62t6, s62t7, s62t8, s62f0, s62f4, s62f5, hb65, hb73, sm]
       have hp8 := pow8 (k := f) (by omega)
       have sq : m.tdiv 8 = m / 8 := Int.tdiv_eq_ediv_of_nonneg hq8_0
       refine reg 1 fun L78 hL78 => ?_
       simp only [qq, seval, -Nat.reducePow, reduceIte, reduceCtorEq, hb5, hb11, s62t6, s62t7, s62t8, s62f0, s62f4, s62f5, hb65, hb73, sm, sq]
       refine aops_val (v := ?v79) rfl ?h79 ?_
       case h79 => simp only [qq, seval, -Nat.reducePow, reduceIte, reduceCtorEq, hb5, hb11, s62t6, s62t7, s62t8, s62f0, s62f4, s62f5, hb65, hb73, sm, sq]; (rw [y_quo (by omega), sq, wr_id] <;> omega)
       simp only [qq, seval, -Nat.reducePow, reduceIte, reduceCtorEq, hb5, hb11, s62t6, s62t7, s62t8, s62f0, s62f4, s62f5, hb65, hb73, sm, sq]
       refine aops_orunN 1 _ _ ?_
       simp only [qq, seval, -Nat.reducePow, reduceIte, reduceCtorEq, hb5, hb11, s62t6, s62t7, s62t8, s62f0, s62f4, s62f5, hb65, hb73, sm, sq]
       refine nil_q hL78 ?_
       try simp only [rk_state]
       refine hK74 _ ?_
       as_aux_lemma =>
        refine reg 1 fun L80 hL80 => ?_
        simp only [qq, seval, -Nat.reducePow, reduceIte, reduceCtorEq, hb5, hb11, s62t6, s62t7, s62t8, s62f0, s62f4, s62f5, hb65, hb73, sm, sq]
        refine nil_q hL80 ?_
        try simp only [rk_state]
        refine hK62 _ ((fun (f : Nat) (m : Int) (acc : List Int) (b : Bool) => 1 + f) (f - 1) (m / 8) (acc ++ [m % 8]) (false)) ?_ ⟨f - 1, m / 8, acc ++ [m % 8], false, rfl, ?_, ?_, ?_, ?_, ?_, ?_, ?_, ?_, ?_⟩
        · (try simp only []); omega
        · omega
        · (refine ⟨?_, by omega⟩; obtain ⟨g, rfl⟩ : ∃ g, f = g + 1 := ⟨f - 1, by omega⟩; have h9 := hq8_1.1; rw [Int.pow_succ] at h9; simp only [Nat.add_sub_cancel]; omega)
        · (rw [List.length_append]; simp only [List.length_cons, List.length_nil]; omega)
        · (rw [← hq8_3, if_pos hbm, hds, List.append_assoc]; simp only [Bool.false_eq_true, false_or]; rfl)
        · (intro h7; obtain ⟨h8, _⟩ := div8_lt hq8_1.1 (by omega); omega)
        · (intro h7; cases h7)
        · (try simp only [qq, seval, -Nat.reducePow, reduceIte, reduceCtorEq, hb5, hb11, s62t6, s62t7, s62t8, s62f0, s62f4, s62f5, hb65, hb73, sm, sq])
          all_goals (first | done | rfl | (simp only [AV.c.injEq, C.int.injEq, List.cons.injEq, and_true, true_and]; omega))
        · (try simp only [qq, seval, -Nat.reducePow, reduceIte, reduceCtorEq, hb5, hb11, s62t6, s62t7, s62t8, s62f0, s62f4, s62f5, hb65, hb73, sm, sq])
          all_goals (first | done | rfl | (simp only [AV.c.injEq, C.int.injEq, List.cons.injEq, and_true, true_and]; omega))
        · (try simp only [qq, seval, -Nat.reducePow, reduceIte, reduceCtorEq, hb5, hb11, s62t6, s62t7, s62t8, s62f0, s62f4, s62f5, hb65, hb73, sm, sq])
          all_goals (first | done | rfl | (simp only [AV.c.injEq, C.int.injEq, List.cons.injEq, and_true, true_and]; omega))
      case b73 =>
       have hp73 := hb73
       try simp only [kb] at hp73
       refine awp_exit ?_
       simp only [rk_state, reduceIte, Nat.reduceEqDiff]
       refine hK60 _ ?_
       have hacc : acc = dig 8 (foldN v) := by rw [← hq8_3, if_neg (by rcases b with _ | _ <;> simp_all <;> omega), List.append_nil]
       have hal : acc.length ≤ 8 := by omega
       refine seq_reg 1 fun L81 hL81 => ?_
       simp only [qq, seval, -Nat.reducePow, reduceIte, reduceCtorEq, hb5, hb11, s62t6, s62t7, s62t8, s62f0, s62f4, s62f5, hb65, hb73]
       refine aops_call_own (clone_bool_fun _ ?s82_0) rfl rfl rfl rfl (by (try simp only [qq, seval, -Nat.reducePow, reduceIte, reduceCtorEq, hb5, hb11, s62t6, s62t7, s62t8, s62f0, s62f4, s62f5, hb65, hb73]); (repeat' (first | exact .nil | exact wk_c | exact wk_ownc | exact wk_nilsc | exact wk_nils | exact wk_fn | refine .cons ?_ ?_ | refine wk_agg ?_ | refine wk_fnL ?_))) rfl rfl rfl (by simp only [qq, seval, -Nat.reducePow, reduceIte, reduceCtorEq, hb5, hb11, s62t6, s62t7, s62t8, s62f0, s62f4, s62f5, hb65, hb73]) ?m82
       case s82_0 => first | assumption | omega | decide +kernel | (simp only [List.length_take, List.length_drop]; omega)
       simp only [qq, seval, -Nat.reducePow, reduceIte, reduceCtorEq, AV.setOwn, AV.setOwn1, hb5, hb11, s62t6, s62t7, s62t8, s62f0, s62f4, s62f5, hb65, hb73]
       refine aops_orunN 1 _ _ ?_
       simp only [qq, seval, -Nat.reducePow, reduceIte, reduceCtorEq, hb5, hb11, s62t6, s62t7, s62t8, s62f0, s62f4, s62f5, hb65, hb73]
       refine aops_nil (hL81 _ ?_)
       simp only [qq, seval, -Nat.reducePow, reduceIte, reduceCtorEq, hb5, hb11, s62t6, s62t7, s62t8, s62f0, s62f4, s62f5, hb65, hb73]
       refine awp_seq_k fun K83 hK83 => ?_
       refine seq_reg 3 fun L84 hL84 => ?_
       simp only [qq, seval, -Nat.reducePow, reduceIte, reduceCtorEq, hb5, hb11, s62t6, s62t7, s62t8, s62f0, s62f4, s62f5, hb65, hb73]
       refine nil_z hL84 ?_
       as_aux_lemma =>
        refine awp_block ?_
        refine awp_loopW (W := [40, 41, 42, 43, 10, 11, 44, 45, 46, 47, 48, 49, 50, 51, 52, 53, 54, 55, 56, 57, 58, 59, 9, 60, 39]) (M := []) rfl rfl (fun kk s => ∃ (i : Nat) (d : Nat), kk = acc.length - i ∧ (i ≤ acc.length) ∧ s.t 9 = .own false d 4 (Rw boC (l ++ codeAt acc i)) ∧ s.t 39 = .c (.int .i64 (i : Int))) ((fun (i : Nat) (d : Nat) => acc.length - i) (0) (36)) ?i85 ?r85
        case i85 =>
         refine ⟨0, 36, rfl, ?_, ?_, ?_⟩
         · first | omega | simp
         · (try simp only [qq, seval, -Nat.reducePow, reduceIte, reduceCtorEq, hb5, hb11, s62t6, s62t7, s62t8, s62f0, s62f4, s62f5, hb65, hb73])
           all_goals (rw [show codeAt acc 0 = [] from rfl, List.append_nil])
         · (try simp only [qq, seval, -Nat.reducePow, reduceIte, reduceCtorEq, hb5, hb11, s62t6, s62t7, s62t8, s62f0, s62f4, s62f5, hb65, hb73])
           all_goals (first | done | rfl | (simp only [AV.c.injEq, C.int.injEq, List.cons.injEq, and_true, true_and]; omega))
        case r85 =>
         rintro kk s hf ⟨i, d, rfl, hq14_0, s85t9, s85t39⟩ K85 hK85
         have s85f4 := hf 4 rfl (by (try simp only [qq, seval, -Nat.reducePow, reduceIte, reduceCtorEq, kn, hb5, hb11, s62t6, s62t7, s62t8, s62f0, s62f4, s62f5, hb65, hb73]); all_goals rfl)
         simp only [qq, seval, -Nat.reducePow, reduceIte, reduceCtorEq, hb5, hb11, s62t6, s62t7, s62t8, s62f0, s62f4, s62f5, hb65, hb73] at s85f4
         have s85f5 := hf 5 rfl (by (try simp only [qq, seval, -Nat.reducePow, reduceIte, reduceCtorEq, kn, hb5, hb11, s62t6, s62t7, s62t8, s62f0, s62f4, s62f5, hb65, hb73]); all_goals rfl)
         simp only [qq, seval, -Nat.reducePow, reduceIte, reduceCtorEq, hb5, hb11, s62t6, s62t7, s62t8, s62f0, s62f4, s62f5, hb65, hb73] at s85f5
         have s85f7 := hf 7 rfl (by (try simp only [qq, seval, -Nat.reducePow, reduceIte, reduceCtorEq, kn, hb5, hb11, s62t6, s62t7, s62t8, s62f0, s62f4, s62f5, hb65, hb73]); all_goals rfl)
         simp only [qq, seval, -Nat.reducePow, reduceIte, reduceCtorEq, hb5, hb11, s62t6, s62t7, s62t8, s62f0, s62f4, s62f5, hb65, hb73] at s85f7
         have s85f37 := hf 37 rfl (by (try simp only [qq, seval, -Nat.reducePow, reduceIte, reduceCtorEq, kn, hb5, hb11, s62t6, s62t7, s62t8, s62f0, s62f4, s62f5, hb65, hb73]); all_goals rfl)
         simp only [qq, seval, -Nat.reducePow, reduceIte, reduceCtorEq, hb5, hb11, s62t6, s62t7, s62t8, s62f0, s62f4, s62f5, hb65, hb73] at s85f37
         have s85f38 := hf 38 rfl (by (try simp only [qq, seval, -Nat.reducePow, reduceIte, reduceCtorEq, kn, hb5, hb11, s62t6, s62t7, s62t8, s62f0, s62f4, s62f5, hb65, hb73]); all_goals rfl)
         simp only [qq, seval, -Nat.reducePow, reduceIte, reduceCtorEq, hb5, hb11, s62t6, s62t7, s62t8, s62f0, s62f4, s62f5, hb65, hb73] at s85f38
         clear hf
         have hcl := codeAt_len acc i
         refine seq_reg 1 fun L86 hL86 => ?_
         simp only [qq, seval, -Nat.reducePow, reduceIte, reduceCtorEq, hb5, hb11, s62t6, s62t7, s62t8, s62f0, s62f4, s62f5, hb65, hb73, s85t9, s85t39, s85f4, s85f5, s85f7, s85f37, s85f38]
         refine nil_z hL86 ?_
         refine awp_seq_k fun K87 hK87 => ?_
         refine awp_cond (t := ?t88) ?h88 (fun hb88 => ?a88) (fun hb88 => ?b88)
         case h88 => simp only [qq, seval, -Nat.reducePow, reduceIte, reduceCtorEq, hb5, hb11, s62t6, s62t7, s62t8, s62f0, s62f4, s62f5, hb65, hb73, s85t9, s85t39, s85f4, s85f5, s85f7, s85f37, s85f38]; rfl
         case a88 =>
          have hp88 := hb88
          try simp only [kb] at hp88
          refine awp_skip ?_
          refine hK87 _ ?_
          refine awp_seq_k fun K89 hK89 => ?_
          refine awp_block ?_
          refine seq_reg 1 fun L90 hL90 => ?_
          simp only [qq, seval, -Nat.reducePow, reduceIte, reduceCtorEq, hb5, hb11, s62t6, s62t7, s62t8, s62f0, s62f4, s62f5, hb65, hb73, s85t9, s85t39, s85f4, s85f5, s85f7, s85f37, s85f38, hb88]
          refine aops_val (v := ?v91) rfl ?h91 ?_
          case h91 => simp only [qq, seval, -Nat.reducePow, reduceIte, reduceCtorEq, hb5, hb11, s62t6, s62t7, s62t8, s62f0, s62f4, s62f5, hb65, hb73, s85t9, s85t39, s85f4, s85f5, s85f7, s85f37, s85f38, hb88]; first | (rw [idx_c un43 if3] <;> omega) | (rw [idx_o un43 if3] <;> omega) | (rw [idx_a un43 if3] <;> omega)
          simp only [qq, seval, -Nat.reducePow, reduceIte, reduceCtorEq, hb5, hb11, s62t6, s62t7, s62t8, s62f0, s62f4, s62f5, hb65, hb73, s85t9, s85t39, s85f4, s85f5, s85f7, s85f37, s85f38, hb88]
          refine aops_orunN 3 _ _ ?_
          simp only [qq, seval, -Nat.reducePow, reduceIte, reduceCtorEq, hb5, hb11, s62t6, s62t7, s62t8, s62f0, s62f4, s62f5, hb65, hb73, s85t9, s85t39, s85f4, s85f5, s85f7, s85f37, s85f38, hb88]
          refine nil_z hL90 ?_
          refine reg 4 fun L92 hL92 => ?_
          simp only [qq, seval, -Nat.reducePow, reduceIte, reduceCtorEq, hb5, hb11, s62t6, s62t7, s62t8, s62f0, s62f4, s62f5, hb65, hb73, s85t9, s85t39, s85f4, s85f5, s85f7, s85f37, s85f38, hb88]
          refine aops_val (v := ?v93) rfl ?h93 ?_
          case h93 => simp only [qq, seval, -Nat.reducePow, reduceIte, reduceCtorEq, hb5, hb11, s62t6, s62t7, s62t8, s62f0, s62f4, s62f5, hb65, hb73, s85t9, s85t39, s85f4, s85f5, s85f7, s85f37, s85f38, hb88]; first | (rw [wr_id] <;> omega) | rfl
          simp only [qq, seval, -Nat.reducePow, reduceIte, reduceCtorEq, hb5, hb11, s62t6, s62t7, s62t8, s62f0, s62f4, s62f5, hb65, hb73, s85t9, s85t39, s85f4, s85f5, s85f7, s85f37, s85f38, hb88]
          refine aops_orunN 4 _ _ ?_
          simp only [qq, seval, -Nat.reducePow, reduceIte, reduceCtorEq, hb5, hb11, s62t6, s62t7, s62t8, s62f0, s62f4, s62f5, hb65, hb73, s85t9, s85t39, s85f4, s85f5, s85f7, s85f37, s85f38, hb88]
          refine aops_val (v := ?v94) rfl ?h94 ?_
          case h94 => simp only [qq, seval, -Nat.reducePow, reduceIte, reduceCtorEq, hb5, hb11, s62t6, s62t7, s62t8, s62f0, s62f4, s62f5, hb65, hb73, s85t9, s85t39, s85f4, s85f5, s85f7, s85f37, s85f38, hb88]; (rw [y_rem] <;> omega)
          simp only [qq, seval, -Nat.reducePow, reduceIte, reduceCtorEq, hb5, hb11, s62t6, s62t7, s62t8, s62f0, s62f4, s62f5, hb65, hb73, s85t9, s85t39, s85f4, s85f5, s85f7, s85f37, s85f38, hb88]
          refine aops_orunN 2 _ _ ?_
          simp only [qq, seval, -Nat.reducePow, reduceIte, reduceCtorEq, hb5, hb11, s62t6, s62t7, s62t8, s62f0, s62f4, s62f5, hb65, hb73, s85t9, s85t39, s85f4, s85f5, s85f7, s85f37, s85f38, hb88]
          refine aops_val (v := ?v95) rfl ?h95 ?_
          case h95 => simp only [qq, seval, -Nat.reducePow, reduceIte, reduceCtorEq, hb5, hb11, s62t6, s62t7, s62t8, s62f0, s62f4, s62f5, hb65, hb73, s85t9, s85t39, s85f4, s85f5, s85f7, s85f37, s85f38, hb88]; (rw [y_rem] <;> omega)
          simp only [qq, seval, -Nat.reducePow, reduceIte, reduceCtorEq, hb5, hb11, s62t6, s62t7, s62t8, s62f0, s62f4, s62f5, hb65, hb73, s85t9, s85t39, s85f4, s85f5, s85f7, s85f37, s85f38, hb88]
          refine aops_orunN 2 _ _ ?_
          simp only [qq, seval, -Nat.reducePow, reduceIte, reduceCtorEq, hb5, hb11, s62t6, s62t7, s62t8, s62f0, s62f4, s62f5, hb65, hb73, s85t9, s85t39, s85f4, s85f5, s85f7, s85f37, s85f38, hb88]
          refine aops_append (rows := ?rows96) (new := ?new96) rfl rfl rfl rfl rfl rfl un36 ?hx96 (by simp only [qq, seval, -Nat.reducePow, reduceIte, reduceCtorEq, maskO, maskN, hb5, hb11, s62t6, s62t7, s62t8, s62f0, s62f4, s62f5, hb65, hb73, s85t9, s85t39, s85f4, s85f5, s85f7, s85f37, s85f38, hb88]) (by simp only [qq, seval, -Nat.reducePow, reduceIte, reduceCtorEq, maskO, maskN, hb5, hb11, s62t6, s62t7, s62t8, s62f0, s62f4, s62f5, hb65, hb73, s85t9, s85t39, s85f4, s85f5, s85f7, s85f37, s85f38, hb88]) (by simp only [qq, seval, -Nat.reducePow, reduceIte, reduceCtorEq, hb5, hb11, s62t6, s62t7, s62t8, s62f0, s62f4, s62f5, hb65, hb73, s85t9, s85t39, s85f4, s85f5, s85f7, s85f37, s85f38, hb88]) ?hy96 (by simp only [tyf]; rfl) (by simp only [tyf]; decide) ?hsz96 ?hml96 ?hh96
          case hx96 => simp only [qq, seval, -Nat.reducePow, reduceIte, reduceCtorEq, AV.base, hb5, hb11, s62t6, s62t7, s62t8, s62f0, s62f4, s62f5, hb65, hb73, s85t9, s85t39, s85f4, s85f5, s85f7, s85f37, s85f38, hb88]; rfl
          case hy96 => simp only [qq, seval, -Nat.reducePow, reduceIte, reduceCtorEq, hb5, hb11, s62t6, s62t7, s62t8, s62f0, s62f4, s62f5, hb65, hb73, s85t9, s85t39, s85f4, s85f5, s85f7, s85f37, s85f38, hb88]; rfl
          case hsz96 => ((try simp only [tyf, rwR, List.length_append, List.length_cons, List.length_nil, List.length_take, List.length_drop]); omega)
          case hml96 => ((try simp only [maxLen, tyf, rwR, List.length_append, List.length_cons, List.length_nil, List.length_take, List.length_drop]); omega)
          simp only [qq, seval, -Nat.reducePow, reduceIte, reduceCtorEq, maskO, maskN, hb5, hb11, s62t6, s62t7, s62t8, s62f0, s62f4, s62f5, hb65, hb73, s85t9, s85t39, s85f4, s85f5, s85f7, s85f37, s85f38, hb88]
          refine aops_orunN 1 _ _ ?_
          simp only [qq, seval, -Nat.reducePow, reduceIte, reduceCtorEq, hb5, hb11, s62t6, s62t7, s62t8, s62f0, s62f4, s62f5, hb65, hb73, s85t9, s85t39, s85f4, s85f5, s85f7, s85f37, s85f38, hb88]
          refine aops_nil (hL92 _ ?_)
          simp only [qq, seval, -Nat.reducePow, reduceIte, reduceCtorEq, hb5, hb11, s62t6, s62t7, s62t8, s62f0, s62f4, s62f5, hb65, hb73, s85t9, s85t39, s85f4, s85f5, s85f7, s85f37, s85f38, hb88]
          try simp only [rk_state]
          refine hK89 _ ?_
          as_aux_lemma =>
           refine reg 0 fun L97 hL97 => ?_
           simp only [qq, seval, -Nat.reducePow, reduceIte, reduceCtorEq, hb5, hb11, s62t6, s62t7, s62t8, s62f0, s62f4, s62f5, hb65, hb73, s85t9, s85t39, s85f4, s85f5, s85f7, s85f37, s85f38, hb88]
           refine aops_val (v := ?v98) rfl ?h98 ?_
           case h98 => simp only [qq, seval, -Nat.reducePow, reduceIte, reduceCtorEq, hb5, hb11, s62t6, s62t7, s62t8, s62f0, s62f4, s62f5, hb65, hb73, s85t9, s85t39, s85f4, s85f5, s85f7, s85f37, s85f38, hb88]; first | (rw [wr_id] <;> omega) | rfl
           simp only [qq, seval, -Nat.reducePow, reduceIte, reduceCtorEq, hb5, hb11, s62t6, s62t7, s62t8, s62f0, s62f4, s62f5, hb65, hb73, s85t9, s85t39, s85f4, s85f5, s85f7, s85f37, s85f38, hb88]
           refine aops_orunN 1 _ _ ?_
           simp only [qq, seval, -Nat.reducePow, reduceIte, reduceCtorEq, hb5, hb11, s62t6, s62t7, s62t8, s62f0, s62f4, s62f5, hb65, hb73, s85t9, s85t39, s85f4, s85f5, s85f7, s85f37, s85f38, hb88]
           refine nil_q hL97 ?_
           try simp only [rk_state]
           have sn := codeAt_next acc i
           refine hK85 _ ((fun (i : Nat) (d : Nat) => acc.length - i) (i + 1) (59)) ?_ ⟨i + 1, 59, rfl, ?_, ?_, ?_⟩
           · (try simp only []); omega
           · first | omega | simp
           · (try simp only [qq, seval, -Nat.reducePow, reduceIte, reduceCtorEq, hb5, hb11, s62t6, s62t7, s62t8, s62f0, s62f4, s62f5, hb65, hb73, s85t9, s85t39, s85f4, s85f5, s85f7, s85f37, s85f38, hb88, sn])
             all_goals (first | done | rfl | (simp only [List.append_assoc]; rfl))
           · (try simp only [qq, seval, -Nat.reducePow, reduceIte, reduceCtorEq, hb5, hb11, s62t6, s62t7, s62t8, s62f0, s62f4, s62f5, hb65, hb73, s85t9, s85t39, s85f4, s85f5, s85f7, s85f37, s85f38, hb88, sn])
             all_goals (first | done | rfl | (simp only [AV.c.injEq, C.int.injEq, List.cons.injEq, and_true, true_and]; omega))
         case b88 =>
          have hp88 := hb88
          try simp only [kb] at hp88
          refine awp_exit ?_
          simp only [rk_state, reduceIte, Nat.reduceEqDiff]
          refine hK83 _ ?_
          have ei : i = acc.length := by omega
          subst ei
          have sc := code_fold (v := v) (by omega)
          rw [← hacc] at sc
          refine seq_reg 3 fun L99 hL99 => ?_
          simp only [qq, seval, -Nat.reducePow, reduceIte, reduceCtorEq, hb5, hb11, s62t6, s62t7, s62t8, s62f0, s62f4, s62f5, hb65, hb73, s85t9, s85t39, s85f4, s85f5, s85f7, s85f37, s85f38, hb88, sc]
          refine nil_z hL99 ?_
          refine awp_ret ?_
          try simp only [rk_state]
          first | refine ⟨_, d, by simp only [qq, seval, -Nat.reducePow, reduceIte, reduceCtorEq, resA, Try.results41, hb5, hb11, s62t6, s62t7, s62t8, s62f0, s62f4, s62f5, hb65, hb73, s85t9, s85t39, s85f4, s85f5, s85f7, s85f37, s85f38, hb88, sc]; rfl, ?_, nomem_a, nomem_a⟩ | refine ⟨_, 0, by simp only [qq, seval, -Nat.reducePow, reduceIte, reduceCtorEq, resA, Try.results41, hb5, hb11, s62t6, s62t7, s62t8, s62f0, s62f4, s62f5, hb65, hb73, s85t9, s85t39, s85f4, s85f5, s85f7, s85f37, s85f38, hb88, sc]; rfl, ?_, nomem_a, nomem_a⟩
          simp only [packA]
          (unfold zputR); first | (rw [if_pos (by omega)]; (repeat' (first | exact .nil | exact wkR_c | exact wkR_own | exact wkR_nils | refine wkR_int ?_ | refine wkR_bool ?_ | refine wkR_sl ?_ | refine wkR_osl ?_ | refine wkR_nsl ?_ | refine wkR_oo ?_ | refine wkR_no ?_ | refine .cons ?_ ?_ | refine wkR_agg ?_ | refine wkR_tup ?_)) <;> rfl) | (rw [if_neg (by omega)]; (repeat' (first | exact .nil | exact wkR_c | exact wkR_own | exact wkR_nils | refine wkR_int ?_ | refine wkR_bool ?_ | refine wkR_sl ?_ | refine wkR_osl ?_ | refine wkR_nsl ?_ | refine wkR_oo ?_ | refine wkR_no ?_ | refine .cons ?_ ?_ | refine wkR_agg ?_ | refine wkR_tup ?_)) <;> first | rfl | (rw [sc, hacc]) | (simp only [sc]))
set_option maxHeartbeats 4000000 in
set_option maxRecDepth 50000 in
theorem decoded_fun (l : List Bool) (hl : l.length ≤ 140737488355200) : Fun Try.prog 42 [.c (.sl 4 (Rw boC l))] nomem (.tup [.c (.int .i64 (ztakeR l).1), .c (.sl 4 (Rw boC (ztakeR l).2.1)), .c (.int .i64 (ztakeR l).2.2)]) nomem := by
 refine fun_of_awp Try.func42 rfl (by decide +kernel) (by decide +kernel) (Nat.le_of_ble_eq_true rfl) (fun _ _ => rfl) (fun _ _ => rfl) ?_
 refine seq_reg 3 fun L1 hL1 => ?_
 simp only [qq, seval, -Nat.reducePow, reduceIte, reduceCtorEq]
 refine nil_z hL1 ?_
 refine seq_reg 2 fun L2 hL2 => ?_
 simp only [qq, seval, -Nat.reducePow, reduceIte, reduceCtorEq]
 refine nil_z hL2 ?_
 refine awp_seq_k fun K3 hK3 => ?_
 refine seq_reg 1 fun L4 hL4 => ?_
 simp only [qq, seval, -Nat.reducePow, reduceIte, reduceCtorEq]
 refine nil_z hL4 ?_
 as_aux_lemma =>
  refine awp_block ?_
  refine awp_loopW (W := [14, 15, 2, 3, 4, 16, 17, 18, 2, 3, 4, 8, 19, 20, 21, 22, 23, 24, 25, 26, 9, 10, 27, 28, 29, 30, 31, 8, 32, 22, 33, 34, 35, 36, 37, 38, 39, 40, 41, 42, 43, 44, 2, 3, 4, 45, 46, 47, 48, 49, 5, 50, 51, 6, 52, 53, 2, 3, 4, 54, 55, 56, 11, 57, 58, 0, 59, 60, 12, 13, 7]) (M := []) rfl rfl (fun kk s => ∃ (k : Nat) (n : Int), kk = 9 - k ∧ (k ≤ 8) ∧ (0 ≤ n ∧ n ≤ 8000000) ∧ (zread (8 - k) k n (8 ^ k) (l.drop (4 * k)) = zreadR l) ∧ s.t 0 = .c (.sl 4 (Rw boC (l.drop (4 * k)))) ∧ s.t 5 = .c (.int .i64 n) ∧ s.t 6 = .c (.int .i64 (8 ^ k)) ∧ s.t 7 = .c (.int .i64 (k : Int))) ((fun (k : Nat) (n : Int) => 9 - k) (0) (0)) ?i5 ?r5
  case i5 =>
   refine ⟨0, 0, rfl, ?_, ?_, ?_, ?_, ?_, ?_, ?_⟩
   · omega
   · omega
   · rfl
   · (try simp only [qq, seval, -Nat.reducePow, reduceIte, reduceCtorEq])
     all_goals (first | done | rfl | (simp only [AV.c.injEq, C.int.injEq, List.cons.injEq, and_true, true_and]; omega))
   · (try simp only [qq, seval, -Nat.reducePow, reduceIte, reduceCtorEq])
     all_goals (first | done | rfl | (simp only [AV.c.injEq, C.int.injEq, List.cons.injEq, and_true, true_and]; omega))
   · (try simp only [qq, seval, -Nat.reducePow, reduceIte, reduceCtorEq])
     all_goals (first | done | rfl | (simp only [AV.c.injEq, C.int.injEq, List.cons.injEq, and_true, true_and]; omega))
   · (try simp only [qq, seval, -Nat.reducePow, reduceIte, reduceCtorEq])
     all_goals (first | done | rfl | (simp only [AV.c.injEq, C.int.injEq, List.cons.injEq, and_true, true_and]; omega))
  case r5 =>
   rintro kk s hf ⟨k, n, rfl, hq4_0, hq4_1, hq4_2, s5t0, s5t5, s5t6, s5t7⟩ K5 hK5
   clear hf
   refine awp_seq_k fun K6 hK6 => ?_
   refine awp_block ?_
   refine awp_seq_k fun K7 hK7 => ?_
   refine seq_reg 2 fun L8 hL8 => ?_
   simp only [qq, seval, -Nat.reducePow, reduceIte, reduceCtorEq, s5t0, s5t5, s5t6, s5t7]
   refine nil_z hL8 ?_
   refine awp_cond (t := ?t9) ?h9 (fun hb9 => ?a9) (fun hb9 => ?b9)
   case h9 => simp only [qq, seval, -Nat.reducePow, reduceIte, reduceCtorEq, s5t0, s5t5, s5t6, s5t7]; rfl
   case a9 =>
    have hp9 := hb9
    try simp only [kb] at hp9
    refine seq_reg 3 fun L10 hL10 => ?_
    simp only [qq, seval, -Nat.reducePow, reduceIte, reduceCtorEq, s5t0, s5t5, s5t6, s5t7, hb9]
    refine nil_z hL10 ?_
    refine awp_ret ?_
    try simp only [rk_state]
    refine ⟨_, 0, by simp only [qq, seval, -Nat.reducePow, reduceIte, reduceCtorEq, resA, Try.results42, s5t0, s5t5, s5t6, s5t7, hb9]; rfl, ?_, nomem_a, nomem_a⟩
    simp only [packA]
    unfold ztakeR; first | (rw [← hq4_2, show 8 - k = 0 from by omega, zr_zero]; (repeat' (first | exact .nil | exact wkR_c | exact wkR_own | exact wkR_nils | refine wkR_int ?_ | refine wkR_bool ?_ | refine wkR_sl ?_ | refine wkR_osl ?_ | refine wkR_nsl ?_ | refine wkR_oo ?_ | refine wkR_no ?_ | refine .cons ?_ ?_ | refine wkR_agg ?_ | refine wkR_tup ?_)) <;> rfl) | (rw [← hq4_2, zr_torn (by omega) (by omega)]; (repeat' (first | exact .nil | exact wkR_c | exact wkR_own | exact wkR_nils | refine wkR_int ?_ | refine wkR_bool ?_ | refine wkR_sl ?_ | refine wkR_osl ?_ | refine wkR_nsl ?_ | refine wkR_oo ?_ | refine wkR_no ?_ | refine .cons ?_ ?_ | refine wkR_agg ?_ | refine wkR_tup ?_)) <;> rfl) | (rw [← hq4_2, zr_form (by omega) (by omega) (by omega) (by omega)]; (repeat' (first | exact .nil | exact wkR_c | exact wkR_own | exact wkR_nils | refine wkR_int ?_ | refine wkR_bool ?_ | refine wkR_sl ?_ | refine wkR_osl ?_ | refine wkR_nsl ?_ | refine wkR_oo ?_ | refine wkR_no ?_ | refine .cons ?_ ?_ | refine wkR_agg ?_ | refine wkR_tup ?_)) <;> rfl) | (rw [← hq4_2, zr_range (by omega) (by omega) hnf (by rw [hm8]; omega)]; (repeat' (first | exact .nil | exact wkR_c | exact wkR_own | exact wkR_nils | refine wkR_int ?_ | refine wkR_bool ?_ | refine wkR_sl ?_ | refine wkR_osl ?_ | refine wkR_nsl ?_ | refine wkR_oo ?_ | refine wkR_no ?_ | refine .cons ?_ ?_ | refine wkR_agg ?_ | refine wkR_tup ?_)) <;> rfl) | (rw [← hq4_2, hdn]; (repeat' (first | exact .nil | exact wkR_c | exact wkR_own | exact wkR_nils | refine wkR_int ?_ | refine wkR_bool ?_ | refine wkR_sl ?_ | refine wkR_osl ?_ | refine wkR_nsl ?_ | refine wkR_oo ?_ | refine wkR_no ?_ | refine .cons ?_ ?_ | refine wkR_agg ?_ | refine wkR_tup ?_)) <;> first | rfl | (dsimp only; omega) | (dsimp only; rw [if_pos rfl, hee, List.drop_drop]))
   case b9 =>
    have hp9 := hb9
    try simp only [kb] at hp9
    refine awp_skip ?_
    refine hK7 _ ?_
    refine awp_seq_k fun K11 hK11 => ?_
    refine seq_reg 3 fun L12 hL12 => ?_
    simp only [qq, seval, -Nat.reducePow, reduceIte, reduceCtorEq, s5t0, s5t5, s5t6, s5t7, hb9]
    refine nil_z hL12 ?_
    as_aux_lemma =>
     refine awp_cond (t := ?t13) ?h13 (fun hb13 => ?a13) (fun hb13 => ?b13)
     case h13 => simp only [qq, seval, -Nat.reducePow, reduceIte, reduceCtorEq, s5t0, s5t5, s5t6, s5t7, hb9]; rfl
     case a13 =>
      have hp13 := hb13
      try simp only [kb] at hp13
      refine seq_reg 3 fun L14 hL14 => ?_
      simp only [qq, seval, -Nat.reducePow, reduceIte, reduceCtorEq, s5t0, s5t5, s5t6, s5t7, hb9, hb13]
      refine nil_z hL14 ?_
      refine awp_ret ?_
      try simp only [rk_state]
      refine ⟨_, 0, by simp only [qq, seval, -Nat.reducePow, reduceIte, reduceCtorEq, resA, Try.results42, s5t0, s5t5, s5t6, s5t7, hb9, hb13]; rfl, ?_, nomem_a, nomem_a⟩
      simp only [packA]
      unfold ztakeR; first | (rw [← hq4_2, show 8 - k = 0 from by omega, zr_zero]; (repeat' (first | exact .nil | exact wkR_c | exact wkR_own | exact wkR_nils | refine wkR_int ?_ | refine wkR_bool ?_ | refine wkR_sl ?_ | refine wkR_osl ?_ | refine wkR_nsl ?_ | refine wkR_oo ?_ | refine wkR_no ?_ | refine .cons ?_ ?_ | refine wkR_agg ?_ | refine wkR_tup ?_)) <;> rfl) | (rw [← hq4_2, zr_torn (by omega) (by omega)]; (repeat' (first | exact .nil | exact wkR_c | exact wkR_own | exact wkR_nils | refine wkR_int ?_ | refine wkR_bool ?_ | refine wkR_sl ?_ | refine wkR_osl ?_ | refine wkR_nsl ?_ | refine wkR_oo ?_ | refine wkR_no ?_ | refine .cons ?_ ?_ | refine wkR_agg ?_ | refine wkR_tup ?_)) <;> rfl) | (rw [← hq4_2, zr_form (by omega) (by omega) (by omega) (by omega)]; (repeat' (first | exact .nil | exact wkR_c | exact wkR_own | exact wkR_nils | refine wkR_int ?_ | refine wkR_bool ?_ | refine wkR_sl ?_ | refine wkR_osl ?_ | refine wkR_nsl ?_ | refine wkR_oo ?_ | refine wkR_no ?_ | refine .cons ?_ ?_ | refine wkR_agg ?_ | refine wkR_tup ?_)) <;> rfl) | (rw [← hq4_2, zr_range (by omega) (by omega) hnf (by rw [hm8]; omega)]; (repeat' (first | exact .nil | exact wkR_c | exact wkR_own | exact wkR_nils | refine wkR_int ?_ | refine wkR_bool ?_ | refine wkR_sl ?_ | refine wkR_osl ?_ | refine wkR_nsl ?_ | refine wkR_oo ?_ | refine wkR_no ?_ | refine .cons ?_ ?_ | refine wkR_agg ?_ | refine wkR_tup ?_)) <;> rfl) | (rw [← hq4_2, hdn]; (repeat' (first | exact .nil | exact wkR_c | exact wkR_own | exact wkR_nils | refine wkR_int ?_ | refine wkR_bool ?_ | refine wkR_sl ?_ | refine wkR_osl ?_ | refine wkR_nsl ?_ | refine wkR_oo ?_ | refine wkR_no ?_ | refine .cons ?_ ?_ | refine wkR_agg ?_ | refine wkR_tup ?_)) <;> first | rfl | (dsimp only; omega) | (dsimp only; rw [if_pos rfl, hee, List.drop_drop]))
     case b13 =>
      have hp13 := hb13
      try simp only [kb] at hp13
      refine awp_skip ?_
      refine hK11 _ ?_
      refine seq_reg 1 fun L15 hL15 => ?_
      simp only [qq, seval, -Nat.reducePow, reduceIte, reduceCtorEq, s5t0, s5t5, s5t6, s5t7, hb9, hb13]
      refine nil_z hL15 ?_
      refine awp_seq_k fun K16 hK16 => ?_
      have hgl : (((l.drop (4 * k)).take 4).drop 1).length = 3 := by rw [List.length_drop, List.length_take]; omega
      refine seq_reg 1 fun L17 hL17 => ?_
      simp only [qq, seval, -Nat.reducePow, reduceIte, reduceCtorEq, s5t0, s5t5, s5t6, s5t7, hb9, hb13]
      refine aops_val (v := ?v18) rfl ?h18 ?_
      case h18 => simp only [qq, seval, -Nat.reducePow, reduceIte, reduceCtorEq, s5t0, s5t5, s5t6, s5t7, hb9, hb13]; first | (rw [slc_lh un36 if4] <;> omega) | (rw [slc_lho un36 if4] <;> omega)
      simp only [qq, seval, -Nat.reducePow, reduceIte, reduceCtorEq, s5t0, s5t5, s5t6, s5t7, hb9, hb13]
      refine aops_orunN 2 _ _ ?_
      simp only [qq, seval, -Nat.reducePow, reduceIte, reduceCtorEq, s5t0, s5t5, s5t6, s5t7, hb9, hb13]
      refine nil_z hL17 ?_
      as_aux_lemma =>
       refine awp_block ?_
       refine awp_loopW (W := [23, 24, 25, 26, 9, 10, 27, 28, 29, 30, 31, 8, 32, 22]) (M := []) rfl rfl (fun kk s => ∃ (i : Nat), kk = 3 - i ∧ (i ≤ 3) ∧ s.t 8 = .c (.int .i64 (dAt (((l.drop (4 * k)).take 4).drop 1) i)) ∧ s.t 22 = .c (.int .i64 (i : Int))) ((fun (i : Nat) => 3 - i) (0)) ?i19 ?r19
       case i19 =>
        refine ⟨0, rfl, ?_, ?_, ?_⟩
        · first | omega | simp
        · (try simp only [qq, seval, -Nat.reducePow, reduceIte, reduceCtorEq, s5t0, s5t5, s5t6, s5t7, hb9, hb13])
          all_goals rfl
        · (try simp only [qq, seval, -Nat.reducePow, reduceIte, reduceCtorEq, s5t0, s5t5, s5t6, s5t7, hb9, hb13])
          all_goals (first | done | rfl | (simp only [AV.c.injEq, C.int.injEq, List.cons.injEq, and_true, true_and]; omega))
       case r19 =>
        rintro kk s hf ⟨i, rfl, hq10_0, s19t8, s19t22⟩ K19 hK19
        have s19f0 := hf 0 rfl (by (try simp only [qq, seval, -Nat.reducePow, reduceIte, reduceCtorEq, kn, s5t0, s5t5, s5t6, s5t7, hb9, hb13]); all_goals rfl)
        simp only [qq, seval, -Nat.reducePow, reduceIte, reduceCtorEq, s5t0, s5t5, s5t6, s5t7, hb9, hb13] at s19f0
        have s19f5 := hf 5 rfl (by (try simp only [qq, seval, -Nat.reducePow, reduceIte, reduceCtorEq, kn, s5t0, s5t5, s5t6, s5t7, hb9, hb13]); all_goals rfl)
        simp only [qq, seval, -Nat.reducePow, reduceIte, reduceCtorEq, s5t0, s5t5, s5t6, s5t7, hb9, hb13] at s19f5
        have s19f6 := hf 6 rfl (by (try simp only [qq, seval, -Nat.reducePow, reduceIte, reduceCtorEq, kn, s5t0, s5t5, s5t6, s5t7, hb9, hb13]); all_goals rfl)
        simp only [qq, seval, -Nat.reducePow, reduceIte, reduceCtorEq, s5t0, s5t5, s5t6, s5t7, hb9, hb13] at s19f6
        have s19f7 := hf 7 rfl (by (try simp only [qq, seval, -Nat.reducePow, reduceIte, reduceCtorEq, kn, s5t0, s5t5, s5t6, s5t7, hb9, hb13]); all_goals rfl)
        simp only [qq, seval, -Nat.reducePow, reduceIte, reduceCtorEq, s5t0, s5t5, s5t6, s5t7, hb9, hb13] at s19f7
        have s19f20 := hf 20 rfl (by (try simp only [qq, seval, -Nat.reducePow, reduceIte, reduceCtorEq, kn, s5t0, s5t5, s5t6, s5t7, hb9, hb13]); all_goals rfl)
        simp only [qq, seval, -Nat.reducePow, reduceIte, reduceCtorEq, s5t0, s5t5, s5t6, s5t7, hb9, hb13] at s19f20
        have s19f21 := hf 21 rfl (by (try simp only [qq, seval, -Nat.reducePow, reduceIte, reduceCtorEq, kn, s5t0, s5t5, s5t6, s5t7, hb9, hb13]); all_goals rfl)
        simp only [qq, seval, -Nat.reducePow, reduceIte, reduceCtorEq, s5t0, s5t5, s5t6, s5t7, hb9, hb13] at s19f21
        clear hf
        refine seq_reg 1 fun L20 hL20 => ?_
        simp only [qq, seval, -Nat.reducePow, reduceIte, reduceCtorEq, s5t0, s5t5, s5t6, s5t7, hb9, hb13, s19t8, s19t22, s19f0, s19f5, s19f6, s19f7, s19f20, s19f21]
        refine nil_z hL20 ?_
        refine awp_seq_k fun K21 hK21 => ?_
        refine awp_cond (t := ?t22) ?h22 (fun hb22 => ?a22) (fun hb22 => ?b22)
        case h22 => simp only [qq, seval, -Nat.reducePow, reduceIte, reduceCtorEq, s5t0, s5t5, s5t6, s5t7, hb9, hb13, s19t8, s19t22, s19f0, s19f5, s19f6, s19f7, s19f20, s19f21]; rfl
        case a22 =>
         have hp22 := hb22
         try simp only [kb] at hp22
         refine awp_skip ?_
         refine hK21 _ ?_
         refine awp_seq_k fun K23 hK23 => ?_
         refine awp_block ?_
         refine seq_reg 1 fun L24 hL24 => ?_
         simp only [qq, seval, -Nat.reducePow, reduceIte, reduceCtorEq, s5t0, s5t5, s5t6, s5t7, hb9, hb13, s19t8, s19t22, s19f0, s19f5, s19f6, s19f7, s19f20, s19f21, hb22]
         refine aops_val (v := ?v25) rfl ?h25 ?_
         case h25 => simp only [qq, seval, -Nat.reducePow, reduceIte, reduceCtorEq, s5t0, s5t5, s5t6, s5t7, hb9, hb13, s19t8, s19t22, s19f0, s19f5, s19f6, s19f7, s19f20, s19f21, hb22]; first | (rw [idx_c un36 if4] <;> omega) | (rw [idx_o un36 if4] <;> omega) | (rw [idx_a un36 if4] <;> omega)
         simp only [qq, seval, -Nat.reducePow, reduceIte, reduceCtorEq, s5t0, s5t5, s5t6, s5t7, hb9, hb13, s19t8, s19t22, s19f0, s19f5, s19f6, s19f7, s19f20, s19f21, hb22]
         refine aops_orunN 3 _ _ ?_
         simp only [qq, seval, -Nat.reducePow, reduceIte, reduceCtorEq, s5t0, s5t5, s5t6, s5t7, hb9, hb13, s19t8, s19t22, s19f0, s19f5, s19f6, s19f7, s19f20, s19f21, hb22]
         refine nil_z hL24 ?_
         refine seq_reg 1 fun L26 hL26 => ?_
         simp only [qq, seval, -Nat.reducePow, reduceIte, reduceCtorEq, s5t0, s5t5, s5t6, s5t7, hb9, hb13, s19t8, s19t22, s19f0, s19f5, s19f6, s19f7, s19f20, s19f21, hb22]
         refine nil_z hL26 ?_
         as_aux_lemma =>
          refine awp_cond (t := ?t27) ?h27 (fun hb27 => ?a27) (fun hb27 => ?b27)
          case h27 => simp only [qq, seval, -Nat.reducePow, reduceIte, reduceCtorEq, s5t0, s5t5, s5t6, s5t7, hb9, hb13, s19t8, s19t22, s19f0, s19f5, s19f6, s19f7, s19f20, s19f21, hb22]; rfl
          case a27 =>
           have hp27 := hb27
           try simp only [kb] at hp27
           have hmin : min (i : Int).toNat IntKind.i64.bits = i := by show min _ 64 = _; omega
           have hdp := div_pow_le (a := 4) (by omega) i
           have hda := dAt_in (((l.drop (4 * k)).take 4).drop 1) i
           refine reg 2 fun L28 hL28 => ?_
           simp only [qq, seval, -Nat.reducePow, reduceIte, reduceCtorEq, s5t0, s5t5, s5t6, s5t7, hb9, hb13, s19t8, s19t22, s19f0, s19f5, s19f6, s19f7, s19f20, s19f21, hb22, hb27]
           refine aops_val (v := ?v29) rfl ?h29 ?_
           case h29 => simp only [qq, seval, -Nat.reducePow, reduceIte, reduceCtorEq, s5t0, s5t5, s5t6, s5t7, hb9, hb13, s19t8, s19t22, s19f0, s19f5, s19f6, s19f7, s19f20, s19f21, hb22, hb27]; (rw [y_shr (by omega), hmin, fdiv_pow (by omega)])
           simp only [qq, seval, -Nat.reducePow, reduceIte, reduceCtorEq, s5t0, s5t5, s5t6, s5t7, hb9, hb13, s19t8, s19t22, s19f0, s19f5, s19f6, s19f7, s19f20, s19f21, hb22, hb27]
           refine aops_val (v := ?v30) rfl ?h30 ?_
           case h30 => simp only [qq, seval, -Nat.reducePow, reduceIte, reduceCtorEq, s5t0, s5t5, s5t6, s5t7, hb9, hb13, s19t8, s19t22, s19f0, s19f5, s19f6, s19f7, s19f20, s19f21, hb22, hb27]; first | (rw [wr_id] <;> omega) | rfl
           simp only [qq, seval, -Nat.reducePow, reduceIte, reduceCtorEq, s5t0, s5t5, s5t6, s5t7, hb9, hb13, s19t8, s19t22, s19f0, s19f5, s19f6, s19f7, s19f20, s19f21, hb22, hb27]
           refine aops_orunN 1 _ _ ?_
           simp only [qq, seval, -Nat.reducePow, reduceIte, reduceCtorEq, s5t0, s5t5, s5t6, s5t7, hb9, hb13, s19t8, s19t22, s19f0, s19f5, s19f6, s19f7, s19f20, s19f21, hb22, hb27]
           refine nil_q hL28 ?_
           try simp only [rk_state]
           refine hK23 _ ?_
           refine reg 0 fun L31 hL31 => ?_
           simp only [qq, seval, -Nat.reducePow, reduceIte, reduceCtorEq, s5t0, s5t5, s5t6, s5t7, hb9, hb13, s19t8, s19t22, s19f0, s19f5, s19f6, s19f7, s19f20, s19f21, hb22, hb27]
           refine aops_val (v := ?v32) rfl ?h32 ?_
           case h32 => simp only [qq, seval, -Nat.reducePow, reduceIte, reduceCtorEq, s5t0, s5t5, s5t6, s5t7, hb9, hb13, s19t8, s19t22, s19f0, s19f5, s19f6, s19f7, s19f20, s19f21, hb22, hb27]; first | (rw [wr_id] <;> omega) | rfl
           simp only [qq, seval, -Nat.reducePow, reduceIte, reduceCtorEq, s5t0, s5t5, s5t6, s5t7, hb9, hb13, s19t8, s19t22, s19f0, s19f5, s19f6, s19f7, s19f20, s19f21, hb22, hb27]
           refine aops_orunN 1 _ _ ?_
           simp only [qq, seval, -Nat.reducePow, reduceIte, reduceCtorEq, s5t0, s5t5, s5t6, s5t7, hb9, hb13, s19t8, s19t22, s19f0, s19f5, s19f6, s19f7, s19f20, s19f21, hb22, hb27]
           refine nil_q hL31 ?_
           try simp only [rk_state]
           have hdn := dAt_next (b := (((l.drop (4 * k)).take 4).drop 1)) (i := i) (by omega)
           refine hK19 _ ((fun (i : Nat) => 3 - i) (i + 1)) ?_ ⟨i + 1, rfl, ?_, ?_, ?_⟩
           · (try simp only []); omega
           · first | omega | simp
           · (try simp only [qq, seval, -Nat.reducePow, reduceIte, reduceCtorEq, s5t0, s5t5, s5t6, s5t7, hb9, hb13, s19t8, s19t22, s19f0, s19f5, s19f6, s19f7, s19f20, s19f21, hb22, hb27])
             all_goals (first | (rw [hdn, if_pos (by assumption)]; done) | (rw [hdn, if_neg (by simp_all), Int.add_zero]; done))
           · (try simp only [qq, seval, -Nat.reducePow, reduceIte, reduceCtorEq, s5t0, s5t5, s5t6, s5t7, hb9, hb13, s19t8, s19t22, s19f0, s19f5, s19f6, s19f7, s19f20, s19f21, hb22, hb27])
             all_goals (first | done | rfl | (simp only [AV.c.injEq, C.int.injEq, List.cons.injEq, and_true, true_and]; omega))
          case b27 =>
           have hp27 := hb27
           try simp only [kb] at hp27
           refine awp_skip ?_
           try simp only [rk_state]
           refine hK23 _ ?_
           refine reg 0 fun L33 hL33 => ?_
           simp only [qq, seval, -Nat.reducePow, reduceIte, reduceCtorEq, s5t0, s5t5, s5t6, s5t7, hb9, hb13, s19t8, s19t22, s19f0, s19f5, s19f6, s19f7, s19f20, s19f21, hb22, hb27]
           refine aops_val (v := ?v34) rfl ?h34 ?_
           case h34 => simp only [qq, seval, -Nat.reducePow, reduceIte, reduceCtorEq, s5t0, s5t5, s5t6, s5t7, hb9, hb13, s19t8, s19t22, s19f0, s19f5, s19f6, s19f7, s19f20, s19f21, hb22, hb27]; first | (rw [wr_id] <;> omega) | rfl
           simp only [qq, seval, -Nat.reducePow, reduceIte, reduceCtorEq, s5t0, s5t5, s5t6, s5t7, hb9, hb13, s19t8, s19t22, s19f0, s19f5, s19f6, s19f7, s19f20, s19f21, hb22, hb27]
           refine aops_orunN 1 _ _ ?_
           simp only [qq, seval, -Nat.reducePow, reduceIte, reduceCtorEq, s5t0, s5t5, s5t6, s5t7, hb9, hb13, s19t8, s19t22, s19f0, s19f5, s19f6, s19f7, s19f20, s19f21, hb22, hb27]
           refine nil_q hL33 ?_
           try simp only [rk_state]
           have hdn := dAt_next (b := (((l.drop (4 * k)).take 4).drop 1)) (i := i) (by omega)
           refine hK19 _ ((fun (i : Nat) => 3 - i) (i + 1)) ?_ ⟨i + 1, rfl, ?_, ?_, ?_⟩
           · (try simp only []); omega
           · first | omega | simp
           · (try simp only [qq, seval, -Nat.reducePow, reduceIte, reduceCtorEq, s5t0, s5t5, s5t6, s5t7, hb9, hb13, s19t8, s19t22, s19f0, s19f5, s19f6, s19f7, s19f20, s19f21, hb22, hb27])
             all_goals (first | (rw [hdn, if_pos (by assumption)]; done) | (rw [hdn, if_neg (by simp_all), Int.add_zero]; done))
           · (try simp only [qq, seval, -Nat.reducePow, reduceIte, reduceCtorEq, s5t0, s5t5, s5t6, s5t7, hb9, hb13, s19t8, s19t22, s19f0, s19f5, s19f6, s19f7, s19f20, s19f21, hb22, hb27])
             all_goals (first | done | rfl | (simp only [AV.c.injEq, C.int.injEq, List.cons.injEq, and_true, true_and]; omega))
        case b22 =>
         have hp22 := hb22
         try simp only [kb] at hp22
         refine awp_exit ?_
         simp only [rk_state, reduceIte, Nat.reduceEqDiff]
         refine hK16 _ ?_
         as_aux_lemma =>
          refine awp_seq_k fun K35 hK35 => ?_
          have ei : i = 3 := by omega
          subst ei
          have hda := dAt_in (((l.drop (4 * k)).take 4).drop 1) 3
          have hm8 := group_mod (l := l.drop (4 * k)) (by omega)
          have hp8 := pow8 (k := k) (by omega)
          have hmb := mul_bd (a := dAt (((l.drop (4 * k)).take 4).drop 1) 3) (b := 8 ^ k) (c := 16777216) (by omega) (by omega) (by omega) (by omega)
          refine seq_reg 3 fun L36 hL36 => ?_
          simp only [qq, seval, -Nat.reducePow, reduceIte, reduceCtorEq, s5t0, s5t5, s5t6, s5t7, hb9, hb13, s19t8, s19t22, s19f0, s19f5, s19f6, s19f7, s19f20, s19f21, hb22]
          refine aops_part (b := ?p37) 35 ?h37 (fun hb37 => ?a37) (fun hb37 => ?b37)
          case h37 => simp only [qq, seval, -Nat.reducePow, reduceIte, reduceCtorEq, s5t0, s5t5, s5t6, s5t7, hb9, hb13, s19t8, s19t22, s19f0, s19f5, s19f6, s19f7, s19f20, s19f21, hb22]; rfl
          case a37 =>
           have hp37 := hb37
           try simp only [kb] at hp37
           try simp only [hb37]
           refine aops_orunN 4 _ _ ?_
           simp only [qq, seval, -Nat.reducePow, reduceIte, reduceCtorEq, s5t0, s5t5, s5t6, s5t7, hb9, hb13, s19t8, s19t22, s19f0, s19f5, s19f6, s19f7, s19f20, s19f21, hb22, hb37]
           refine aops_part (b := ?p38) 39 ?h38 (fun hb38 => ?a38) (fun hb38 => ?b38)
           case h38 => simp only [qq, seval, -Nat.reducePow, reduceIte, reduceCtorEq, s5t0, s5t5, s5t6, s5t7, hb9, hb13, s19t8, s19t22, s19f0, s19f5, s19f6, s19f7, s19f20, s19f21, hb22, hb37]; rfl
           case a38 =>
            have hp38 := hb38
            try simp only [kb] at hp38
            try simp only [hb38]
            refine aops_orunN 1 _ _ ?_
            simp only [qq, seval, -Nat.reducePow, reduceIte, reduceCtorEq, s5t0, s5t5, s5t6, s5t7, hb9, hb13, s19t8, s19t22, s19f0, s19f5, s19f6, s19f7, s19f20, s19f21, hb22, hb37, hb38]
            refine aops_val (v := ?v39) (by simp only [qq, seval, -Nat.reducePow, reduceIte, reduceCtorEq, s5t0, s5t5, s5t6, s5t7, hb9, hb13, s19t8, s19t22, s19f0, s19f5, s19f6, s19f7, s19f20, s19f21, hb22, hb37, hb38]) ?h39 ?_
            case h39 => simp only [qq, seval, -Nat.reducePow, reduceIte, reduceCtorEq, s5t0, s5t5, s5t6, s5t7, hb9, hb13, s19t8, s19t22, s19f0, s19f5, s19f6, s19f7, s19f20, s19f21, hb22, hb37, hb38]; first | (rw [idx_c un36 if4] <;> omega) | (rw [idx_o un36 if4] <;> omega) | (rw [idx_a un36 if4] <;> omega)
            simp only [qq, seval, -Nat.reducePow, reduceIte, reduceCtorEq, s5t0, s5t5, s5t6, s5t7, hb9, hb13, s19t8, s19t22, s19f0, s19f5, s19f6, s19f7, s19f20, s19f21, hb22, hb37, hb38]
            refine aops_orunN 3 _ _ ?_
            simp only [qq, seval, -Nat.reducePow, reduceIte, reduceCtorEq, s5t0, s5t5, s5t6, s5t7, hb9, hb13, s19t8, s19t22, s19f0, s19f5, s19f6, s19f7, s19f20, s19f21, hb22, hb37, hb38]
            refine nil_z hL36 ?_
            refine awp_cond (t := ?t40) ?h40 (fun hb40 => ?a40) (fun hb40 => ?b40)
            case h40 => simp only [qq, seval, -Nat.reducePow, reduceIte, reduceCtorEq, s5t0, s5t5, s5t6, s5t7, hb9, hb13, s19t8, s19t22, s19f0, s19f5, s19f6, s19f7, s19f20, s19f21, hb22, hb37, hb38]; rfl
            case a40 =>
             have hp40 := hb40
             try simp only [kb] at hp40
             have hx := group_f (l := l.drop (4 * k)) (by omega) (by assumption)
             refine seq_reg 3 fun L41 hL41 => ?_
             simp only [qq, seval, -Nat.reducePow, reduceIte, reduceCtorEq, s5t0, s5t5, s5t6, s5t7, hb9, hb13, s19t8, s19t22, s19f0, s19f5, s19f6, s19f7, s19f20, s19f21, hb22, hb37, hb38, hb40]
             refine nil_z hL41 ?_
             refine awp_ret ?_
             try simp only [rk_state]
             refine ⟨_, 0, by simp only [qq, seval, -Nat.reducePow, reduceIte, reduceCtorEq, resA, Try.results42, s5t0, s5t5, s5t6, s5t7, hb9, hb13, s19t8, s19t22, s19f0, s19f5, s19f6, s19f7, s19f20, s19f21, hb22, hb37, hb38, hb40]; rfl, ?_, nomem_a, nomem_a⟩
             simp only [packA]
             unfold ztakeR; first | (rw [← hq4_2, show 8 - k = 0 from by omega, zr_zero]; (repeat' (first | exact .nil | exact wkR_c | exact wkR_own | exact wkR_nils | refine wkR_int ?_ | refine wkR_bool ?_ | refine wkR_sl ?_ | refine wkR_osl ?_ | refine wkR_nsl ?_ | refine wkR_oo ?_ | refine wkR_no ?_ | refine .cons ?_ ?_ | refine wkR_agg ?_ | refine wkR_tup ?_)) <;> rfl) | (rw [← hq4_2, zr_torn (by omega) (by omega)]; (repeat' (first | exact .nil | exact wkR_c | exact wkR_own | exact wkR_nils | refine wkR_int ?_ | refine wkR_bool ?_ | refine wkR_sl ?_ | refine wkR_osl ?_ | refine wkR_nsl ?_ | refine wkR_oo ?_ | refine wkR_no ?_ | refine .cons ?_ ?_ | refine wkR_agg ?_ | refine wkR_tup ?_)) <;> rfl) | (rw [← hq4_2, zr_form (by omega) (by omega) (by omega) (by omega)]; (repeat' (first | exact .nil | exact wkR_c | exact wkR_own | exact wkR_nils | refine wkR_int ?_ | refine wkR_bool ?_ | refine wkR_sl ?_ | refine wkR_osl ?_ | refine wkR_nsl ?_ | refine wkR_oo ?_ | refine wkR_no ?_ | refine .cons ?_ ?_ | refine wkR_agg ?_ | refine wkR_tup ?_)) <;> rfl) | (rw [← hq4_2, zr_range (by omega) (by omega) hnf (by rw [hm8]; omega)]; (repeat' (first | exact .nil | exact wkR_c | exact wkR_own | exact wkR_nils | refine wkR_int ?_ | refine wkR_bool ?_ | refine wkR_sl ?_ | refine wkR_osl ?_ | refine wkR_nsl ?_ | refine wkR_oo ?_ | refine wkR_no ?_ | refine .cons ?_ ?_ | refine wkR_agg ?_ | refine wkR_tup ?_)) <;> rfl) | (rw [← hq4_2, hdn]; (repeat' (first | exact .nil | exact wkR_c | exact wkR_own | exact wkR_nils | refine wkR_int ?_ | refine wkR_bool ?_ | refine wkR_sl ?_ | refine wkR_osl ?_ | refine wkR_nsl ?_ | refine wkR_oo ?_ | refine wkR_no ?_ | refine .cons ?_ ?_ | refine wkR_agg ?_ | refine wkR_tup ?_)) <;> first | rfl | (dsimp only; omega) | (dsimp only; rw [if_pos rfl, hee, List.drop_drop]))
            case b40 =>
             have hp40 := hb40
             try simp only [kb] at hp40
             refine awp_skip ?_
             refine hK35 _ ?_
             have hnf : ¬ ((readR (l.drop (4 * k)) 4).1 = 0 ∧ 0 < k) := by first | omega | (have h9 := group_t (l := l.drop (4 * k)) (by omega) (by assumption); omega)
             refine seq_reg 3 fun L42 hL42 => ?_
             simp only [qq, seval, -Nat.reducePow, reduceIte, reduceCtorEq, s5t0, s5t5, s5t6, s5t7, hb9, hb13, s19t8, s19t22, s19f0, s19f5, s19f6, s19f7, s19f20, s19f21, hb22, hb37, hb38, hb40]
             refine aops_val (v := ?v43) rfl ?h43 ?_
             case h43 => simp only [qq, seval, -Nat.reducePow, reduceIte, reduceCtorEq, s5t0, s5t5, s5t6, s5t7, hb9, hb13, s19t8, s19t22, s19f0, s19f5, s19f6, s19f7, s19f20, s19f21, hb22, hb37, hb38, hb40]; first | (rw [wr_id] <;> omega) | rfl
             simp only [qq, seval, -Nat.reducePow, reduceIte, reduceCtorEq, s5t0, s5t5, s5t6, s5t7, hb9, hb13, s19t8, s19t22, s19f0, s19f5, s19f6, s19f7, s19f20, s19f21, hb22, hb37, hb38, hb40]
             refine aops_val (v := ?v44) rfl ?h44 ?_
             case h44 => simp only [qq, seval, -Nat.reducePow, reduceIte, reduceCtorEq, s5t0, s5t5, s5t6, s5t7, hb9, hb13, s19t8, s19t22, s19f0, s19f5, s19f6, s19f7, s19f20, s19f21, hb22, hb37, hb38, hb40]; first | (rw [wr_id] <;> omega) | rfl
             simp only [qq, seval, -Nat.reducePow, reduceIte, reduceCtorEq, s5t0, s5t5, s5t6, s5t7, hb9, hb13, s19t8, s19t22, s19f0, s19f5, s19f6, s19f7, s19f20, s19f21, hb22, hb37, hb38, hb40]
             refine aops_orunN 1 _ _ ?_
             simp only [qq, seval, -Nat.reducePow, reduceIte, reduceCtorEq, s5t0, s5t5, s5t6, s5t7, hb9, hb13, s19t8, s19t22, s19f0, s19f5, s19f6, s19f7, s19f20, s19f21, hb22, hb37, hb38, hb40]
             refine nil_z hL42 ?_
             as_aux_lemma =>
              refine seq_reg 1 fun L45 hL45 => ?_
              simp only [qq, seval, -Nat.reducePow, reduceIte, reduceCtorEq, s5t0, s5t5, s5t6, s5t7, hb9, hb13, s19t8, s19t22, s19f0, s19f5, s19f6, s19f7, s19f20, s19f21, hb22, hb37, hb38, hb40]
              refine aops_val (v := ?v46) rfl ?h46 ?_
              case h46 => simp only [qq, seval, -Nat.reducePow, reduceIte, reduceCtorEq, s5t0, s5t5, s5t6, s5t7, hb9, hb13, s19t8, s19t22, s19f0, s19f5, s19f6, s19f7, s19f20, s19f21, hb22, hb37, hb38, hb40]; first | (rw [wr_id] <;> omega) | rfl
              simp only [qq, seval, -Nat.reducePow, reduceIte, reduceCtorEq, s5t0, s5t5, s5t6, s5t7, hb9, hb13, s19t8, s19t22, s19f0, s19f5, s19f6, s19f7, s19f20, s19f21, hb22, hb37, hb38, hb40]
              refine aops_orunN 1 _ _ ?_
              simp only [qq, seval, -Nat.reducePow, reduceIte, reduceCtorEq, s5t0, s5t5, s5t6, s5t7, hb9, hb13, s19t8, s19t22, s19f0, s19f5, s19f6, s19f7, s19f20, s19f21, hb22, hb37, hb38, hb40]
              refine nil_z hL45 ?_
              refine awp_seq_k fun K47 hK47 => ?_
              refine seq_reg 2 fun L48 hL48 => ?_
              simp only [qq, seval, -Nat.reducePow, reduceIte, reduceCtorEq, s5t0, s5t5, s5t6, s5t7, hb9, hb13, s19t8, s19t22, s19f0, s19f5, s19f6, s19f7, s19f20, s19f21, hb22, hb37, hb38, hb40]
              refine nil_z hL48 ?_
              refine awp_cond (t := ?t49) ?h49 (fun hb49 => ?a49) (fun hb49 => ?b49)
              case h49 => simp only [qq, seval, -Nat.reducePow, reduceIte, reduceCtorEq, s5t0, s5t5, s5t6, s5t7, hb9, hb13, s19t8, s19t22, s19f0, s19f5, s19f6, s19f7, s19f20, s19f21, hb22, hb37, hb38, hb40]; rfl
              case a49 =>
               have hp49 := hb49
               try simp only [kb] at hp49
               refine seq_reg 3 fun L50 hL50 => ?_
               simp only [qq, seval, -Nat.reducePow, reduceIte, reduceCtorEq, s5t0, s5t5, s5t6, s5t7, hb9, hb13, s19t8, s19t22, s19f0, s19f5, s19f6, s19f7, s19f20, s19f21, hb22, hb37, hb38, hb40, hb49]
               refine nil_z hL50 ?_
               as_aux_lemma =>
                refine awp_ret ?_
                try simp only [rk_state]
                refine ⟨_, 0, by simp only [qq, seval, -Nat.reducePow, reduceIte, reduceCtorEq, resA, Try.results42, s5t0, s5t5, s5t6, s5t7, hb9, hb13, s19t8, s19t22, s19f0, s19f5, s19f6, s19f7, s19f20, s19f21, hb22, hb37, hb38, hb40, hb49]; rfl, ?_, nomem_a, nomem_a⟩
                simp only [packA]
                unfold ztakeR; first | (rw [← hq4_2, show 8 - k = 0 from by omega, zr_zero]; (repeat' (first | exact .nil | exact wkR_c | exact wkR_own | exact wkR_nils | refine wkR_int ?_ | refine wkR_bool ?_ | refine wkR_sl ?_ | refine wkR_osl ?_ | refine wkR_nsl ?_ | refine wkR_oo ?_ | refine wkR_no ?_ | refine .cons ?_ ?_ | refine wkR_agg ?_ | refine wkR_tup ?_)) <;> rfl) | (rw [← hq4_2, zr_torn (by omega) (by omega)]; (repeat' (first | exact .nil | exact wkR_c | exact wkR_own | exact wkR_nils | refine wkR_int ?_ | refine wkR_bool ?_ | refine wkR_sl ?_ | refine wkR_osl ?_ | refine wkR_nsl ?_ | refine wkR_oo ?_ | refine wkR_no ?_ | refine .cons ?_ ?_ | refine wkR_agg ?_ | refine wkR_tup ?_)) <;> rfl) | (rw [← hq4_2, zr_form (by omega) (by omega) (by omega) (by omega)]; (repeat' (first | exact .nil | exact wkR_c | exact wkR_own | exact wkR_nils | refine wkR_int ?_ | refine wkR_bool ?_ | refine wkR_sl ?_ | refine wkR_osl ?_ | refine wkR_nsl ?_ | refine wkR_oo ?_ | refine wkR_no ?_ | refine .cons ?_ ?_ | refine wkR_agg ?_ | refine wkR_tup ?_)) <;> rfl) | (rw [← hq4_2, zr_range (by omega) (by omega) hnf (by rw [hm8]; omega)]; (repeat' (first | exact .nil | exact wkR_c | exact wkR_own | exact wkR_nils | refine wkR_int ?_ | refine wkR_bool ?_ | refine wkR_sl ?_ | refine wkR_osl ?_ | refine wkR_nsl ?_ | refine wkR_oo ?_ | refine wkR_no ?_ | refine .cons ?_ ?_ | refine wkR_agg ?_ | refine wkR_tup ?_)) <;> rfl) | (rw [← hq4_2, hdn]; (repeat' (first | exact .nil | exact wkR_c | exact wkR_own | exact wkR_nils | refine wkR_int ?_ | refine wkR_bool ?_ | refine wkR_sl ?_ | refine wkR_osl ?_ | refine wkR_nsl ?_ | refine wkR_oo ?_ | refine wkR_no ?_ | refine .cons ?_ ?_ | refine wkR_agg ?_ | refine wkR_tup ?_)) <;> first | rfl | (dsimp only; omega) | (dsimp only; rw [if_pos rfl, hee, List.drop_drop]))
              case b49 =>
               have hp49 := hb49
               try simp only [kb] at hp49
               refine awp_skip ?_
               refine hK47 _ ?_
               refine seq_reg 1 fun L51 hL51 => ?_
               simp only [qq, seval, -Nat.reducePow, reduceIte, reduceCtorEq, s5t0, s5t5, s5t6, s5t7, hb9, hb13, s19t8, s19t22, s19f0, s19f5, s19f6, s19f7, s19f20, s19f21, hb22, hb37, hb38, hb40, hb49]
               refine aops_val (v := ?v52) rfl ?h52 ?_
               case h52 => simp only [qq, seval, -Nat.reducePow, reduceIte, reduceCtorEq, s5t0, s5t5, s5t6, s5t7, hb9, hb13, s19t8, s19t22, s19f0, s19f5, s19f6, s19f7, s19f20, s19f21, hb22, hb37, hb38, hb40, hb49]; first | (rw [idx_c un36 if4] <;> omega) | (rw [idx_o un36 if4] <;> omega) | (rw [idx_a un36 if4] <;> omega)
               simp only [qq, seval, -Nat.reducePow, reduceIte, reduceCtorEq, s5t0, s5t5, s5t6, s5t7, hb9, hb13, s19t8, s19t22, s19f0, s19f5, s19f6, s19f7, s19f20, s19f21, hb22, hb37, hb38, hb40, hb49]
               refine aops_orunN 2 _ _ ?_
               simp only [qq, seval, -Nat.reducePow, reduceIte, reduceCtorEq, s5t0, s5t5, s5t6, s5t7, hb9, hb13, s19t8, s19t22, s19f0, s19f5, s19f6, s19f7, s19f20, s19f21, hb22, hb37, hb38, hb40, hb49]
               refine nil_z hL51 ?_
               refine seq_reg 1 fun L53 hL53 => ?_
               simp only [qq, seval, -Nat.reducePow, reduceIte, reduceCtorEq, s5t0, s5t5, s5t6, s5t7, hb9, hb13, s19t8, s19t22, s19f0, s19f5, s19f6, s19f7, s19f20, s19f21, hb22, hb37, hb38, hb40, hb49]
               refine aops_val (v := ?v54) rfl ?h54 ?_
               case h54 => simp only [qq, seval, -Nat.reducePow, reduceIte, reduceCtorEq, s5t0, s5t5, s5t6, s5t7, hb9, hb13, s19t8, s19t22, s19f0, s19f5, s19f6, s19f7, s19f20, s19f21, hb22, hb37, hb38, hb40, hb49]; first | (rw [slc_l un36 if4] <;> omega) | (rw [slc_lo un36 if4] <;> omega)
               simp only [qq, seval, -Nat.reducePow, reduceIte, reduceCtorEq, s5t0, s5t5, s5t6, s5t7, hb9, hb13, s19t8, s19t22, s19f0, s19f5, s19f6, s19f7, s19f20, s19f21, hb22, hb37, hb38, hb40, hb49]
               refine aops_orunN 1 _ _ ?_
               simp only [qq, seval, -Nat.reducePow, reduceIte, reduceCtorEq, s5t0, s5t5, s5t6, s5t7, hb9, hb13, s19t8, s19t22, s19f0, s19f5, s19f6, s19f7, s19f20, s19f21, hb22, hb37, hb38, hb40, hb49]
               refine nil_z hL53 ?_
               refine seq_reg 2 fun L55 hL55 => ?_
               simp only [qq, seval, -Nat.reducePow, reduceIte, reduceCtorEq, s5t0, s5t5, s5t6, s5t7, hb9, hb13, s19t8, s19t22, s19f0, s19f5, s19f6, s19f7, s19f20, s19f21, hb22, hb37, hb38, hb40, hb49]
               refine nil_z hL55 ?_
               as_aux_lemma =>
                refine awp_cond (t := ?t56) ?h56 (fun hb56 => ?a56) (fun hb56 => ?b56)
                case h56 => simp only [qq, seval, -Nat.reducePow, reduceIte, reduceCtorEq, s5t0, s5t5, s5t6, s5t7, hb9, hb13, s19t8, s19t22, s19f0, s19f5, s19f6, s19f7, s19f20, s19f21, hb22, hb37, hb38, hb40, hb49]; rfl
                case a56 =>
                 first | exact absurd hb56 (by decide) | (have hp56 := hb56; (try simp only [kb] at hp56); exfalso; omega)
                case b56 =>
                 have hp56 := hb56
                 try simp only [kb] at hp56
                 refine awp_skip ?_
                 try simp only [rk_state]
                 refine hK6 _ ?_
                 refine reg 1 fun L57 hL57 => ?_
                 simp only [qq, seval, -Nat.reducePow, reduceIte, reduceCtorEq, s5t0, s5t5, s5t6, s5t7, hb9, hb13, s19t8, s19t22, s19f0, s19f5, s19f6, s19f7, s19f20, s19f21, hb22, hb37, hb38, hb40, hb49, hb56]
                 refine aops_val (v := ?v58) rfl ?h58 ?_
                 case h58 => simp only [qq, seval, -Nat.reducePow, reduceIte, reduceCtorEq, s5t0, s5t5, s5t6, s5t7, hb9, hb13, s19t8, s19t22, s19f0, s19f5, s19f6, s19f7, s19f20, s19f21, hb22, hb37, hb38, hb40, hb49, hb56]; first | (rw [wr_id] <;> omega) | rfl
                 simp only [qq, seval, -Nat.reducePow, reduceIte, reduceCtorEq, s5t0, s5t5, s5t6, s5t7, hb9, hb13, s19t8, s19t22, s19f0, s19f5, s19f6, s19f7, s19f20, s19f21, hb22, hb37, hb38, hb40, hb49, hb56]
                 refine aops_orunN 1 _ _ ?_
                 simp only [qq, seval, -Nat.reducePow, reduceIte, reduceCtorEq, s5t0, s5t5, s5t6, s5t7, hb9, hb13, s19t8, s19t22, s19f0, s19f5, s19f6, s19f7, s19f20, s19f21, hb22, hb37, hb38, hb40, hb49, hb56]
                 refine nil_q hL57 ?_
                 try simp only [rk_state]
                 have hx := group_t (l := l.drop (4 * k)) (by omega) (by assumption)
                 have hnx := zr_next (f := 8 - k) (k := k) (n := n) (sc := 8 ^ k) (l := (l.drop (4 * k))) (by omega) (by omega) hnf (by rw [hm8]; omega) (by omega)
                 rw [List.drop_drop, hm8, show 4 * k + 4 = 4 * (k + 1) from by omega, show 8 - k - 1 = 8 - (k + 1) from by omega] at hnx
                 refine hK5 _ ((fun (k : Nat) (n : Int) => 9 - k) (k + 1) ((n + dAt (((l.drop (4 * k)).take 4).drop 1) 3 * 8 ^ k))) ?_ ⟨k + 1, (n + dAt (((l.drop (4 * k)).take 4).drop 1) 3 * 8 ^ k), rfl, ?_, ?_, ?_, ?_, ?_, ?_, ?_⟩
                 · (try simp only []); omega
                 · omega
                 · omega
                 · (rw [Int.pow_succ, ← hnx]; exact hq4_2)
                 · (try simp only [qq, seval, -Nat.reducePow, reduceIte, reduceCtorEq, s5t0, s5t5, s5t6, s5t7, hb9, hb13, s19t8, s19t22, s19f0, s19f5, s19f6, s19f7, s19f20, s19f21, hb22, hb37, hb38, hb40, hb49, hb56])
                   all_goals (rw [List.drop_drop]; rfl)
                 · (try simp only [qq, seval, -Nat.reducePow, reduceIte, reduceCtorEq, s5t0, s5t5, s5t6, s5t7, hb9, hb13, s19t8, s19t22, s19f0, s19f5, s19f6, s19f7, s19f20, s19f21, hb22, hb37, hb38, hb40, hb49, hb56])
                   all_goals (first | done | rfl | (simp only [AV.c.injEq, C.int.injEq, List.cons.injEq, and_true, true_and]; omega))
                 · (try simp only [qq, seval, -Nat.reducePow, reduceIte, reduceCtorEq, s5t0, s5t5, s5t6, s5t7, hb9, hb13, s19t8, s19t22, s19f0, s19f5, s19f6, s19f7, s19f20, s19f21, hb22, hb37, hb38, hb40, hb49, hb56])
                   all_goals (rw [Int.pow_succ])
                 · (try simp only [qq, seval, -Nat.reducePow, reduceIte, reduceCtorEq, s5t0, s5t5, s5t6, s5t7, hb9, hb13, s19t8, s19t22, s19f0, s19f5, s19f6, s19f7, s19f20, s19f21, hb22, hb37, hb38, hb40, hb49, hb56])
                   all_goals (first | done | rfl | (simp only [AV.c.injEq, C.int.injEq, List.cons.injEq, and_true, true_and]; omega))
           case b38 =>
            have hp38 := hb38
            try simp only [kb] at hp38
            try simp only [hb38]
            refine aops_orunN 5 _ _ ?_
            simp only [qq, seval, -Nat.reducePow, reduceIte, reduceCtorEq, s5t0, s5t5, s5t6, s5t7, hb9, hb13, s19t8, s19t22, s19f0, s19f5, s19f6, s19f7, s19f20, s19f21, hb22, hb37, hb38]
            refine nil_z hL36 ?_
            refine awp_cond (t := false) (by simp only [qq, seval, -Nat.reducePow, reduceIte, reduceCtorEq, s5t0, s5t5, s5t6, s5t7, hb9, hb13, s19t8, s19t22, s19f0, s19f5, s19f6, s19f7, s19f20, s19f21, hb22, hb37, hb38]) (fun h => ?_) (fun _ => ?_)
            case refine_1 => cases h
            refine awp_skip ?_
            refine hK35 _ ?_
            have hnf : ¬ ((readR (l.drop (4 * k)) 4).1 = 0 ∧ 0 < k) := by first | omega | (have h9 := group_t (l := l.drop (4 * k)) (by omega) (by assumption); omega)
            refine seq_reg 3 fun L59 hL59 => ?_
            simp only [qq, seval, -Nat.reducePow, reduceIte, reduceCtorEq, s5t0, s5t5, s5t6, s5t7, hb9, hb13, s19t8, s19t22, s19f0, s19f5, s19f6, s19f7, s19f20, s19f21, hb22, hb37, hb38]
            refine aops_val (v := ?v60) rfl ?h60 ?_
            case h60 => simp only [qq, seval, -Nat.reducePow, reduceIte, reduceCtorEq, s5t0, s5t5, s5t6, s5t7, hb9, hb13, s19t8, s19t22, s19f0, s19f5, s19f6, s19f7, s19f20, s19f21, hb22, hb37, hb38]; first | (rw [wr_id] <;> omega) | rfl
            simp only [qq, seval, -Nat.reducePow, reduceIte, reduceCtorEq, s5t0, s5t5, s5t6, s5t7, hb9, hb13, s19t8, s19t22, s19f0, s19f5, s19f6, s19f7, s19f20, s19f21, hb22, hb37, hb38]
            refine aops_val (v := ?v61) rfl ?h61 ?_
            case h61 => simp only [qq, seval, -Nat.reducePow, reduceIte, reduceCtorEq, s5t0, s5t5, s5t6, s5t7, hb9, hb13, s19t8, s19t22, s19f0, s19f5, s19f6, s19f7, s19f20, s19f21, hb22, hb37, hb38]; first | (rw [wr_id] <;> omega) | rfl
            simp only [qq, seval, -Nat.reducePow, reduceIte, reduceCtorEq, s5t0, s5t5, s5t6, s5t7, hb9, hb13, s19t8, s19t22, s19f0, s19f5, s19f6, s19f7, s19f20, s19f21, hb22, hb37, hb38]
            refine aops_orunN 1 _ _ ?_
            simp only [qq, seval, -Nat.reducePow, reduceIte, reduceCtorEq, s5t0, s5t5, s5t6, s5t7, hb9, hb13, s19t8, s19t22, s19f0, s19f5, s19f6, s19f7, s19f20, s19f21, hb22, hb37, hb38]
            refine nil_z hL59 ?_
            refine seq_reg 1 fun L62 hL62 => ?_
            simp only [qq, seval, -Nat.reducePow, reduceIte, reduceCtorEq, s5t0, s5t5, s5t6, s5t7, hb9, hb13, s19t8, s19t22, s19f0, s19f5, s19f6, s19f7, s19f20, s19f21, hb22, hb37, hb38]
            refine aops_val (v := ?v63) rfl ?h63 ?_
            case h63 => simp only [qq, seval, -Nat.reducePow, reduceIte, reduceCtorEq, s5t0, s5t5, s5t6, s5t7, hb9, hb13, s19t8, s19t22, s19f0, s19f5, s19f6, s19f7, s19f20, s19f21, hb22, hb37, hb38]; first | (rw [wr_id] <;> omega) | rfl
            simp only [qq, seval, -Nat.reducePow, reduceIte, reduceCtorEq, s5t0, s5t5, s5t6, s5t7, hb9, hb13, s19t8, s19t22, s19f0, s19f5, s19f6, s19f7, s19f20, s19f21, hb22, hb37, hb38]
            refine aops_orunN 1 _ _ ?_
            simp only [qq, seval, -Nat.reducePow, reduceIte, reduceCtorEq, s5t0, s5t5, s5t6, s5t7, hb9, hb13, s19t8, s19t22, s19f0, s19f5, s19f6, s19f7, s19f20, s19f21, hb22, hb37, hb38]
            refine nil_z hL62 ?_
            as_aux_lemma =>
             refine awp_seq_k fun K64 hK64 => ?_
             refine seq_reg 2 fun L65 hL65 => ?_
             simp only [qq, seval, -Nat.reducePow, reduceIte, reduceCtorEq, s5t0, s5t5, s5t6, s5t7, hb9, hb13, s19t8, s19t22, s19f0, s19f5, s19f6, s19f7, s19f20, s19f21, hb22, hb37, hb38]
             refine nil_z hL65 ?_
             refine awp_cond (t := ?t66) ?h66 (fun hb66 => ?a66) (fun hb66 => ?b66)
             case h66 => simp only [qq, seval, -Nat.reducePow, reduceIte, reduceCtorEq, s5t0, s5t5, s5t6, s5t7, hb9, hb13, s19t8, s19t22, s19f0, s19f5, s19f6, s19f7, s19f20, s19f21, hb22, hb37, hb38]; rfl
             case a66 =>
              have hp66 := hb66
              try simp only [kb] at hp66
              refine seq_reg 3 fun L67 hL67 => ?_
              simp only [qq, seval, -Nat.reducePow, reduceIte, reduceCtorEq, s5t0, s5t5, s5t6, s5t7, hb9, hb13, s19t8, s19t22, s19f0, s19f5, s19f6, s19f7, s19f20, s19f21, hb22, hb37, hb38, hb66]
              refine nil_z hL67 ?_
              refine awp_ret ?_
              try simp only [rk_state]
              refine ⟨_, 0, by simp only [qq, seval, -Nat.reducePow, reduceIte, reduceCtorEq, resA, Try.results42, s5t0, s5t5, s5t6, s5t7, hb9, hb13, s19t8, s19t22, s19f0, s19f5, s19f6, s19f7, s19f20, s19f21, hb22, hb37, hb38, hb66]; rfl, ?_, nomem_a, nomem_a⟩
              simp only [packA]
              unfold ztakeR; first | (rw [← hq4_2, show 8 - k = 0 from by omega, zr_zero]; (repeat' (first | exact .nil | exact wkR_c | exact wkR_own | exact wkR_nils | refine wkR_int ?_ | refine wkR_bool ?_ | refine wkR_sl ?_ | refine wkR_osl ?_ | refine wkR_nsl ?_ | refine wkR_oo ?_ | refine wkR_no ?_ | refine .cons ?_ ?_ | refine wkR_agg ?_ | refine wkR_tup ?_)) <;> rfl) | (rw [← hq4_2, zr_torn (by omega) (by omega)]; (repeat' (first | exact .nil | exact wkR_c | exact wkR_own | exact wkR_nils | refine wkR_int ?_ | refine wkR_bool ?_ | refine wkR_sl ?_ | refine wkR_osl ?_ | refine wkR_nsl ?_ | refine wkR_oo ?_ | refine wkR_no ?_ | refine .cons ?_ ?_ | refine wkR_agg ?_ | refine wkR_tup ?_)) <;> rfl) | (rw [← hq4_2, zr_form (by omega) (by omega) (by omega) (by omega)]; (repeat' (first | exact .nil | exact wkR_c | exact wkR_own | exact wkR_nils | refine wkR_int ?_ | refine wkR_bool ?_ | refine wkR_sl ?_ | refine wkR_osl ?_ | refine wkR_nsl ?_ | refine wkR_oo ?_ | refine wkR_no ?_ | refine .cons ?_ ?_ | refine wkR_agg ?_ | refine wkR_tup ?_)) <;> rfl) | (rw [← hq4_2, zr_range (by omega) (by omega) hnf (by rw [hm8]; omega)]; (repeat' (first | exact .nil | exact wkR_c | exact wkR_own | exact wkR_nils | refine wkR_int ?_ | refine wkR_bool ?_ | refine wkR_sl ?_ | refine wkR_osl ?_ | refine wkR_nsl ?_ | refine wkR_oo ?_ | refine wkR_no ?_ | refine .cons ?_ ?_ | refine wkR_agg ?_ | refine wkR_tup ?_)) <;> rfl) | (rw [← hq4_2, hdn]; (repeat' (first | exact .nil | exact wkR_c | exact wkR_own | exact wkR_nils | refine wkR_int ?_ | refine wkR_bool ?_ | refine wkR_sl ?_ | refine wkR_osl ?_ | refine wkR_nsl ?_ | refine wkR_oo ?_ | refine wkR_no ?_ | refine .cons ?_ ?_ | refine wkR_agg ?_ | refine wkR_tup ?_)) <;> first | rfl | (dsimp only; omega) | (dsimp only; rw [if_pos rfl, hee, List.drop_drop]))
             case b66 =>
              have hp66 := hb66
              try simp only [kb] at hp66
              refine awp_skip ?_
              refine hK64 _ ?_
              refine seq_reg 1 fun L68 hL68 => ?_
              simp only [qq, seval, -Nat.reducePow, reduceIte, reduceCtorEq, s5t0, s5t5, s5t6, s5t7, hb9, hb13, s19t8, s19t22, s19f0, s19f5, s19f6, s19f7, s19f20, s19f21, hb22, hb37, hb38, hb66]
              refine aops_val (v := ?v69) rfl ?h69 ?_
              case h69 => simp only [qq, seval, -Nat.reducePow, reduceIte, reduceCtorEq, s5t0, s5t5, s5t6, s5t7, hb9, hb13, s19t8, s19t22, s19f0, s19f5, s19f6, s19f7, s19f20, s19f21, hb22, hb37, hb38, hb66]; first | (rw [idx_c un36 if4] <;> omega) | (rw [idx_o un36 if4] <;> omega) | (rw [idx_a un36 if4] <;> omega)
              simp only [qq, seval, -Nat.reducePow, reduceIte, reduceCtorEq, s5t0, s5t5, s5t6, s5t7, hb9, hb13, s19t8, s19t22, s19f0, s19f5, s19f6, s19f7, s19f20, s19f21, hb22, hb37, hb38, hb66]
              refine aops_orunN 2 _ _ ?_
              simp only [qq, seval, -Nat.reducePow, reduceIte, reduceCtorEq, s5t0, s5t5, s5t6, s5t7, hb9, hb13, s19t8, s19t22, s19f0, s19f5, s19f6, s19f7, s19f20, s19f21, hb22, hb37, hb38, hb66]
              refine nil_z hL68 ?_
              as_aux_lemma =>
               refine seq_reg 1 fun L70 hL70 => ?_
               simp only [qq, seval, -Nat.reducePow, reduceIte, reduceCtorEq, s5t0, s5t5, s5t6, s5t7, hb9, hb13, s19t8, s19t22, s19f0, s19f5, s19f6, s19f7, s19f20, s19f21, hb22, hb37, hb38, hb66]
               refine aops_val (v := ?v71) rfl ?h71 ?_
               case h71 => simp only [qq, seval, -Nat.reducePow, reduceIte, reduceCtorEq, s5t0, s5t5, s5t6, s5t7, hb9, hb13, s19t8, s19t22, s19f0, s19f5, s19f6, s19f7, s19f20, s19f21, hb22, hb37, hb38, hb66]; first | (rw [slc_l un36 if4] <;> omega) | (rw [slc_lo un36 if4] <;> omega)
               simp only [qq, seval, -Nat.reducePow, reduceIte, reduceCtorEq, s5t0, s5t5, s5t6, s5t7, hb9, hb13, s19t8, s19t22, s19f0, s19f5, s19f6, s19f7, s19f20, s19f21, hb22, hb37, hb38, hb66]
               refine aops_orunN 1 _ _ ?_
               simp only [qq, seval, -Nat.reducePow, reduceIte, reduceCtorEq, s5t0, s5t5, s5t6, s5t7, hb9, hb13, s19t8, s19t22, s19f0, s19f5, s19f6, s19f7, s19f20, s19f21, hb22, hb37, hb38, hb66]
               refine nil_z hL70 ?_
               refine seq_reg 2 fun L72 hL72 => ?_
               simp only [qq, seval, -Nat.reducePow, reduceIte, reduceCtorEq, s5t0, s5t5, s5t6, s5t7, hb9, hb13, s19t8, s19t22, s19f0, s19f5, s19f6, s19f7, s19f20, s19f21, hb22, hb37, hb38, hb66]
               refine nil_z hL72 ?_
               refine awp_cond (t := ?t73) ?h73 (fun hb73 => ?a73) (fun hb73 => ?b73)
               case h73 => simp only [qq, seval, -Nat.reducePow, reduceIte, reduceCtorEq, s5t0, s5t5, s5t6, s5t7, hb9, hb13, s19t8, s19t22, s19f0, s19f5, s19f6, s19f7, s19f20, s19f21, hb22, hb37, hb38, hb66]; rfl
               case a73 =>
                have hp73 := hb73
                try simp only [kb] at hp73
                refine awp_exit ?_
                simp only [rk_state, reduceIte, Nat.reduceEqDiff]
                refine hK3 _ ?_
                refine awp_seq_k fun K74 hK74 => ?_
                have hx := group_f (l := l.drop (4 * k)) (by omega) (by assumption)
                have hdn := zr_done (f := 8 - k) (k := k) (n := n) (sc := 8 ^ k) (l := (l.drop (4 * k))) (by omega) (by omega) hnf (by rw [hm8]; omega) (by omega)
                rw [hm8] at hdn
                have hu := unf_or (n := (n + dAt (((l.drop (4 * k)).take 4).drop 1) 3 * 8 ^ k)) (by omega)
                have sm2 : (n + dAt (((l.drop (4 * k)).take 4).drop 1) 3 * 8 ^ k).tmod 2 = (n + dAt (((l.drop (4 * k)).take 4).drop 1) 3 * 8 ^ k) % 2 := Int.tmod_eq_emod_of_nonneg (by omega)
                have sq2 : (n + dAt (((l.drop (4 * k)).take 4).drop 1) 3 * 8 ^ k).tdiv 2 = (n + dAt (((l.drop (4 * k)).take 4).drop 1) 3 * 8 ^ k) / 2 := Int.tdiv_eq_ediv_of_nonneg (by omega)
                have hee : (4 * (k : Int) + 4).toNat = 4 * k + 4 := by omega
                refine seq_reg 1 fun L75 hL75 => ?_
                simp only [qq, seval, -Nat.reducePow, reduceIte, reduceCtorEq, s5t0, s5t5, s5t6, s5t7, hb9, hb13, s19t8, s19t22, s19f0, s19f5, s19f6, s19f7, s19f20, s19f21, hb22, hb37, hb38, hb66, hb73, sm2, sq2]
                refine aops_val (v := ?v76) rfl ?h76 ?_
                case h76 => simp only [qq, seval, -Nat.reducePow, reduceIte, reduceCtorEq, s5t0, s5t5, s5t6, s5t7, hb9, hb13, s19t8, s19t22, s19f0, s19f5, s19f6, s19f7, s19f20, s19f21, hb22, hb37, hb38, hb66, hb73, sm2, sq2]; (rw [y_rem] <;> omega)
                simp only [qq, seval, -Nat.reducePow, reduceIte, reduceCtorEq, s5t0, s5t5, s5t6, s5t7, hb9, hb13, s19t8, s19t22, s19f0, s19f5, s19f6, s19f7, s19f20, s19f21, hb22, hb37, hb38, hb66, hb73, sm2, sq2]
                refine aops_orunN 1 _ _ ?_
                simp only [qq, seval, -Nat.reducePow, reduceIte, reduceCtorEq, s5t0, s5t5, s5t6, s5t7, hb9, hb13, s19t8, s19t22, s19f0, s19f5, s19f6, s19f7, s19f20, s19f21, hb22, hb37, hb38, hb66, hb73, sm2, sq2]
                refine nil_z hL75 ?_
                as_aux_lemma =>
                 refine awp_cond (t := ?t77) ?h77 (fun hb77 => ?a77) (fun hb77 => ?b77)
                 case h77 => simp only [qq, seval, -Nat.reducePow, reduceIte, reduceCtorEq, s5t0, s5t5, s5t6, s5t7, hb9, hb13, s19t8, s19t22, s19f0, s19f5, s19f6, s19f7, s19f20, s19f21, hb22, hb37, hb38, hb66, hb73, sm2, sq2]; rfl
                 case a77 =>
                  have hp77 := hb77
                  try simp only [kb] at hp77
                  refine seq_reg 1 fun L78 hL78 => ?_
                  simp only [qq, seval, -Nat.reducePow, reduceIte, reduceCtorEq, s5t0, s5t5, s5t6, s5t7, hb9, hb13, s19t8, s19t22, s19f0, s19f5, s19f6, s19f7, s19f20, s19f21, hb22, hb37, hb38, hb66, hb73, sm2, sq2, hb77]
                  refine aops_val (v := ?v79) rfl ?h79 ?_
                  case h79 => simp only [qq, seval, -Nat.reducePow, reduceIte, reduceCtorEq, s5t0, s5t5, s5t6, s5t7, hb9, hb13, s19t8, s19t22, s19f0, s19f5, s19f6, s19f7, s19f20, s19f21, hb22, hb37, hb38, hb66, hb73, sm2, sq2, hb77]; (rw [y_quo (by omega), sq2, wr_id] <;> omega)
                  simp only [qq, seval, -Nat.reducePow, reduceIte, reduceCtorEq, s5t0, s5t5, s5t6, s5t7, hb9, hb13, s19t8, s19t22, s19f0, s19f5, s19f6, s19f7, s19f20, s19f21, hb22, hb37, hb38, hb66, hb73, sm2, sq2, hb77]
                  refine aops_orunN 4 _ _ ?_
                  simp only [qq, seval, -Nat.reducePow, reduceIte, reduceCtorEq, s5t0, s5t5, s5t6, s5t7, hb9, hb13, s19t8, s19t22, s19f0, s19f5, s19f6, s19f7, s19f20, s19f21, hb22, hb37, hb38, hb66, hb73, sm2, sq2, hb77]
                  refine nil_z hL78 ?_
                  refine awp_ret ?_
                  try simp only [rk_state]
                  refine ⟨_, 0, by simp only [qq, seval, -Nat.reducePow, reduceIte, reduceCtorEq, resA, Try.results42, s5t0, s5t5, s5t6, s5t7, hb9, hb13, s19t8, s19t22, s19f0, s19f5, s19f6, s19f7, s19f20, s19f21, hb22, hb37, hb38, hb66, hb73, sm2, sq2, hb77]; rfl, ?_, nomem_a, nomem_a⟩
                  simp only [packA]
                  unfold ztakeR; first | (rw [← hq4_2, show 8 - k = 0 from by omega, zr_zero]; (repeat' (first | exact .nil | exact wkR_c | exact wkR_own | exact wkR_nils | refine wkR_int ?_ | refine wkR_bool ?_ | refine wkR_sl ?_ | refine wkR_osl ?_ | refine wkR_nsl ?_ | refine wkR_oo ?_ | refine wkR_no ?_ | refine .cons ?_ ?_ | refine wkR_agg ?_ | refine wkR_tup ?_)) <;> rfl) | (rw [← hq4_2, zr_torn (by omega) (by omega)]; (repeat' (first | exact .nil | exact wkR_c | exact wkR_own | exact wkR_nils | refine wkR_int ?_ | refine wkR_bool ?_ | refine wkR_sl ?_ | refine wkR_osl ?_ | refine wkR_nsl ?_ | refine wkR_oo ?_ | refine wkR_no ?_ | refine .cons ?_ ?_ | refine wkR_agg ?_ | refine wkR_tup ?_)) <;> rfl) | (rw [← hq4_2, zr_form (by omega) (by omega) (by omega) (by omega)]; (repeat' (first | exact .nil | exact wkR_c | exact wkR_own | exact wkR_nils | refine wkR_int ?_ | refine wkR_bool ?_ | refine wkR_sl ?_ | refine wkR_osl ?_ | refine wkR_nsl ?_ | refine wkR_oo ?_ | refine wkR_no ?_ | refine .cons ?_ ?_ | refine wkR_agg ?_ | refine wkR_tup ?_)) <;> rfl) | (rw [← hq4_2, zr_range (by omega) (by omega) hnf (by rw [hm8]; omega)]; (repeat' (first | exact .nil | exact wkR_c | exact wkR_own | exact wkR_nils | refine wkR_int ?_ | refine wkR_bool ?_ | refine wkR_sl ?_ | refine wkR_osl ?_ | refine wkR_nsl ?_ | refine wkR_oo ?_ | refine wkR_no ?_ | refine .cons ?_ ?_ | refine wkR_agg ?_ | refine wkR_tup ?_)) <;> rfl) | (rw [← hq4_2, hdn]; (repeat' (first | exact .nil | exact wkR_c | exact wkR_own | exact wkR_nils | refine wkR_int ?_ | refine wkR_bool ?_ | refine wkR_sl ?_ | refine wkR_osl ?_ | refine wkR_nsl ?_ | refine wkR_oo ?_ | refine wkR_no ?_ | refine .cons ?_ ?_ | refine wkR_agg ?_ | refine wkR_tup ?_)) <;> first | rfl | (dsimp only; omega) | (dsimp only; rw [if_pos rfl, hee, List.drop_drop]))
                 case b77 =>
                  have hp77 := hb77
                  try simp only [kb] at hp77
                  refine awp_skip ?_
                  refine hK74 _ ?_
                  refine seq_reg 1 fun L80 hL80 => ?_
                  simp only [qq, seval, -Nat.reducePow, reduceIte, reduceCtorEq, s5t0, s5t5, s5t6, s5t7, hb9, hb13, s19t8, s19t22, s19f0, s19f5, s19f6, s19f7, s19f20, s19f21, hb22, hb37, hb38, hb66, hb73, sm2, sq2, hb77]
                  refine aops_val (v := ?v81) rfl ?h81 ?_
                  case h81 => simp only [qq, seval, -Nat.reducePow, reduceIte, reduceCtorEq, s5t0, s5t5, s5t6, s5t7, hb9, hb13, s19t8, s19t22, s19f0, s19f5, s19f6, s19f7, s19f20, s19f21, hb22, hb37, hb38, hb66, hb73, sm2, sq2, hb77]; (rw [y_quo (by omega), sq2, wr_id] <;> omega)
                  simp only [qq, seval, -Nat.reducePow, reduceIte, reduceCtorEq, s5t0, s5t5, s5t6, s5t7, hb9, hb13, s19t8, s19t22, s19f0, s19f5, s19f6, s19f7, s19f20, s19f21, hb22, hb37, hb38, hb66, hb73, sm2, sq2, hb77]
                  refine aops_val (v := ?v82) rfl ?h82 ?_
                  case h82 => simp only [qq, seval, -Nat.reducePow, reduceIte, reduceCtorEq, s5t0, s5t5, s5t6, s5t7, hb9, hb13, s19t8, s19t22, s19f0, s19f5, s19f6, s19f7, s19f20, s19f21, hb22, hb37, hb38, hb66, hb73, sm2, sq2, hb77]; first | (rw [wr_id] <;> omega) | rfl
                  simp only [qq, seval, -Nat.reducePow, reduceIte, reduceCtorEq, s5t0, s5t5, s5t6, s5t7, hb9, hb13, s19t8, s19t22, s19f0, s19f5, s19f6, s19f7, s19f20, s19f21, hb22, hb37, hb38, hb66, hb73, sm2, sq2, hb77]
                  refine aops_val (v := ?v83) rfl ?h83 ?_
                  case h83 => simp only [qq, seval, -Nat.reducePow, reduceIte, reduceCtorEq, s5t0, s5t5, s5t6, s5t7, hb9, hb13, s19t8, s19t22, s19f0, s19f5, s19f6, s19f7, s19f20, s19f21, hb22, hb37, hb38, hb66, hb73, sm2, sq2, hb77]; first | (rw [wr_id] <;> omega) | rfl
                  simp only [qq, seval, -Nat.reducePow, reduceIte, reduceCtorEq, s5t0, s5t5, s5t6, s5t7, hb9, hb13, s19t8, s19t22, s19f0, s19f5, s19f6, s19f7, s19f20, s19f21, hb22, hb37, hb38, hb66, hb73, sm2, sq2, hb77]
                  refine aops_orunN 4 _ _ ?_
                  simp only [qq, seval, -Nat.reducePow, reduceIte, reduceCtorEq, s5t0, s5t5, s5t6, s5t7, hb9, hb13, s19t8, s19t22, s19f0, s19f5, s19f6, s19f7, s19f20, s19f21, hb22, hb37, hb38, hb66, hb73, sm2, sq2, hb77]
                  refine nil_z hL80 ?_
                  refine awp_ret ?_
                  try simp only [rk_state]
                  refine ⟨_, 0, by simp only [qq, seval, -Nat.reducePow, reduceIte, reduceCtorEq, resA, Try.results42, s5t0, s5t5, s5t6, s5t7, hb9, hb13, s19t8, s19t22, s19f0, s19f5, s19f6, s19f7, s19f20, s19f21, hb22, hb37, hb38, hb66, hb73, sm2, sq2, hb77]; rfl, ?_, nomem_a, nomem_a⟩
                  simp only [packA]
                  unfold ztakeR; first | (rw [← hq4_2, show 8 - k = 0 from by omega, zr_zero]; (repeat' (first | exact .nil | exact wkR_c | exact wkR_own | exact wkR_nils | refine wkR_int ?_ | refine wkR_bool ?_ | refine wkR_sl ?_ | refine wkR_osl ?_ | refine wkR_nsl ?_ | refine wkR_oo ?_ | refine wkR_no ?_ | refine .cons ?_ ?_ | refine wkR_agg ?_ | refine wkR_tup ?_)) <;> rfl) | (rw [← hq4_2, zr_torn (by omega) (by omega)]; (repeat' (first | exact .nil | exact wkR_c | exact wkR_own | exact wkR_nils | refine wkR_int ?_ | refine wkR_bool ?_ | refine wkR_sl ?_ | refine wkR_osl ?_ | refine wkR_nsl ?_ | refine wkR_oo ?_ | refine wkR_no ?_ | refine .cons ?_ ?_ | refine wkR_agg ?_ | refine wkR_tup ?_)) <;> rfl) | (rw [← hq4_2, zr_form (by omega) (by omega) (by omega) (by omega)]; (repeat' (first | exact .nil | exact wkR_c | exact wkR_own | exact wkR_nils | refine wkR_int ?_ | refine wkR_bool ?_ | refine wkR_sl ?_ | refine wkR_osl ?_ | refine wkR_nsl ?_ | refine wkR_oo ?_ | refine wkR_no ?_ | refine .cons ?_ ?_ | refine wkR_agg ?_ | refine wkR_tup ?_)) <;> rfl) | (rw [← hq4_2, zr_range (by omega) (by omega) hnf (by rw [hm8]; omega)]; (repeat' (first | exact .nil | exact wkR_c | exact wkR_own | exact wkR_nils | refine wkR_int ?_ | refine wkR_bool ?_ | refine wkR_sl ?_ | refine wkR_osl ?_ | refine wkR_nsl ?_ | refine wkR_oo ?_ | refine wkR_no ?_ | refine .cons ?_ ?_ | refine wkR_agg ?_ | refine wkR_tup ?_)) <;> rfl) | (rw [← hq4_2, hdn]; (repeat' (first | exact .nil | exact wkR_c | exact wkR_own | exact wkR_nils | refine wkR_int ?_ | refine wkR_bool ?_ | refine wkR_sl ?_ | refine wkR_osl ?_ | refine wkR_nsl ?_ | refine wkR_oo ?_ | refine wkR_no ?_ | refine .cons ?_ ?_ | refine wkR_agg ?_ | refine wkR_tup ?_)) <;> first | rfl | (dsimp only; omega) | (dsimp only; rw [if_pos rfl, hee, List.drop_drop]))
               case b73 =>
                have hp73 := hb73
                try simp only [kb] at hp73
                refine awp_skip ?_
                try simp only [rk_state]
                refine hK6 _ ?_
                refine reg 1 fun L84 hL84 => ?_
                simp only [qq, seval, -Nat.reducePow, reduceIte, reduceCtorEq, s5t0, s5t5, s5t6, s5t7, hb9, hb13, s19t8, s19t22, s19f0, s19f5, s19f6, s19f7, s19f20, s19f21, hb22, hb37, hb38, hb66, hb73]
                refine aops_val (v := ?v85) rfl ?h85 ?_
                case h85 => simp only [qq, seval, -Nat.reducePow, reduceIte, reduceCtorEq, s5t0, s5t5, s5t6, s5t7, hb9, hb13, s19t8, s19t22, s19f0, s19f5, s19f6, s19f7, s19f20, s19f21, hb22, hb37, hb38, hb66, hb73]; first | (rw [wr_id] <;> omega) | rfl
                simp only [qq, seval, -Nat.reducePow, reduceIte, reduceCtorEq, s5t0, s5t5, s5t6, s5t7, hb9, hb13, s19t8, s19t22, s19f0, s19f5, s19f6, s19f7, s19f20, s19f21, hb22, hb37, hb38, hb66, hb73]
                refine aops_orunN 1 _ _ ?_
                simp only [qq, seval, -Nat.reducePow, reduceIte, reduceCtorEq, s5t0, s5t5, s5t6, s5t7, hb9, hb13, s19t8, s19t22, s19f0, s19f5, s19f6, s19f7, s19f20, s19f21, hb22, hb37, hb38, hb66, hb73]
                refine nil_q hL84 ?_
                try simp only [rk_state]
                have hx := group_t (l := l.drop (4 * k)) (by omega) (by assumption)
                have hnx := zr_next (f := 8 - k) (k := k) (n := n) (sc := 8 ^ k) (l := (l.drop (4 * k))) (by omega) (by omega) hnf (by rw [hm8]; omega) (by omega)
                rw [List.drop_drop, hm8, show 4 * k + 4 = 4 * (k + 1) from by omega, show 8 - k - 1 = 8 - (k + 1) from by omega] at hnx
                refine hK5 _ ((fun (k : Nat) (n : Int) => 9 - k) (k + 1) ((n + dAt (((l.drop (4 * k)).take 4).drop 1) 3 * 8 ^ k))) ?_ ⟨k + 1, (n + dAt (((l.drop (4 * k)).take 4).drop 1) 3 * 8 ^ k), rfl, ?_, ?_, ?_, ?_, ?_, ?_, ?_⟩
                · (try simp only []); omega
                · omega
                · omega
                · (rw [Int.pow_succ, ← hnx]; exact hq4_2)
                · (try simp only [qq, seval, -Nat.reducePow, reduceIte, reduceCtorEq, s5t0, s5t5, s5t6, s5t7, hb9, hb13, s19t8, s19t22, s19f0, s19f5, s19f6, s19f7, s19f20, s19f21, hb22, hb37, hb38, hb66, hb73])
                  all_goals (rw [List.drop_drop]; rfl)
                · (try simp only [qq, seval, -Nat.reducePow, reduceIte, reduceCtorEq, s5t0, s5t5, s5t6, s5t7, hb9, hb13, s19t8, s19t22, s19f0, s19f5, s19f6, s19f7, s19f20, s19f21, hb22, hb37, hb38, hb66, hb73])
                  all_goals (first | done | rfl | (simp only [AV.c.injEq, C.int.injEq, List.cons.injEq, and_true, true_and]; omega))
                · (try simp only [qq, seval, -Nat.reducePow, reduceIte, reduceCtorEq, s5t0, s5t5, s5t6, s5t7, hb9, hb13, s19t8, s19t22, s19f0, s19f5, s19f6, s19f7, s19f20, s19f21, hb22, hb37, hb38, hb66, hb73])
                  all_goals (rw [Int.pow_succ])
                · (try simp only [qq, seval, -Nat.reducePow, reduceIte, reduceCtorEq, s5t0, s5t5, s5t6, s5t7, hb9, hb13, s19t8, s19t22, s19f0, s19f5, s19f6, s19f7, s19f20, s19f21, hb22, hb37, hb38, hb66, hb73])
                  all_goals (first | done | rfl | (simp only [AV.c.injEq, C.int.injEq, List.cons.injEq, and_true, true_and]; omega))
          case b37 =>
           have hp37 := hb37
           try simp only [kb] at hp37
           try simp only [hb37]
           refine aops_orunN 9 _ _ ?_
           simp only [qq, seval, -Nat.reducePow, reduceIte, reduceCtorEq, s5t0, s5t5, s5t6, s5t7, hb9, hb13, s19t8, s19t22, s19f0, s19f5, s19f6, s19f7, s19f20, s19f21, hb22, hb37]
           refine nil_z hL36 ?_
           as_aux_lemma =>
            refine awp_cond (t := false) (by simp only [qq, seval, -Nat.reducePow, reduceIte, reduceCtorEq, s5t0, s5t5, s5t6, s5t7, hb9, hb13, s19t8, s19t22, s19f0, s19f5, s19f6, s19f7, s19f20, s19f21, hb22, hb37]) (fun h => ?_) (fun _ => ?_)
            case refine_1 => cases h
            refine awp_skip ?_
            refine hK35 _ ?_
            have hnf : ¬ ((readR (l.drop (4 * k)) 4).1 = 0 ∧ 0 < k) := by first | omega | (have h9 := group_t (l := l.drop (4 * k)) (by omega) (by assumption); omega)
            refine seq_reg 3 fun L86 hL86 => ?_
            simp only [qq, seval, -Nat.reducePow, reduceIte, reduceCtorEq, s5t0, s5t5, s5t6, s5t7, hb9, hb13, s19t8, s19t22, s19f0, s19f5, s19f6, s19f7, s19f20, s19f21, hb22, hb37]
            refine aops_val (v := ?v87) rfl ?h87 ?_
            case h87 => simp only [qq, seval, -Nat.reducePow, reduceIte, reduceCtorEq, s5t0, s5t5, s5t6, s5t7, hb9, hb13, s19t8, s19t22, s19f0, s19f5, s19f6, s19f7, s19f20, s19f21, hb22, hb37]; first | (rw [wr_id] <;> omega) | rfl
            simp only [qq, seval, -Nat.reducePow, reduceIte, reduceCtorEq, s5t0, s5t5, s5t6, s5t7, hb9, hb13, s19t8, s19t22, s19f0, s19f5, s19f6, s19f7, s19f20, s19f21, hb22, hb37]
            refine aops_val (v := ?v88) rfl ?h88 ?_
            case h88 => simp only [qq, seval, -Nat.reducePow, reduceIte, reduceCtorEq, s5t0, s5t5, s5t6, s5t7, hb9, hb13, s19t8, s19t22, s19f0, s19f5, s19f6, s19f7, s19f20, s19f21, hb22, hb37]; first | (rw [wr_id] <;> omega) | rfl
            simp only [qq, seval, -Nat.reducePow, reduceIte, reduceCtorEq, s5t0, s5t5, s5t6, s5t7, hb9, hb13, s19t8, s19t22, s19f0, s19f5, s19f6, s19f7, s19f20, s19f21, hb22, hb37]
            refine aops_orunN 1 _ _ ?_
            simp only [qq, seval, -Nat.reducePow, reduceIte, reduceCtorEq, s5t0, s5t5, s5t6, s5t7, hb9, hb13, s19t8, s19t22, s19f0, s19f5, s19f6, s19f7, s19f20, s19f21, hb22, hb37]
            refine nil_z hL86 ?_
            refine seq_reg 1 fun L89 hL89 => ?_
            simp only [qq, seval, -Nat.reducePow, reduceIte, reduceCtorEq, s5t0, s5t5, s5t6, s5t7, hb9, hb13, s19t8, s19t22, s19f0, s19f5, s19f6, s19f7, s19f20, s19f21, hb22, hb37]
            refine aops_val (v := ?v90) rfl ?h90 ?_
            case h90 => simp only [qq, seval, -Nat.reducePow, reduceIte, reduceCtorEq, s5t0, s5t5, s5t6, s5t7, hb9, hb13, s19t8, s19t22, s19f0, s19f5, s19f6, s19f7, s19f20, s19f21, hb22, hb37]; first | (rw [wr_id] <;> omega) | rfl
            simp only [qq, seval, -Nat.reducePow, reduceIte, reduceCtorEq, s5t0, s5t5, s5t6, s5t7, hb9, hb13, s19t8, s19t22, s19f0, s19f5, s19f6, s19f7, s19f20, s19f21, hb22, hb37]
            refine aops_orunN 1 _ _ ?_
            simp only [qq, seval, -Nat.reducePow, reduceIte, reduceCtorEq, s5t0, s5t5, s5t6, s5t7, hb9, hb13, s19t8, s19t22, s19f0, s19f5, s19f6, s19f7, s19f20, s19f21, hb22, hb37]
            refine nil_z hL89 ?_
            refine awp_seq_k fun K91 hK91 => ?_
            refine seq_reg 2 fun L92 hL92 => ?_
            simp only [qq, seval, -Nat.reducePow, reduceIte, reduceCtorEq, s5t0, s5t5, s5t6, s5t7, hb9, hb13, s19t8, s19t22, s19f0, s19f5, s19f6, s19f7, s19f20, s19f21, hb22, hb37]
            refine nil_z hL92 ?_
            as_aux_lemma =>
             refine awp_cond (t := ?t93) ?h93 (fun hb93 => ?a93) (fun hb93 => ?b93)
             case h93 => simp only [qq, seval, -Nat.reducePow, reduceIte, reduceCtorEq, s5t0, s5t5, s5t6, s5t7, hb9, hb13, s19t8, s19t22, s19f0, s19f5, s19f6, s19f7, s19f20, s19f21, hb22, hb37]; rfl
             case a93 =>
              have hp93 := hb93
              try simp only [kb] at hp93
              refine seq_reg 3 fun L94 hL94 => ?_
              simp only [qq, seval, -Nat.reducePow, reduceIte, reduceCtorEq, s5t0, s5t5, s5t6, s5t7, hb9, hb13, s19t8, s19t22, s19f0, s19f5, s19f6, s19f7, s19f20, s19f21, hb22, hb37, hb93]
              refine nil_z hL94 ?_
              refine awp_ret ?_
              try simp only [rk_state]
              refine ⟨_, 0, by simp only [qq, seval, -Nat.reducePow, reduceIte, reduceCtorEq, resA, Try.results42, s5t0, s5t5, s5t6, s5t7, hb9, hb13, s19t8, s19t22, s19f0, s19f5, s19f6, s19f7, s19f20, s19f21, hb22, hb37, hb93]; rfl, ?_, nomem_a, nomem_a⟩
              simp only [packA]
              unfold ztakeR; first | (rw [← hq4_2, show 8 - k = 0 from by omega, zr_zero]; (repeat' (first | exact .nil | exact wkR_c | exact wkR_own | exact wkR_nils | refine wkR_int ?_ | refine wkR_bool ?_ | refine wkR_sl ?_ | refine wkR_osl ?_ | refine wkR_nsl ?_ | refine wkR_oo ?_ | refine wkR_no ?_ | refine .cons ?_ ?_ | refine wkR_agg ?_ | refine wkR_tup ?_)) <;> rfl) | (rw [← hq4_2, zr_torn (by omega) (by omega)]; (repeat' (first | exact .nil | exact wkR_c | exact wkR_own | exact wkR_nils | refine wkR_int ?_ | refine wkR_bool ?_ | refine wkR_sl ?_ | refine wkR_osl ?_ | refine wkR_nsl ?_ | refine wkR_oo ?_ | refine wkR_no ?_ | refine .cons ?_ ?_ | refine wkR_agg ?_ | refine wkR_tup ?_)) <;> rfl) | (rw [← hq4_2, zr_form (by omega) (by omega) (by omega) (by omega)]; (repeat' (first | exact .nil | exact wkR_c | exact wkR_own | exact wkR_nils | refine wkR_int ?_ | refine wkR_bool ?_ | refine wkR_sl ?_ | refine wkR_osl ?_ | refine wkR_nsl ?_ | refine wkR_oo ?_ | refine wkR_no ?_ | refine .cons ?_ ?_ | refine wkR_agg ?_ | refine wkR_tup ?_)) <;> rfl) | (rw [← hq4_2, zr_range (by omega) (by omega) hnf (by rw [hm8]; omega)]; (repeat' (first | exact .nil | exact wkR_c | exact wkR_own | exact wkR_nils | refine wkR_int ?_ | refine wkR_bool ?_ | refine wkR_sl ?_ | refine wkR_osl ?_ | refine wkR_nsl ?_ | refine wkR_oo ?_ | refine wkR_no ?_ | refine .cons ?_ ?_ | refine wkR_agg ?_ | refine wkR_tup ?_)) <;> rfl) | (rw [← hq4_2, hdn]; (repeat' (first | exact .nil | exact wkR_c | exact wkR_own | exact wkR_nils | refine wkR_int ?_ | refine wkR_bool ?_ | refine wkR_sl ?_ | refine wkR_osl ?_ | refine wkR_nsl ?_ | refine wkR_oo ?_ | refine wkR_no ?_ | refine .cons ?_ ?_ | refine wkR_agg ?_ | refine wkR_tup ?_)) <;> first | rfl | (dsimp only; omega) | (dsimp only; rw [if_pos rfl, hee, List.drop_drop]))
             case b93 =>
              have hp93 := hb93
              try simp only [kb] at hp93
              refine awp_skip ?_
              refine hK91 _ ?_
              refine seq_reg 1 fun L95 hL95 => ?_
              simp only [qq, seval, -Nat.reducePow, reduceIte, reduceCtorEq, s5t0, s5t5, s5t6, s5t7, hb9, hb13, s19t8, s19t22, s19f0, s19f5, s19f6, s19f7, s19f20, s19f21, hb22, hb37, hb93]
              refine aops_val (v := ?v96) rfl ?h96 ?_
              case h96 => simp only [qq, seval, -Nat.reducePow, reduceIte, reduceCtorEq, s5t0, s5t5, s5t6, s5t7, hb9, hb13, s19t8, s19t22, s19f0, s19f5, s19f6, s19f7, s19f20, s19f21, hb22, hb37, hb93]; first | (rw [idx_c un36 if4] <;> omega) | (rw [idx_o un36 if4] <;> omega) | (rw [idx_a un36 if4] <;> omega)
              simp only [qq, seval, -Nat.reducePow, reduceIte, reduceCtorEq, s5t0, s5t5, s5t6, s5t7, hb9, hb13, s19t8, s19t22, s19f0, s19f5, s19f6, s19f7, s19f20, s19f21, hb22, hb37, hb93]
              refine aops_orunN 2 _ _ ?_
              simp only [qq, seval, -Nat.reducePow, reduceIte, reduceCtorEq, s5t0, s5t5, s5t6, s5t7, hb9, hb13, s19t8, s19t22, s19f0, s19f5, s19f6, s19f7, s19f20, s19f21, hb22, hb37, hb93]
              refine nil_z hL95 ?_
              refine seq_reg 1 fun L97 hL97 => ?_
              simp only [qq, seval, -Nat.reducePow, reduceIte, reduceCtorEq, s5t0, s5t5, s5t6, s5t7, hb9, hb13, s19t8, s19t22, s19f0, s19f5, s19f6, s19f7, s19f20, s19f21, hb22, hb37, hb93]
              refine aops_val (v := ?v98) rfl ?h98 ?_
              case h98 => simp only [qq, seval, -Nat.reducePow, reduceIte, reduceCtorEq, s5t0, s5t5, s5t6, s5t7, hb9, hb13, s19t8, s19t22, s19f0, s19f5, s19f6, s19f7, s19f20, s19f21, hb22, hb37, hb93]; first | (rw [slc_l un36 if4] <;> omega) | (rw [slc_lo un36 if4] <;> omega)
              simp only [qq, seval, -Nat.reducePow, reduceIte, reduceCtorEq, s5t0, s5t5, s5t6, s5t7, hb9, hb13, s19t8, s19t22, s19f0, s19f5, s19f6, s19f7, s19f20, s19f21, hb22, hb37, hb93]
              refine aops_orunN 1 _ _ ?_
              simp only [qq, seval, -Nat.reducePow, reduceIte, reduceCtorEq, s5t0, s5t5, s5t6, s5t7, hb9, hb13, s19t8, s19t22, s19f0, s19f5, s19f6, s19f7, s19f20, s19f21, hb22, hb37, hb93]
              refine nil_z hL97 ?_
              as_aux_lemma =>
               refine seq_reg 2 fun L99 hL99 => ?_
               simp only [qq, seval, -Nat.reducePow, reduceIte, reduceCtorEq, s5t0, s5t5, s5t6, s5t7, hb9, hb13, s19t8, s19t22, s19f0, s19f5, s19f6, s19f7, s19f20, s19f21, hb22, hb37, hb93]
               refine nil_z hL99 ?_
               refine awp_cond (t := ?t100) ?h100 (fun hb100 => ?a100) (fun hb100 => ?b100)
               case h100 => simp only [qq, seval, -Nat.reducePow, reduceIte, reduceCtorEq, s5t0, s5t5, s5t6, s5t7, hb9, hb13, s19t8, s19t22, s19f0, s19f5, s19f6, s19f7, s19f20, s19f21, hb22, hb37, hb93]; rfl
               case a100 =>
                have hp100 := hb100
                try simp only [kb] at hp100
                refine awp_exit ?_
                simp only [rk_state, reduceIte, Nat.reduceEqDiff]
                refine hK3 _ ?_
                refine awp_seq_k fun K101 hK101 => ?_
                have hx := group_f (l := l.drop (4 * k)) (by omega) (by assumption)
                have hdn := zr_done (f := 8 - k) (k := k) (n := n) (sc := 8 ^ k) (l := (l.drop (4 * k))) (by omega) (by omega) hnf (by rw [hm8]; omega) (by omega)
                rw [hm8] at hdn
                have hu := unf_or (n := (n + dAt (((l.drop (4 * k)).take 4).drop 1) 3 * 8 ^ k)) (by omega)
                have sm2 : (n + dAt (((l.drop (4 * k)).take 4).drop 1) 3 * 8 ^ k).tmod 2 = (n + dAt (((l.drop (4 * k)).take 4).drop 1) 3 * 8 ^ k) % 2 := Int.tmod_eq_emod_of_nonneg (by omega)
                have sq2 : (n + dAt (((l.drop (4 * k)).take 4).drop 1) 3 * 8 ^ k).tdiv 2 = (n + dAt (((l.drop (4 * k)).take 4).drop 1) 3 * 8 ^ k) / 2 := Int.tdiv_eq_ediv_of_nonneg (by omega)
                have hee : (4 * (k : Int) + 4).toNat = 4 * k + 4 := by omega
                refine seq_reg 1 fun L102 hL102 => ?_
                simp only [qq, seval, -Nat.reducePow, reduceIte, reduceCtorEq, s5t0, s5t5, s5t6, s5t7, hb9, hb13, s19t8, s19t22, s19f0, s19f5, s19f6, s19f7, s19f20, s19f21, hb22, hb37, hb93, hb100, sm2, sq2]
                refine aops_val (v := ?v103) rfl ?h103 ?_
                case h103 => simp only [qq, seval, -Nat.reducePow, reduceIte, reduceCtorEq, s5t0, s5t5, s5t6, s5t7, hb9, hb13, s19t8, s19t22, s19f0, s19f5, s19f6, s19f7, s19f20, s19f21, hb22, hb37, hb93, hb100, sm2, sq2]; (rw [y_rem] <;> omega)
                simp only [qq, seval, -Nat.reducePow, reduceIte, reduceCtorEq, s5t0, s5t5, s5t6, s5t7, hb9, hb13, s19t8, s19t22, s19f0, s19f5, s19f6, s19f7, s19f20, s19f21, hb22, hb37, hb93, hb100, sm2, sq2]
                refine aops_orunN 1 _ _ ?_
                simp only [qq, seval, -Nat.reducePow, reduceIte, reduceCtorEq, s5t0, s5t5, s5t6, s5t7, hb9, hb13, s19t8, s19t22, s19f0, s19f5, s19f6, s19f7, s19f20, s19f21, hb22, hb37, hb93, hb100, sm2, sq2]
                refine nil_z hL102 ?_
                refine awp_cond (t := ?t104) ?h104 (fun hb104 => ?a104) (fun hb104 => ?b104)
                case h104 => simp only [qq, seval, -Nat.reducePow, reduceIte, reduceCtorEq, s5t0, s5t5, s5t6, s5t7, hb9, hb13, s19t8, s19t22, s19f0, s19f5, s19f6, s19f7, s19f20, s19f21, hb22, hb37, hb93, hb100, sm2, sq2]; rfl
                case a104 =>
                 have hp104 := hb104
                 try simp only [kb] at hp104
                 refine seq_reg 1 fun L105 hL105 => ?_
                 simp only [qq, seval, -Nat.reducePow, reduceIte, reduceCtorEq, s5t0, s5t5, s5t6, s5t7, hb9, hb13, s19t8, s19t22, s19f0, s19f5, s19f6, s19f7, s19f20, s19f21, hb22, hb37, hb93, hb100, sm2, sq2, hb104]
                 refine aops_val (v := ?v106) rfl ?h106 ?_
                 case h106 => simp only [qq, seval, -Nat.reducePow, reduceIte, reduceCtorEq, s5t0, s5t5, s5t6, s5t7, hb9, hb13, s19t8, s19t22, s19f0, s19f5, s19f6, s19f7, s19f20, s19f21, hb22, hb37, hb93, hb100, sm2, sq2, hb104]; (rw [y_quo (by omega), sq2, wr_id] <;> omega)
                 simp only [qq, seval, -Nat.reducePow, reduceIte, reduceCtorEq, s5t0, s5t5, s5t6, s5t7, hb9, hb13, s19t8, s19t22, s19f0, s19f5, s19f6, s19f7, s19f20, s19f21, hb22, hb37, hb93, hb100, sm2, sq2, hb104]
                 refine aops_orunN 4 _ _ ?_
                 simp only [qq, seval, -Nat.reducePow, reduceIte, reduceCtorEq, s5t0, s5t5, s5t6, s5t7, hb9, hb13, s19t8, s19t22, s19f0, s19f5, s19f6, s19f7, s19f20, s19f21, hb22, hb37, hb93, hb100, sm2, sq2, hb104]
                 refine nil_z hL105 ?_
                 as_aux_lemma =>
                  refine awp_ret ?_
                  try simp only [rk_state]
                  refine ⟨_, 0, by simp only [qq, seval, -Nat.reducePow, reduceIte, reduceCtorEq, resA, Try.results42, s5t0, s5t5, s5t6, s5t7, hb9, hb13, s19t8, s19t22, s19f0, s19f5, s19f6, s19f7, s19f20, s19f21, hb22, hb37, hb93, hb100, sm2, sq2, hb104]; rfl, ?_, nomem_a, nomem_a⟩
                  simp only [packA]
                  unfold ztakeR; first | (rw [← hq4_2, show 8 - k = 0 from by omega, zr_zero]; (repeat' (first | exact .nil | exact wkR_c | exact wkR_own | exact wkR_nils | refine wkR_int ?_ | refine wkR_bool ?_ | refine wkR_sl ?_ | refine wkR_osl ?_ | refine wkR_nsl ?_ | refine wkR_oo ?_ | refine wkR_no ?_ | refine .cons ?_ ?_ | refine wkR_agg ?_ | refine wkR_tup ?_)) <;> rfl) | (rw [← hq4_2, zr_torn (by omega) (by omega)]; (repeat' (first | exact .nil | exact wkR_c | exact wkR_own | exact wkR_nils | refine wkR_int ?_ | refine wkR_bool ?_ | refine wkR_sl ?_ | refine wkR_osl ?_ | refine wkR_nsl ?_ | refine wkR_oo ?_ | refine wkR_no ?_ | refine .cons ?_ ?_ | refine wkR_agg ?_ | refine wkR_tup ?_)) <;> rfl) | (rw [← hq4_2, zr_form (by omega) (by omega) (by omega) (by omega)]; (repeat' (first | exact .nil | exact wkR_c | exact wkR_own | exact wkR_nils | refine wkR_int ?_ | refine wkR_bool ?_ | refine wkR_sl ?_ | refine wkR_osl ?_ | refine wkR_nsl ?_ | refine wkR_oo ?_ | refine wkR_no ?_ | refine .cons ?_ ?_ | refine wkR_agg ?_ | refine wkR_tup ?_)) <;> rfl) | (rw [← hq4_2, zr_range (by omega) (by omega) hnf (by rw [hm8]; omega)]; (repeat' (first | exact .nil | exact wkR_c | exact wkR_own | exact wkR_nils | refine wkR_int ?_ | refine wkR_bool ?_ | refine wkR_sl ?_ | refine wkR_osl ?_ | refine wkR_nsl ?_ | refine wkR_oo ?_ | refine wkR_no ?_ | refine .cons ?_ ?_ | refine wkR_agg ?_ | refine wkR_tup ?_)) <;> rfl) | (rw [← hq4_2, hdn]; (repeat' (first | exact .nil | exact wkR_c | exact wkR_own | exact wkR_nils | refine wkR_int ?_ | refine wkR_bool ?_ | refine wkR_sl ?_ | refine wkR_osl ?_ | refine wkR_nsl ?_ | refine wkR_oo ?_ | refine wkR_no ?_ | refine .cons ?_ ?_ | refine wkR_agg ?_ | refine wkR_tup ?_)) <;> first | rfl | (dsimp only; omega) | (dsimp only; rw [if_pos rfl, hee, List.drop_drop]))
                case b104 =>
                 have hp104 := hb104
                 try simp only [kb] at hp104
                 refine awp_skip ?_
                 refine hK101 _ ?_
                 refine seq_reg 1 fun L107 hL107 => ?_
                 simp only [qq, seval, -Nat.reducePow, reduceIte, reduceCtorEq, s5t0, s5t5, s5t6, s5t7, hb9, hb13, s19t8, s19t22, s19f0, s19f5, s19f6, s19f7, s19f20, s19f21, hb22, hb37, hb93, hb100, sm2, sq2, hb104]
                 refine aops_val (v := ?v108) rfl ?h108 ?_
                 case h108 => simp only [qq, seval, -Nat.reducePow, reduceIte, reduceCtorEq, s5t0, s5t5, s5t6, s5t7, hb9, hb13, s19t8, s19t22, s19f0, s19f5, s19f6, s19f7, s19f20, s19f21, hb22, hb37, hb93, hb100, sm2, sq2, hb104]; (rw [y_quo (by omega), sq2, wr_id] <;> omega)
                 simp only [qq, seval, -Nat.reducePow, reduceIte, reduceCtorEq, s5t0, s5t5, s5t6, s5t7, hb9, hb13, s19t8, s19t22, s19f0, s19f5, s19f6, s19f7, s19f20, s19f21, hb22, hb37, hb93, hb100, sm2, sq2, hb104]
                 refine aops_val (v := ?v109) rfl ?h109 ?_
                 case h109 => simp only [qq, seval, -Nat.reducePow, reduceIte, reduceCtorEq, s5t0, s5t5, s5t6, s5t7, hb9, hb13, s19t8, s19t22, s19f0, s19f5, s19f6, s19f7, s19f20, s19f21, hb22, hb37, hb93, hb100, sm2, sq2, hb104]; first | (rw [wr_id] <;> omega) | rfl
                 simp only [qq, seval, -Nat.reducePow, reduceIte, reduceCtorEq, s5t0, s5t5, s5t6, s5t7, hb9, hb13, s19t8, s19t22, s19f0, s19f5, s19f6, s19f7, s19f20, s19f21, hb22, hb37, hb93, hb100, sm2, sq2, hb104]
                 refine aops_val (v := ?v110) rfl ?h110 ?_
                 case h110 => simp only [qq, seval, -Nat.reducePow, reduceIte, reduceCtorEq, s5t0, s5t5, s5t6, s5t7, hb9, hb13, s19t8, s19t22, s19f0, s19f5, s19f6, s19f7, s19f20, s19f21, hb22, hb37, hb93, hb100, sm2, sq2, hb104]; first | (rw [wr_id] <;> omega) | rfl
                 simp only [qq, seval, -Nat.reducePow, reduceIte, reduceCtorEq, s5t0, s5t5, s5t6, s5t7, hb9, hb13, s19t8, s19t22, s19f0, s19f5, s19f6, s19f7, s19f20, s19f21, hb22, hb37, hb93, hb100, sm2, sq2, hb104]
                 refine aops_orunN 4 _ _ ?_
                 simp only [qq, seval, -Nat.reducePow, reduceIte, reduceCtorEq, s5t0, s5t5, s5t6, s5t7, hb9, hb13, s19t8, s19t22, s19f0, s19f5, s19f6, s19f7, s19f20, s19f21, hb22, hb37, hb93, hb100, sm2, sq2, hb104]
                 refine nil_z hL107 ?_
                 refine awp_ret ?_
                 try simp only [rk_state]
                 refine ⟨_, 0, by simp only [qq, seval, -Nat.reducePow, reduceIte, reduceCtorEq, resA, Try.results42, s5t0, s5t5, s5t6, s5t7, hb9, hb13, s19t8, s19t22, s19f0, s19f5, s19f6, s19f7, s19f20, s19f21, hb22, hb37, hb93, hb100, sm2, sq2, hb104]; rfl, ?_, nomem_a, nomem_a⟩
                 simp only [packA]
                 unfold ztakeR; first | (rw [← hq4_2, show 8 - k = 0 from by omega, zr_zero]; (repeat' (first | exact .nil | exact wkR_c | exact wkR_own | exact wkR_nils | refine wkR_int ?_ | refine wkR_bool ?_ | refine wkR_sl ?_ | refine wkR_osl ?_ | refine wkR_nsl ?_ | refine wkR_oo ?_ | refine wkR_no ?_ | refine .cons ?_ ?_ | refine wkR_agg ?_ | refine wkR_tup ?_)) <;> rfl) | (rw [← hq4_2, zr_torn (by omega) (by omega)]; (repeat' (first | exact .nil | exact wkR_c | exact wkR_own | exact wkR_nils | refine wkR_int ?_ | refine wkR_bool ?_ | refine wkR_sl ?_ | refine wkR_osl ?_ | refine wkR_nsl ?_ | refine wkR_oo ?_ | refine wkR_no ?_ | refine .cons ?_ ?_ | refine wkR_agg ?_ | refine wkR_tup ?_)) <;> rfl) | (rw [← hq4_2, zr_form (by omega) (by omega) (by omega) (by omega)]; (repeat' (first | exact .nil | exact wkR_c | exact wkR_own | exact wkR_nils | refine wkR_int ?_ | refine wkR_bool ?_ | refine wkR_sl ?_ | refine wkR_osl ?_ | refine wkR_nsl ?_ | refine wkR_oo ?_ | refine wkR_no ?_ | refine .cons ?_ ?_ | refine wkR_agg ?_ | refine wkR_tup ?_)) <;> rfl) | (rw [← hq4_2, zr_range (by omega) (by omega) hnf (by rw [hm8]; omega)]; (repeat' (first | exact .nil | exact wkR_c | exact wkR_own | exact wkR_nils | refine wkR_int ?_ | refine wkR_bool ?_ | refine wkR_sl ?_ | refine wkR_osl ?_ | refine wkR_nsl ?_ | refine wkR_oo ?_ | refine wkR_no ?_ | refine .cons ?_ ?_ | refine wkR_agg ?_ | refine wkR_tup ?_)) <;> rfl) | (rw [← hq4_2, hdn]; (repeat' (first | exact .nil | exact wkR_c | exact wkR_own | exact wkR_nils | refine wkR_int ?_ | refine wkR_bool ?_ | refine wkR_sl ?_ | refine wkR_osl ?_ | refine wkR_nsl ?_ | refine wkR_oo ?_ | refine wkR_no ?_ | refine .cons ?_ ?_ | refine wkR_agg ?_ | refine wkR_tup ?_)) <;> first | rfl | (dsimp only; omega) | (dsimp only; rw [if_pos rfl, hee, List.drop_drop]))
               case b100 =>
                have hp100 := hb100
                try simp only [kb] at hp100
                refine awp_skip ?_
                try simp only [rk_state]
                refine hK6 _ ?_
                refine reg 1 fun L111 hL111 => ?_
                simp only [qq, seval, -Nat.reducePow, reduceIte, reduceCtorEq, s5t0, s5t5, s5t6, s5t7, hb9, hb13, s19t8, s19t22, s19f0, s19f5, s19f6, s19f7, s19f20, s19f21, hb22, hb37, hb93, hb100]
                refine aops_val (v := ?v112) rfl ?h112 ?_
                case h112 => simp only [qq, seval, -Nat.reducePow, reduceIte, reduceCtorEq, s5t0, s5t5, s5t6, s5t7, hb9, hb13, s19t8, s19t22, s19f0, s19f5, s19f6, s19f7, s19f20, s19f21, hb22, hb37, hb93, hb100]; first | (rw [wr_id] <;> omega) | rfl
                simp only [qq, seval, -Nat.reducePow, reduceIte, reduceCtorEq, s5t0, s5t5, s5t6, s5t7, hb9, hb13, s19t8, s19t22, s19f0, s19f5, s19f6, s19f7, s19f20, s19f21, hb22, hb37, hb93, hb100]
                refine aops_orunN 1 _ _ ?_
                simp only [qq, seval, -Nat.reducePow, reduceIte, reduceCtorEq, s5t0, s5t5, s5t6, s5t7, hb9, hb13, s19t8, s19t22, s19f0, s19f5, s19f6, s19f7, s19f20, s19f21, hb22, hb37, hb93, hb100]
                refine nil_q hL111 ?_
                try simp only [rk_state]
                have hx := group_t (l := l.drop (4 * k)) (by omega) (by assumption)
                have hnx := zr_next (f := 8 - k) (k := k) (n := n) (sc := 8 ^ k) (l := (l.drop (4 * k))) (by omega) (by omega) hnf (by rw [hm8]; omega) (by omega)
                rw [List.drop_drop, hm8, show 4 * k + 4 = 4 * (k + 1) from by omega, show 8 - k - 1 = 8 - (k + 1) from by omega] at hnx
                refine hK5 _ ((fun (k : Nat) (n : Int) => 9 - k) (k + 1) ((n + dAt (((l.drop (4 * k)).take 4).drop 1) 3 * 8 ^ k))) ?_ ⟨k + 1, (n + dAt (((l.drop (4 * k)).take 4).drop 1) 3 * 8 ^ k), rfl, ?_, ?_, ?_, ?_, ?_, ?_, ?_⟩
                · (try simp only []); omega
                · omega
                · omega
                · (rw [Int.pow_succ, ← hnx]; exact hq4_2)
                · (try simp only [qq, seval, -Nat.reducePow, reduceIte, reduceCtorEq, s5t0, s5t5, s5t6, s5t7, hb9, hb13, s19t8, s19t22, s19f0, s19f5, s19f6, s19f7, s19f20, s19f21, hb22, hb37, hb93, hb100])
                  all_goals (rw [List.drop_drop]; rfl)
                · (try simp only [qq, seval, -Nat.reducePow, reduceIte, reduceCtorEq, s5t0, s5t5, s5t6, s5t7, hb9, hb13, s19t8, s19t22, s19f0, s19f5, s19f6, s19f7, s19f20, s19f21, hb22, hb37, hb93, hb100])
                  all_goals (first | done | rfl | (simp only [AV.c.injEq, C.int.injEq, List.cons.injEq, and_true, true_and]; omega))
                · (try simp only [qq, seval, -Nat.reducePow, reduceIte, reduceCtorEq, s5t0, s5t5, s5t6, s5t7, hb9, hb13, s19t8, s19t22, s19f0, s19f5, s19f6, s19f7, s19f20, s19f21, hb22, hb37, hb93, hb100])
                  all_goals (rw [Int.pow_succ])
                · (try simp only [qq, seval, -Nat.reducePow, reduceIte, reduceCtorEq, s5t0, s5t5, s5t6, s5t7, hb9, hb13, s19t8, s19t22, s19f0, s19f5, s19f6, s19f7, s19f20, s19f21, hb22, hb37, hb93, hb100])
                  all_goals (first | done | rfl | (simp only [AV.c.injEq, C.int.injEq, List.cons.injEq, and_true, true_and]; omega))
set_option maxHeartbeats 4000000 in
set_option maxRecDepth 50000 in
theorem folded_fun  : Fun Try.prog 43 [] nomem (.c (.bool true)) nomem := by
 refine fun_of_awp Try.func43 rfl (by decide +kernel) (by decide +kernel) (Nat.le_of_ble_eq_true rfl) (fun _ _ => rfl) (fun _ _ => rfl) ?_
 refine seq_reg 1 fun L1 hL1 => ?_
 simp only [qq, seval, -Nat.reducePow, reduceIte, reduceCtorEq]
 refine nil_z hL1 ?_
 have s1 : zputR [] 3 = ([false, true, true, false], 0) := by decide +kernel
 refine seq_reg0 fun L2 hL2 => ?_
 refine aops_call_own (zput_fun [] 3 (by simp)) rfl rfl rfl rfl (by (try simp only [qq, seval, -Nat.reducePow, reduceIte, reduceCtorEq, s1]); (repeat' (first | exact .nil | exact wk_c | exact wk_ownc | exact wk_nilsc | exact wk_nils | exact wk_fn | refine .cons ?_ ?_ | refine wk_agg ?_ | refine wk_fnL ?_))) rfl rfl rfl (by simp only [qq, seval, -Nat.reducePow, reduceIte, reduceCtorEq, s1]) ?_
 simp only [qq, seval, -Nat.reducePow, reduceIte, reduceCtorEq, AV.setOwn, AV.setOwn1, s1]
 refine aops_orunN 5 _ _ ?_
 simp only [qq, seval, -Nat.reducePow, reduceIte, reduceCtorEq, s1]
 refine aops_nil (hL2 _ ?_)
 simp only [qq, seval, -Nat.reducePow, reduceIte, reduceCtorEq, s1]
 have s2 : zputR [] 4 = ([true, false, false, false, false, false, false, true], 0) := by decide +kernel
 refine seq_reg0 fun L4 hL4 => ?_
 refine aops_call_own (zput_fun [] 4 (by simp)) rfl rfl rfl rfl (by (try simp only [qq, seval, -Nat.reducePow, reduceIte, reduceCtorEq, s1, s2]); (repeat' (first | exact .nil | exact wk_c | exact wk_ownc | exact wk_nilsc | exact wk_nils | exact wk_fn | refine .cons ?_ ?_ | refine wk_agg ?_ | refine wk_fnL ?_))) rfl rfl rfl (by simp only [qq, seval, -Nat.reducePow, reduceIte, reduceCtorEq, s1, s2]) ?_
 simp only [qq, seval, -Nat.reducePow, reduceIte, reduceCtorEq, AV.setOwn, AV.setOwn1, s1, s2]
 refine aops_orunN 5 _ _ ?_
 simp only [qq, seval, -Nat.reducePow, reduceIte, reduceCtorEq, s1, s2]
 refine aops_nil (hL4 _ ?_)
 simp only [qq, seval, -Nat.reducePow, reduceIte, reduceCtorEq, s1, s2]
 as_aux_lemma =>
  have s3 : ztakeR [false, false, false, true, true] = (-1, [true], 0) := by decide +kernel
  refine seq_reg 1 fun L6 hL6 => ?_
  simp only [qq, seval, -Nat.reducePow, reduceIte, reduceCtorEq, s1, s2, s3]
  refine aops_call_own (ztake_fun [false, false, false, true, true] (by simp)) rfl rfl rfl rfl (by (try simp only [qq, seval, -Nat.reducePow, reduceIte, reduceCtorEq, s1, s2, s3]); (repeat' (first | exact .nil | exact wk_c | exact wk_ownc | exact wk_nilsc | exact wk_nils | exact wk_fn | refine .cons ?_ ?_ | refine wk_agg ?_ | refine wk_fnL ?_))) rfl rfl rfl (by simp only [qq, seval, -Nat.reducePow, reduceIte, reduceCtorEq, s1, s2, s3]) ?_
  simp only [qq, seval, -Nat.reducePow, reduceIte, reduceCtorEq, AV.setOwn, AV.setOwn1, s1, s2, s3]
  refine aops_orunN 7 _ _ ?_
  simp only [qq, seval, -Nat.reducePow, reduceIte, reduceCtorEq, s1, s2, s3]
  refine aops_nil (hL6 _ ?_)
  simp only [qq, seval, -Nat.reducePow, reduceIte, reduceCtorEq, s1, s2, s3]
  have s4 : ztakeR [true, false, false, false, false, false, false, false] = (0, [], 4) := by decide +kernel
  refine seq_reg 1 fun L8 hL8 => ?_
  simp only [qq, seval, -Nat.reducePow, reduceIte, reduceCtorEq, s1, s2, s3, s4]
  refine aops_call_own (ztake_fun [true, false, false, false, false, false, false, false] (by simp)) rfl rfl rfl rfl (by (try simp only [qq, seval, -Nat.reducePow, reduceIte, reduceCtorEq, s1, s2, s3, s4]); (repeat' (first | exact .nil | exact wk_c | exact wk_ownc | exact wk_nilsc | exact wk_nils | exact wk_fn | refine .cons ?_ ?_ | refine wk_agg ?_ | refine wk_fnL ?_))) rfl rfl rfl (by simp only [qq, seval, -Nat.reducePow, reduceIte, reduceCtorEq, s1, s2, s3, s4]) ?_
  simp only [qq, seval, -Nat.reducePow, reduceIte, reduceCtorEq, AV.setOwn, AV.setOwn1, s1, s2, s3, s4]
  refine aops_orunN 7 _ _ ?_
  simp only [qq, seval, -Nat.reducePow, reduceIte, reduceCtorEq, s1, s2, s3, s4]
  refine aops_nil (hL8 _ ?_)
  simp only [qq, seval, -Nat.reducePow, reduceIte, reduceCtorEq, s1, s2, s3, s4]
  refine seq_reg 3 fun L10 hL10 => ?_
  simp only [qq, seval, -Nat.reducePow, reduceIte, reduceCtorEq, s1, s2, s3, s4]
  refine aops_part (b := ?p11) 33 ?h11 (fun hb11 => ?a11) (fun hb11 => ?b11)
  case h11 => simp only [qq, seval, -Nat.reducePow, reduceIte, reduceCtorEq, s1, s2, s3, s4]; rfl
  case a11 =>
   have hp11 := hb11
   try simp only [kb] at hp11
   try simp only [hb11]
   refine aops_orunN 4 _ _ ?_
   simp only [qq, seval, -Nat.reducePow, reduceIte, reduceCtorEq, s1, s2, s3, s4, hb11]
   refine aops_part (b := ?p12) 37 ?h12 (fun hb12 => ?a12) (fun hb12 => ?b12)
   case h12 => simp only [qq, seval, -Nat.reducePow, reduceIte, reduceCtorEq, s1, s2, s3, s4, hb11]; rfl
   case a12 =>
    have hp12 := hb12
    try simp only [kb] at hp12
    try simp only [hb12]
    refine aops_orunN 4 _ _ ?_
    simp only [qq, seval, -Nat.reducePow, reduceIte, reduceCtorEq, s1, s2, s3, s4, hb11, hb12]
    refine aops_part (b := ?p13) 41 ?h13 (fun hb13 => ?a13) (fun hb13 => ?b13)
    case h13 => simp only [qq, seval, -Nat.reducePow, reduceIte, reduceCtorEq, s1, s2, s3, s4, hb11, hb12]; rfl
    case a13 =>
     have hp13 := hb13
     try simp only [kb] at hp13
     try simp only [hb13]
     refine aops_orunN 4 _ _ ?_
     simp only [qq, seval, -Nat.reducePow, reduceIte, reduceCtorEq, s1, s2, s3, s4, hb11, hb12, hb13]
     refine aops_part (b := ?p14) 45 ?h14 (fun hb14 => ?a14) (fun hb14 => ?b14)
     case h14 => simp only [qq, seval, -Nat.reducePow, reduceIte, reduceCtorEq, s1, s2, s3, s4, hb11, hb12, hb13]; rfl
     case a14 =>
      have hp14 := hb14
      try simp only [kb] at hp14
      try simp only [hb14]
      refine aops_orunN 2 _ _ ?_
      simp only [qq, seval, -Nat.reducePow, reduceIte, reduceCtorEq, s1, s2, s3, s4, hb11, hb12, hb13, hb14]
      refine aops_call (equal_bool_fun [false, true, true, false] [false, true, true, false] (by simp)) (by simp only [qq, seval, -Nat.reducePow, reduceIte, reduceCtorEq, s1, s2, s3, s4, hb11, hb12, hb13, hb14]) rfl rfl rfl (by (try simp only [qq, seval, -Nat.reducePow, reduceIte, reduceCtorEq, s1, s2, s3, s4, hb11, hb12, hb13, hb14]); (repeat' (first | exact .nil | exact wk_c | exact wk_ownc | exact wk_nilsc | exact wk_nils | exact wk_fn | refine .cons ?_ ?_ | refine wk_agg ?_ | refine wk_fnL ?_))) rfl rfl ?_
      simp only [qq, seval, -Nat.reducePow, reduceIte, reduceCtorEq, s1, s2, s3, s4, hb11, hb12, hb13, hb14]
      refine aops_orunN 2 _ _ ?_
      simp only [qq, seval, -Nat.reducePow, reduceIte, reduceCtorEq, s1, s2, s3, s4, hb11, hb12, hb13, hb14]
      refine aops_part (b := ?p16) 50 ?h16 (fun hb16 => ?a16) (fun hb16 => ?b16)
      case h16 => simp only [qq, seval, -Nat.reducePow, reduceIte, reduceCtorEq, s1, s2, s3, s4, hb11, hb12, hb13, hb14]; rfl
      case a16 =>
       have hp16 := hb16
       try simp only [kb] at hp16
       try simp only [hb16]
       refine aops_orunN 2 _ _ ?_
       simp only [qq, seval, -Nat.reducePow, reduceIte, reduceCtorEq, s1, s2, s3, s4, hb11, hb12, hb13, hb14, hb16]
       refine aops_call (equal_bool_fun [true, false, false, false, false, false, false, true] [true, false, false, false, false, false, false, true] (by simp)) (by simp only [qq, seval, -Nat.reducePow, reduceIte, reduceCtorEq, s1, s2, s3, s4, hb11, hb12, hb13, hb14, hb16]) rfl rfl rfl (by (try simp only [qq, seval, -Nat.reducePow, reduceIte, reduceCtorEq, s1, s2, s3, s4, hb11, hb12, hb13, hb14, hb16]); (repeat' (first | exact .nil | exact wk_c | exact wk_ownc | exact wk_nilsc | exact wk_nils | exact wk_fn | refine .cons ?_ ?_ | refine wk_agg ?_ | refine wk_fnL ?_))) rfl rfl ?_
       simp only [qq, seval, -Nat.reducePow, reduceIte, reduceCtorEq, s1, s2, s3, s4, hb11, hb12, hb13, hb14, hb16]
       refine aops_orunN 2 _ _ ?_
       simp only [qq, seval, -Nat.reducePow, reduceIte, reduceCtorEq, s1, s2, s3, s4, hb11, hb12, hb13, hb14, hb16]
       refine aops_part (b := ?p18) 55 ?h18 (fun hb18 => ?a18) (fun hb18 => ?b18)
       case h18 => simp only [qq, seval, -Nat.reducePow, reduceIte, reduceCtorEq, s1, s2, s3, s4, hb11, hb12, hb13, hb14, hb16]; rfl
       case a18 =>
        have hp18 := hb18
        try simp only [kb] at hp18
        try simp only [hb18]
        refine aops_orunN 4 _ _ ?_
        simp only [qq, seval, -Nat.reducePow, reduceIte, reduceCtorEq, s1, s2, s3, s4, hb11, hb12, hb13, hb14, hb16, hb18]
        refine aops_part (b := ?p19) 59 ?h19 (fun hb19 => ?a19) (fun hb19 => ?b19)
        case h19 => simp only [qq, seval, -Nat.reducePow, reduceIte, reduceCtorEq, s1, s2, s3, s4, hb11, hb12, hb13, hb14, hb16, hb18]; rfl
        case a19 =>
         have hp19 := hb19
         try simp only [kb] at hp19
         try simp only [hb19]
         refine aops_orunN 5 _ _ ?_
         simp only [qq, seval, -Nat.reducePow, reduceIte, reduceCtorEq, s1, s2, s3, s4, hb11, hb12, hb13, hb14, hb16, hb18, hb19]
         refine nil_z hL10 ?_
         as_aux_lemma =>
          refine awp_ret ?_
          try simp only [rk_state]
          refine ⟨_, 0, by simp only [qq, seval, -Nat.reducePow, reduceIte, reduceCtorEq, resA, Try.results43, s1, s2, s3, s4, hb11, hb12, hb13, hb14, hb16, hb18, hb19]; rfl, ?_, nomem_a, nomem_a⟩
          simp only [packA]
          (repeat' (first | exact .nil | exact wkR_c | exact wkR_own | exact wkR_nils | refine wkR_int ?_ | refine wkR_bool ?_ | refine wkR_sl ?_ | refine wkR_osl ?_ | refine wkR_nsl ?_ | refine wkR_oo ?_ | refine wkR_no ?_ | refine .cons ?_ ?_ | refine wkR_agg ?_ | refine wkR_tup ?_))
        case b19 =>
         first | exact absurd hb19 (by decide) | (have hp19 := hb19; (try simp only [kb] at hp19); exfalso; omega)
       case b18 =>
        first | exact absurd hb18 (by decide) | (have hp18 := hb18; (try simp only [kb] at hp18); exfalso; omega)
      case b16 =>
       first | exact absurd hb16 (by decide) | (have hp16 := hb16; (try simp only [kb] at hp16); exfalso; omega)
     case b14 =>
      first | exact absurd hb14 (by decide) | (have hp14 := hb14; (try simp only [kb] at hp14); exfalso; omega)
    case b13 =>
     first | exact absurd hb13 (by decide) | (have hp13 := hb13; (try simp only [kb] at hp13); exfalso; omega)
   case b12 =>
    first | exact absurd hb12 (by decide) | (have hp12 := hb12; (try simp only [kb] at hp12); exfalso; omega)
  case b11 =>
   first | exact absurd hb11 (by decide) | (have hp11 := hb11; (try simp only [kb] at hp11); exfalso; omega)
set_option maxHeartbeats 4000000 in
set_option maxRecDepth 50000 in
theorem zigSays_fun (l : List Bool) (v : Int) (hl : l.length ≤ 140737488355200) : Fun Try.prog 8 [.c (.sl 4 (Rw boC l)), .c (.int .i64 v)] nomem (.c (.bool true)) nomem := by
 refine fun_of_awp Try.func8 rfl (by decide +kernel) (by decide +kernel) (Nat.le_of_ble_eq_true rfl) (fun _ _ => rfl) (fun _ _ => rfl) ?_
 refine seq_reg 1 fun L1 hL1 => ?_
 simp only [qq, seval, -Nat.reducePow, reduceIte, reduceCtorEq]
 refine nil_z hL1 ?_
 refine seq_reg 2 fun L2 hL2 => ?_
 simp only [qq, seval, -Nat.reducePow, reduceIte, reduceCtorEq]
 refine aops_call_own (zput_fun _ _ ?s3_0) rfl rfl rfl rfl (by (try simp only [qq, seval, -Nat.reducePow, reduceIte, reduceCtorEq]); (repeat' (first | exact .nil | exact wk_c | exact wk_ownc | exact wk_nilsc | exact wk_nils | exact wk_fn | refine .cons ?_ ?_ | refine wk_agg ?_ | refine wk_fnL ?_))) rfl rfl rfl (by simp only [qq, seval, -Nat.reducePow, reduceIte, reduceCtorEq]) ?m3
 case s3_0 => first | assumption | omega | decide +kernel | (simp only [List.length_take, List.length_drop]; omega)
 simp only [qq, seval, -Nat.reducePow, reduceIte, reduceCtorEq, AV.setOwn, AV.setOwn1]
 refine aops_orunN 5 _ _ ?_
 simp only [qq, seval, -Nat.reducePow, reduceIte, reduceCtorEq]
 refine aops_nil (hL2 _ ?_)
 simp only [qq, seval, -Nat.reducePow, reduceIte, reduceCtorEq]
 refine seq_reg 1 fun L4 hL4 => ?_
 simp only [qq, seval, -Nat.reducePow, reduceIte, reduceCtorEq]
 refine aops_call_own (ztake_fun _ ?s5_0) rfl rfl rfl rfl (by (try simp only [qq, seval, -Nat.reducePow, reduceIte, reduceCtorEq]); (repeat' (first | exact .nil | exact wk_c | exact wk_ownc | exact wk_nilsc | exact wk_nils | exact wk_fn | refine .cons ?_ ?_ | refine wk_agg ?_ | refine wk_fnL ?_))) rfl rfl rfl (by simp only [qq, seval, -Nat.reducePow, reduceIte, reduceCtorEq]) ?m5
 case s5_0 => first | assumption | omega | decide +kernel | (simp only [List.length_take, List.length_drop]; omega)
 simp only [qq, seval, -Nat.reducePow, reduceIte, reduceCtorEq, AV.setOwn, AV.setOwn1]
 refine aops_orunN 7 _ _ ?_
 simp only [qq, seval, -Nat.reducePow, reduceIte, reduceCtorEq]
 refine aops_nil (hL4 _ ?_)
 simp only [qq, seval, -Nat.reducePow, reduceIte, reduceCtorEq]
 as_aux_lemma =>
  refine seq_reg 2 fun L6 hL6 => ?_
  simp only [qq, seval, -Nat.reducePow, reduceIte, reduceCtorEq]
  refine aops_call_own (coded_fun _ _ ?s7_0) rfl rfl rfl rfl (by (try simp only [qq, seval, -Nat.reducePow, reduceIte, reduceCtorEq]); (repeat' (first | exact .nil | exact wk_c | exact wk_ownc | exact wk_nilsc | exact wk_nils | exact wk_fn | refine .cons ?_ ?_ | refine wk_agg ?_ | refine wk_fnL ?_))) rfl rfl rfl (by simp only [qq, seval, -Nat.reducePow, reduceIte, reduceCtorEq]) ?m7
  case s7_0 => first | assumption | omega | decide +kernel | (simp only [List.length_take, List.length_drop]; omega)
  simp only [qq, seval, -Nat.reducePow, reduceIte, reduceCtorEq, AV.setOwn, AV.setOwn1]
  refine aops_orunN 5 _ _ ?_
  simp only [qq, seval, -Nat.reducePow, reduceIte, reduceCtorEq]
  refine aops_nil (hL6 _ ?_)
  simp only [qq, seval, -Nat.reducePow, reduceIte, reduceCtorEq]
  refine seq_reg 1 fun L8 hL8 => ?_
  simp only [qq, seval, -Nat.reducePow, reduceIte, reduceCtorEq]
  refine aops_call (decoded_fun _ ?s9_0) rfl rfl rfl rfl (by (try simp only [qq, seval, -Nat.reducePow, reduceIte, reduceCtorEq]); (repeat' (first | exact .nil | exact wk_c | exact wk_ownc | exact wk_nilsc | exact wk_nils | exact wk_fn | refine .cons ?_ ?_ | refine wk_agg ?_ | refine wk_fnL ?_))) rfl rfl ?m9
  case s9_0 => first | assumption | omega | decide +kernel | (simp only [List.length_take, List.length_drop]; omega)
  simp only [qq, seval, -Nat.reducePow, reduceIte, reduceCtorEq]
  refine aops_orunN 7 _ _ ?_
  simp only [qq, seval, -Nat.reducePow, reduceIte, reduceCtorEq]
  refine nil_z hL8 ?_
  have hb1 : (zputR l v).1.length < 4611686018427387904 := by have := zputR_len l v; omega
  have hb2 : (ztakeR l).2.1.length < 4611686018427387904 := by have := ztakeR_len l; omega
  refine seq_reg0 fun L10 hL10 => ?_
  refine aops_call folded_fun rfl rfl rfl rfl (by (try simp only [qq, seval, -Nat.reducePow, reduceIte, reduceCtorEq]); (repeat' (first | exact .nil | exact wk_c | exact wk_ownc | exact wk_nilsc | exact wk_nils | exact wk_fn | refine .cons ?_ ?_ | refine wk_agg ?_ | refine wk_fnL ?_))) rfl rfl ?_
  simp only [qq, seval, -Nat.reducePow, reduceIte, reduceCtorEq]
  refine aops_orunN 1 _ _ ?_
  simp only [qq, seval, -Nat.reducePow, reduceIte, reduceCtorEq]
  refine aops_part (b := ?p12) 40 ?h12 (fun hb12 => ?a12) (fun hb12 => ?b12)
  case h12 => simp only [qq, seval, -Nat.reducePow, reduceIte, reduceCtorEq]; rfl
  case a12 =>
   have hp12 := hb12
   try simp only [kb] at hp12
   try simp only [hb12]
   refine aops_orunN 5 _ _ ?_
   simp only [qq, seval, -Nat.reducePow, reduceIte, reduceCtorEq, hb12]
   refine aops_part (b := ?p13) 45 ?h13 (fun hb13 => ?a13) (fun hb13 => ?b13)
   case h13 => simp only [qq, seval, -Nat.reducePow, reduceIte, reduceCtorEq, hb12]; rfl
   case a13 =>
    have hp13 := hb13
    try simp only [kb] at hp13
    try simp only [hb13]
    refine aops_orunN 2 _ _ ?_
    simp only [qq, seval, -Nat.reducePow, reduceIte, reduceCtorEq, hb12, hb13]
    refine aops_call (equal_bool_fun _ _ ?s14_0) (by simp only [qq, seval, -Nat.reducePow, reduceIte, reduceCtorEq, hb12, hb13]) rfl rfl rfl (by (try simp only [qq, seval, -Nat.reducePow, reduceIte, reduceCtorEq, hb12, hb13]); (repeat' (first | exact .nil | exact wk_c | exact wk_ownc | exact wk_nilsc | exact wk_nils | exact wk_fn | refine .cons ?_ ?_ | refine wk_agg ?_ | refine wk_fnL ?_))) rfl rfl ?m14
    case s14_0 => first | assumption | omega | decide +kernel | (simp only [List.length_take, List.length_drop]; omega)
    simp only [qq, seval, -Nat.reducePow, reduceIte, reduceCtorEq, hb12, hb13]
    refine aops_orunN 2 _ _ ?_
    simp only [qq, seval, -Nat.reducePow, reduceIte, reduceCtorEq, hb12, hb13]
    refine aops_part (b := ?p15) 50 ?h15 (fun hb15 => ?a15) (fun hb15 => ?b15)
    case h15 => simp only [qq, seval, -Nat.reducePow, reduceIte, reduceCtorEq, hb12, hb13]; rfl
    case a15 =>
     have hp15 := hb15
     try simp only [kb] at hp15
     try simp only [hb15]
     refine aops_orunN 5 _ _ ?_
     simp only [qq, seval, -Nat.reducePow, reduceIte, reduceCtorEq, hb12, hb13, hb15]
     refine aops_part (b := ?p16) 55 ?h16 (fun hb16 => ?a16) (fun hb16 => ?b16)
     case h16 => simp only [qq, seval, -Nat.reducePow, reduceIte, reduceCtorEq, hb12, hb13, hb15]; rfl
     case a16 =>
      have hp16 := hb16
      try simp only [kb] at hp16
      try simp only [hb16]
      refine aops_orunN 5 _ _ ?_
      simp only [qq, seval, -Nat.reducePow, reduceIte, reduceCtorEq, hb12, hb13, hb15, hb16]
      refine aops_part (b := ?p17) 60 ?h17 (fun hb17 => ?a17) (fun hb17 => ?b17)
      case h17 => simp only [qq, seval, -Nat.reducePow, reduceIte, reduceCtorEq, hb12, hb13, hb15, hb16]; rfl
      case a17 =>
       have hp17 := hb17
       try simp only [kb] at hp17
       try simp only [hb17]
       refine aops_orunN 2 _ _ ?_
       simp only [qq, seval, -Nat.reducePow, reduceIte, reduceCtorEq, hb12, hb13, hb15, hb16, hb17]
       refine aops_call (equal_bool_fun _ _ ?s18_0) (by simp only [qq, seval, -Nat.reducePow, reduceIte, reduceCtorEq, hb12, hb13, hb15, hb16, hb17]) rfl rfl rfl (by (try simp only [qq, seval, -Nat.reducePow, reduceIte, reduceCtorEq, hb12, hb13, hb15, hb16, hb17]); (repeat' (first | exact .nil | exact wk_c | exact wk_ownc | exact wk_nilsc | exact wk_nils | exact wk_fn | refine .cons ?_ ?_ | refine wk_agg ?_ | refine wk_fnL ?_))) rfl rfl ?m18
       case s18_0 => first | assumption | omega | decide +kernel | (simp only [List.length_take, List.length_drop]; omega)
       simp only [qq, seval, -Nat.reducePow, reduceIte, reduceCtorEq, hb12, hb13, hb15, hb16, hb17]
       refine aops_orunN 2 _ _ ?_
       simp only [qq, seval, -Nat.reducePow, reduceIte, reduceCtorEq, hb12, hb13, hb15, hb16, hb17]
       refine nil_z hL10 ?_
       as_aux_lemma =>
        refine awp_ret ?_
        try simp only [rk_state]
        refine ⟨_, 0, by simp only [qq, seval, -Nat.reducePow, reduceIte, reduceCtorEq, resA, Try.results8, hb12, hb13, hb15, hb16, hb17]; rfl, ?_, nomem_a, nomem_a⟩
        simp only [packA]
        (repeat' (first | exact .nil | exact wkR_c | exact wkR_own | exact wkR_nils | refine wkR_int ?_ | refine wkR_bool ?_ | refine wkR_sl ?_ | refine wkR_osl ?_ | refine wkR_nsl ?_ | refine wkR_oo ?_ | refine wkR_no ?_ | refine .cons ?_ ?_ | refine wkR_agg ?_ | refine wkR_tup ?_))
      case b17 =>
       first | exact absurd hb17 (by decide) | (have hp17 := hb17; (try simp only [kb] at hp17); exfalso; omega)
     case b16 =>
      first | exact absurd hb16 (by decide) | (have hp16 := hb16; (try simp only [kb] at hp16); exfalso; omega)
    case b15 =>
     first | exact absurd hb15 (by decide) | (have hp15 := hb15; (try simp only [kb] at hp15); exfalso; omega)
   case b13 =>
    first | exact absurd hb13 (by decide) | (have hp13 := hb13; (try simp only [kb] at hp13); exfalso; omega)
  case b12 =>
   first | exact absurd hb12 (by decide) | (have hp12 := hb12; (try simp only [kb] at hp12); exfalso; omega)
end Go.Proofs.Y
