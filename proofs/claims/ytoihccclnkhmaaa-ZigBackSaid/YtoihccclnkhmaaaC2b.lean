/-
  What is proved: small numbers: what Coded, Decoded and the law ZigSays compute. Conditions: none.
-/
import Derived.Test.YtoihccclnkhmaaaC2
set_option linter.unusedVariables false
set_option linter.unusedSimpArgs false
set_option maxRecDepth 4000
namespace Go.Proofs.Y
open Go.Rb
set_option maxHeartbeats 4000000 in
set_option maxRecDepth 50000 in
theorem coded_fun (l : List Bool) (v : Int) (hl : l.length ≤ 140737488355200) : Fun Try.prog 41 [.c (.sl 4 (Rw boC l)), .c (.int .i64 v)] nomem (.tup [.own false 0 4 (Rw boC (zputR l v).1), .c (.int .i64 (zputR l v).2)]) nomem := by
 refine fun_of_awp Try.func41 rfl (by decide +kernel) (by decide +kernel) (Nat.le_of_ble_eq_true rfl) (fun _ _ => rfl) (fun _ _ => rfl) ?_
 refine awp_seq_k fun K1 hK1 => ?_
 refine awp_region_lit fun L2 hL2 => ?_
 refine aops_orunN 2 _ _ ?_
 simp only [qq, Nat.reduceBEq, reduceIte, Nat.reduceEqDiff, Nat.reduceAdd, Nat.reduceLeDiff, reduceCtorEq, Nat.reduceMul, Int.reduceToNat]
 refine aops_nil (hL2 _ ?_)
 simp only [qq, Nat.reduceBEq, reduceIte, Nat.reduceEqDiff, Nat.reduceAdd, Nat.reduceLeDiff, reduceCtorEq, Nat.reduceMul, Int.reduceToNat]
 try simp only [rk_state]
 refine hK1 _ ?_
 refine awp_seq_k fun K3 hK3 => ?_
 refine awp_seq_k fun K4 hK4 => ?_
 refine awp_region_lit fun L5 hL5 => ?_
 refine aops_orunN 1 _ _ ?_
 simp only [qq, Nat.reduceBEq, reduceIte, Nat.reduceEqDiff, Nat.reduceAdd, Nat.reduceLeDiff, reduceCtorEq, Nat.reduceMul, Int.reduceToNat]
 refine aops_call (in_fun _ _ _) rfl rfl rfl rfl (by (try simp only [qq, Nat.reduceBEq, reduceIte, Nat.reduceEqDiff, Nat.reduceAdd, Nat.reduceLeDiff, reduceCtorEq, Nat.reduceMul, Int.reduceToNat]); (repeat' (first | exact .nil | exact wk_c | exact wk_ownc | exact wk_nilsc | exact wk_nils | exact wk_fn | refine .cons ?_ ?_ | refine wk_agg ?_ | refine wk_fnL ?_))) rfl rfl ?_
 simp only [qq, Nat.reduceBEq, reduceIte, Nat.reduceEqDiff, Nat.reduceAdd, Nat.reduceLeDiff, reduceCtorEq, Nat.reduceMul, Int.reduceToNat]
 refine aops_orunN 1 _ _ ?_
 simp only [qq, Nat.reduceBEq, reduceIte, Nat.reduceEqDiff, Nat.reduceAdd, Nat.reduceLeDiff, reduceCtorEq, Nat.reduceMul, Int.reduceToNat]
 refine aops_nil (hL5 _ ?_)
 simp only [qq, Nat.reduceBEq, reduceIte, Nat.reduceEqDiff, Nat.reduceAdd, Nat.reduceLeDiff, reduceCtorEq, Nat.reduceMul, Int.reduceToNat]
 try simp only [rk_state]
 refine hK4 _ ?_
 refine awp_cond (t := ?t7) ?h7 (fun hb7 => ?a7) (fun hb7 => ?b7)
 case h7 => simp only [qq, Nat.reduceBEq, reduceIte, Nat.reduceEqDiff, Nat.reduceAdd, Nat.reduceLeDiff, reduceCtorEq, Nat.reduceMul, Int.reduceToNat]; rfl
 case a7 =>
  have hp7 := hb7
  try simp only [kb] at hp7
  all_goals try exact absurd hb7 (by decide)
  all_goals try (exfalso; omega)
  all_goals
   refine awp_seq_k fun K8 hK8 => ?_
   refine awp_region_lit fun L9 hL9 => ?_
   refine aops_orunN 2 _ _ ?_
   simp only [qq, Nat.reduceBEq, reduceIte, Nat.reduceEqDiff, Nat.reduceAdd, Nat.reduceLeDiff, reduceCtorEq, Nat.reduceMul, Int.reduceToNat, hb7]
   refine aops_nil (hL9 _ ?_)
   simp only [qq, Nat.reduceBEq, reduceIte, Nat.reduceEqDiff, Nat.reduceAdd, Nat.reduceLeDiff, reduceCtorEq, Nat.reduceMul, Int.reduceToNat, hb7]
   try simp only [rk_state]
   refine hK8 _ ?_
   as_aux_lemma =>
    refine awp_ret ?_
    try simp only [rk_state]
    first | refine ⟨_, d, by simp only [qq, Nat.reduceBEq, reduceIte, Nat.reduceEqDiff, Nat.reduceAdd, Nat.reduceLeDiff, reduceCtorEq, Nat.reduceMul, Int.reduceToNat, resA, Try.results41, hb7]; rfl, ?_, fun l hl => absurd rfl hl, fun l hl => absurd rfl hl⟩ | refine ⟨_, 0, by simp only [qq, Nat.reduceBEq, reduceIte, Nat.reduceEqDiff, Nat.reduceAdd, Nat.reduceLeDiff, reduceCtorEq, Nat.reduceMul, Int.reduceToNat, resA, Try.results41, hb7]; rfl, ?_, fun l hl => absurd rfl hl, fun l hl => absurd rfl hl⟩
    simp only [packA]
    (unfold zputR); first | (rw [if_pos (by omega)]; (repeat' (first | exact .nil | exact wkR_c | exact wkR_own | exact wkR_nils | refine wkR_int ?_ | refine wkR_bool ?_ | refine wkR_sl ?_ | refine wkR_osl ?_ | refine wkR_nsl ?_ | refine wkR_oo ?_ | refine wkR_no ?_ | refine .cons ?_ ?_ | refine wkR_agg ?_ | refine wkR_tup ?_)) <;> rfl) | (rw [if_neg (by omega)]; (repeat' (first | exact .nil | exact wkR_c | exact wkR_own | exact wkR_nils | refine wkR_int ?_ | refine wkR_bool ?_ | refine wkR_sl ?_ | refine wkR_osl ?_ | refine wkR_nsl ?_ | refine wkR_oo ?_ | refine wkR_no ?_ | refine .cons ?_ ?_ | refine wkR_agg ?_ | refine wkR_tup ?_)) <;> first | rfl | (rw [sc, hacc]) | (simp only [sc]))
 case b7 =>
  have hp7 := hb7
  try simp only [kb] at hp7
  all_goals try exact absurd hb7 (by decide)
  all_goals try (exfalso; omega)
  all_goals
   refine awp_skip ?_
   try simp only [rk_state]
   refine hK3 _ ?_
   refine awp_seq_k fun K10 hK10 => ?_
   refine awp_region_lit fun L11 hL11 => ?_
   refine aops_orunN 1 _ _ ?_
   simp only [qq, Nat.reduceBEq, reduceIte, Nat.reduceEqDiff, Nat.reduceAdd, Nat.reduceLeDiff, reduceCtorEq, Nat.reduceMul, Int.reduceToNat, hb7]
   refine aops_val (v := ?v12) rfl ?h12 ?_
   case h12 => simp only [qq, Nat.reduceBEq, reduceIte, Nat.reduceEqDiff, Nat.reduceAdd, Nat.reduceLeDiff, reduceCtorEq, Nat.reduceMul, Int.reduceToNat, hb7]; first | (rw [wr_id] <;> omega) | rfl
   simp only [qq, Nat.reduceBEq, reduceIte, Nat.reduceEqDiff, Nat.reduceAdd, Nat.reduceLeDiff, reduceCtorEq, Nat.reduceMul, Int.reduceToNat, hb7]
   refine aops_orunN 1 _ _ ?_
   simp only [qq, Nat.reduceBEq, reduceIte, Nat.reduceEqDiff, Nat.reduceAdd, Nat.reduceLeDiff, reduceCtorEq, Nat.reduceMul, Int.reduceToNat, hb7]
   refine aops_nil (hL11 _ ?_)
   simp only [qq, Nat.reduceBEq, reduceIte, Nat.reduceEqDiff, Nat.reduceAdd, Nat.reduceLeDiff, reduceCtorEq, Nat.reduceMul, Int.reduceToNat, hb7]
   try simp only [rk_state]
   refine hK10 _ ?_
   refine awp_seq_k fun K13 hK13 => ?_
   refine awp_seq_k fun K14 hK14 => ?_
   refine awp_region_lit fun L15 hL15 => ?_
   refine aops_orunN 2 _ _ ?_
   simp only [qq, Nat.reduceBEq, reduceIte, Nat.reduceEqDiff, Nat.reduceAdd, Nat.reduceLeDiff, reduceCtorEq, Nat.reduceMul, Int.reduceToNat, hb7]
   refine aops_nil (hL15 _ ?_)
   simp only [qq, Nat.reduceBEq, reduceIte, Nat.reduceEqDiff, Nat.reduceAdd, Nat.reduceLeDiff, reduceCtorEq, Nat.reduceMul, Int.reduceToNat, hb7]
   try simp only [rk_state]
   refine hK14 _ ?_
   refine awp_cond (t := ?t16) ?h16 (fun hb16 => ?a16) (fun hb16 => ?b16)
   case h16 => simp only [qq, Nat.reduceBEq, reduceIte, Nat.reduceEqDiff, Nat.reduceAdd, Nat.reduceLeDiff, reduceCtorEq, Nat.reduceMul, Int.reduceToNat, hb7]; rfl
   case a16 =>
    have hp16 := hb16
    try simp only [kb] at hp16
    all_goals try exact absurd hb16 (by decide)
    all_goals try (exfalso; omega)
    all_goals
     refine awp_region_lit fun L17 hL17 => ?_
     refine aops_orunN 1 _ _ ?_
     simp only [qq, Nat.reduceBEq, reduceIte, Nat.reduceEqDiff, Nat.reduceAdd, Nat.reduceLeDiff, reduceCtorEq, Nat.reduceMul, Int.reduceToNat, hb7, hb16]
     refine aops_val (v := ?v18) rfl ?h18 ?_
     case h18 => simp only [qq, Nat.reduceBEq, reduceIte, Nat.reduceEqDiff, Nat.reduceAdd, Nat.reduceLeDiff, reduceCtorEq, Nat.reduceMul, Int.reduceToNat, hb7, hb16]; first | (rw [wr_id] <;> omega) | rfl
     simp only [qq, Nat.reduceBEq, reduceIte, Nat.reduceEqDiff, Nat.reduceAdd, Nat.reduceLeDiff, reduceCtorEq, Nat.reduceMul, Int.reduceToNat, hb7, hb16]
     refine aops_val (v := ?v19) rfl ?h19 ?_
     case h19 => simp only [qq, Nat.reduceBEq, reduceIte, Nat.reduceEqDiff, Nat.reduceAdd, Nat.reduceLeDiff, reduceCtorEq, Nat.reduceMul, Int.reduceToNat, hb7, hb16]; first | (rw [wr_id] <;> omega) | rfl
     simp only [qq, Nat.reduceBEq, reduceIte, Nat.reduceEqDiff, Nat.reduceAdd, Nat.reduceLeDiff, reduceCtorEq, Nat.reduceMul, Int.reduceToNat, hb7, hb16]
     refine aops_val (v := ?v20) rfl ?h20 ?_
     case h20 => simp only [qq, Nat.reduceBEq, reduceIte, Nat.reduceEqDiff, Nat.reduceAdd, Nat.reduceLeDiff, reduceCtorEq, Nat.reduceMul, Int.reduceToNat, hb7, hb16]; first | (rw [wr_id] <;> omega) | rfl
     simp only [qq, Nat.reduceBEq, reduceIte, Nat.reduceEqDiff, Nat.reduceAdd, Nat.reduceLeDiff, reduceCtorEq, Nat.reduceMul, Int.reduceToNat, hb7, hb16]
     refine aops_orunN 1 _ _ ?_
     simp only [qq, Nat.reduceBEq, reduceIte, Nat.reduceEqDiff, Nat.reduceAdd, Nat.reduceLeDiff, reduceCtorEq, Nat.reduceMul, Int.reduceToNat, hb7, hb16]
     refine aops_nil (hL17 _ ?_)
     simp only [qq, Nat.reduceBEq, reduceIte, Nat.reduceEqDiff, Nat.reduceAdd, Nat.reduceLeDiff, reduceCtorEq, Nat.reduceMul, Int.reduceToNat, hb7, hb16]
     try simp only [rk_state]
     refine hK13 _ ?_
     as_aux_lemma =>
      refine awp_seq_k fun K21 hK21 => ?_
      have hf := foldN_or v
      refine awp_region_lit fun L22 hL22 => ?_
      refine aops_nilown 3 32 rfl rfl ?x23 ?_
      case x23 => simp only [qq, Nat.reduceBEq, reduceIte, Nat.reduceEqDiff, Nat.reduceAdd, Nat.reduceLeDiff, reduceCtorEq, Nat.reduceMul, Int.reduceToNat, hb7, hb16]
      simp only [qq, Nat.reduceBEq, reduceIte, Nat.reduceEqDiff, Nat.reduceAdd, Nat.reduceLeDiff, reduceCtorEq, Nat.reduceMul, Int.reduceToNat, hb7, hb16]
      refine aops_nil (hL22 _ ?_)
      simp only [qq, Nat.reduceBEq, reduceIte, Nat.reduceEqDiff, Nat.reduceAdd, Nat.reduceLeDiff, reduceCtorEq, Nat.reduceMul, Int.reduceToNat, hb7, hb16]
      try simp only [rk_state]
      refine hK21 _ ?_
      refine awp_seq_k fun K24 hK24 => ?_
      refine awp_seq_k fun K25 hK25 => ?_
      have hf := foldN_or v
      refine awp_region_lit fun L26 hL26 => ?_
      refine aops_orunN 1 _ _ ?_
      simp only [qq, Nat.reduceBEq, reduceIte, Nat.reduceEqDiff, Nat.reduceAdd, Nat.reduceLeDiff, reduceCtorEq, Nat.reduceMul, Int.reduceToNat, hb7, hb16]
      refine aops_nil (hL26 _ ?_)
      simp only [qq, Nat.reduceBEq, reduceIte, Nat.reduceEqDiff, Nat.reduceAdd, Nat.reduceLeDiff, reduceCtorEq, Nat.reduceMul, Int.reduceToNat, hb7, hb16]
      try simp only [rk_state]
      refine hK25 _ ?_
      refine awp_block ?_
      refine awp_loopW (W := [23, 24, 25, 26, 27, 28, 29, 30, 31, 32, 7, 33, 34, 6, 8]) (M := []) rfl rfl (fun kk s => ∃ (f : Nat) (m : Int) (acc : List Int) (b : Bool), kk = 1 + f ∧ (0 ≤ m) ∧ (m < 8 ^ f ∧ f ≤ 8) ∧ (acc.length + f ≤ 8) ∧ (acc ++ (if b = true ∨ m > 0 then dig f m else []) = dig 8 (foldN v)) ∧ (m > 0 → 1 ≤ f) ∧ (b = true → 1 ≤ f) ∧ s.t 6 = .c (.int .i64 m) ∧ s.t 7 = .own false 32 3 (Rw inC acc) ∧ s.t 8 = .c (.bool b)) ((fun (f : Nat) (m : Int) (acc : List Int) (b : Bool) => 1 + f) (8) (foldN v) ([]) (true)) ?i27 ?r27
      case i27 =>
       refine ⟨8, foldN v, [], true, rfl, ?_, ?_, ?_, ?_, ?_, ?_, ?_, ?_, ?_⟩
       · omega
       · (refine ⟨?_, Nat.le_refl _⟩; show _ < (16777216 : Int); omega)
       · (simp)
       · simp
       · omega
       · omega
       · (try simp only [qq, Nat.reduceBEq, reduceIte, Nat.reduceEqDiff, Nat.reduceAdd, Nat.reduceLeDiff, reduceCtorEq, Nat.reduceMul, Int.reduceToNat, hb7, hb16])
         all_goals (simp only [AV.c.injEq, C.int.injEq, true_and]; omega)
       · (try simp only [qq, Nat.reduceBEq, reduceIte, Nat.reduceEqDiff, Nat.reduceAdd, Nat.reduceLeDiff, reduceCtorEq, Nat.reduceMul, Int.reduceToNat, hb7, hb16])
         all_goals (first | done | rfl | (simp only [AV.c.injEq, C.int.injEq, List.cons.injEq, and_true, true_and]; omega))
       · (try simp only [qq, Nat.reduceBEq, reduceIte, Nat.reduceEqDiff, Nat.reduceAdd, Nat.reduceLeDiff, reduceCtorEq, Nat.reduceMul, Int.reduceToNat, hb7, hb16])
         all_goals (first | done | rfl | (simp only [AV.c.injEq, C.int.injEq, List.cons.injEq, and_true, true_and]; omega))
      case r27 =>
       rintro kk s hf ⟨f, m, acc, b, rfl, hq8_0, hq8_1, hq8_2, hq8_3, hq8_4, hq8_5, s27t6, s27t7, s27t8⟩ K27 hK27
       have s27f0 := hf 0 rfl (by (try simp only [qq, Nat.reduceBEq, reduceIte, Nat.reduceEqDiff, Nat.reduceAdd, Nat.reduceLeDiff, reduceCtorEq, Nat.reduceMul, Int.reduceToNat, kn, hb7, hb16]); all_goals rfl)
       simp only [qq, Nat.reduceBEq, reduceIte, Nat.reduceEqDiff, Nat.reduceAdd, Nat.reduceLeDiff, reduceCtorEq, Nat.reduceMul, Int.reduceToNat, hb7, hb16] at s27f0
       have s27f4 := hf 4 rfl (by (try simp only [qq, Nat.reduceBEq, reduceIte, Nat.reduceEqDiff, Nat.reduceAdd, Nat.reduceLeDiff, reduceCtorEq, Nat.reduceMul, Int.reduceToNat, kn, hb7, hb16]); all_goals rfl)
       simp only [qq, Nat.reduceBEq, reduceIte, Nat.reduceEqDiff, Nat.reduceAdd, Nat.reduceLeDiff, reduceCtorEq, Nat.reduceMul, Int.reduceToNat, hb7, hb16] at s27f4
       have s27f5 := hf 5 rfl (by (try simp only [qq, Nat.reduceBEq, reduceIte, Nat.reduceEqDiff, Nat.reduceAdd, Nat.reduceLeDiff, reduceCtorEq, Nat.reduceMul, Int.reduceToNat, kn, hb7, hb16]); all_goals rfl)
       simp only [qq, Nat.reduceBEq, reduceIte, Nat.reduceEqDiff, Nat.reduceAdd, Nat.reduceLeDiff, reduceCtorEq, Nat.reduceMul, Int.reduceToNat, hb7, hb16] at s27f5
       clear hf
       refine awp_seq_k fun K28 hK28 => ?_
       refine awp_seq_k fun K29 hK29 => ?_
       refine awp_region_lit fun L30 hL30 => ?_
       refine aops_orunN 2 _ _ ?_
       simp only [qq, Nat.reduceBEq, reduceIte, Nat.reduceEqDiff, Nat.reduceAdd, Nat.reduceLeDiff, reduceCtorEq, Nat.reduceMul, Int.reduceToNat, hb7, hb16, s27t6, s27t7, s27t8, s27f0, s27f4, s27f5]
       refine aops_part (b := ?p31) 24 ?h31 (fun hb31 => ?a31) (fun hb31 => ?b31)
       case h31 => simp only [qq, Nat.reduceBEq, reduceIte, Nat.reduceEqDiff, Nat.reduceAdd, Nat.reduceLeDiff, reduceCtorEq, Nat.reduceMul, Int.reduceToNat, hb7, hb16, s27t6, s27t7, s27t8, s27f0, s27f4, s27f5]; rfl
       case a31 =>
        have hp31 := hb31
        try simp only [kb] at hp31
        all_goals try exact absurd hb31 (by decide)
        all_goals try (exfalso; omega)
        all_goals
         try simp only [hb31]
         refine aops_orunN 3 _ _ ?_
         simp only [qq, Nat.reduceBEq, reduceIte, Nat.reduceEqDiff, Nat.reduceAdd, Nat.reduceLeDiff, reduceCtorEq, Nat.reduceMul, Int.reduceToNat, hb7, hb16, s27t6, s27t7, s27t8, s27f0, s27f4, s27f5, hb31]
         refine aops_nil (hL30 _ ?_)
         simp only [qq, Nat.reduceBEq, reduceIte, Nat.reduceEqDiff, Nat.reduceAdd, Nat.reduceLeDiff, reduceCtorEq, Nat.reduceMul, Int.reduceToNat, hb7, hb16, s27t6, s27t7, s27t8, s27f0, s27f4, s27f5, hb31]
         try simp only [rk_state]
         refine hK29 _ ?_
         as_aux_lemma =>
          refine awp_cond (t := true) (by simp only [qq, Nat.reduceBEq, reduceIte, Nat.reduceEqDiff, Nat.reduceAdd, Nat.reduceLeDiff, reduceCtorEq, Nat.reduceMul, Int.reduceToNat, hb7, hb16, s27t6, s27t7, s27t8, s27f0, s27f4, s27f5, hb31]) (fun _ => ?_) (fun h => ?_)
          case refine_2 => cases h
          refine awp_skip ?_
          try simp only [rk_state]
          refine hK28 _ ?_
          refine awp_seq_k fun K32 hK32 => ?_
          refine awp_block ?_
          refine awp_seq_k fun K33 hK33 => ?_
          have hbm : b = true ∨ m > 0 := by first | exact .inl (by assumption) | exact .inr (by omega)
          have sm : m.tmod 8 = m % 8 := Int.tmod_eq_emod_of_nonneg hq8_0
          have hf1 : 1 ≤ f := by rcases hbm with h9 | h9; exact hq8_5 h9; exact hq8_4 h9
          have hds := dig_step (f := f) (m := m) hf1 hq8_0
          refine awp_region_lit fun L34 hL34 => ?_
          refine aops_orunN 2 _ _ ?_
          simp only [qq, Nat.reduceBEq, reduceIte, Nat.reduceEqDiff, Nat.reduceAdd, Nat.reduceLeDiff, reduceCtorEq, Nat.reduceMul, Int.reduceToNat, hb7, hb16, s27t6, s27t7, s27t8, s27f0, s27f4, s27f5, hb31, sm]
          refine aops_val (v := ?v35) rfl ?h35 ?_
          case h35 => simp only [qq, Nat.reduceBEq, reduceIte, Nat.reduceEqDiff, Nat.reduceAdd, Nat.reduceLeDiff, reduceCtorEq, Nat.reduceMul, Int.reduceToNat, hb7, hb16, s27t6, s27t7, s27t8, s27f0, s27f4, s27f5, hb31, sm]; (rw [y_rem] <;> omega)
          simp only [qq, Nat.reduceBEq, reduceIte, Nat.reduceEqDiff, Nat.reduceAdd, Nat.reduceLeDiff, reduceCtorEq, Nat.reduceMul, Int.reduceToNat, hb7, hb16, s27t6, s27t7, s27t8, s27f0, s27f4, s27f5, hb31, sm]
          refine aops_orunN 1 _ _ ?_
          simp only [qq, Nat.reduceBEq, reduceIte, Nat.reduceEqDiff, Nat.reduceAdd, Nat.reduceLeDiff, reduceCtorEq, Nat.reduceMul, Int.reduceToNat, hb7, hb16, s27t6, s27t7, s27t8, s27f0, s27f4, s27f5, hb31, sm]
          refine aops_append (rows := ?rows36) (new := ?new36) rfl rfl rfl rfl rfl rfl un43 ?hx36 (by simp only [qq, Nat.reduceBEq, reduceIte, Nat.reduceEqDiff, Nat.reduceAdd, Nat.reduceLeDiff, reduceCtorEq, Nat.reduceMul, Int.reduceToNat, maskO, maskN, hb7, hb16, s27t6, s27t7, s27t8, s27f0, s27f4, s27f5, hb31, sm]) (by simp only [qq, Nat.reduceBEq, reduceIte, Nat.reduceEqDiff, Nat.reduceAdd, Nat.reduceLeDiff, reduceCtorEq, Nat.reduceMul, Int.reduceToNat, maskO, maskN, hb7, hb16, s27t6, s27t7, s27t8, s27f0, s27f4, s27f5, hb31, sm]) (by simp only [qq, Nat.reduceBEq, reduceIte, Nat.reduceEqDiff, Nat.reduceAdd, Nat.reduceLeDiff, reduceCtorEq, Nat.reduceMul, Int.reduceToNat, hb7, hb16, s27t6, s27t7, s27t8, s27f0, s27f4, s27f5, hb31, sm]) ?hy36 (by simp only [tyf]; rfl) (by simp only [tyf]; decide) ?hsz36 ?hml36 ?hh36
          case hx36 => simp only [qq, Nat.reduceBEq, reduceIte, Nat.reduceEqDiff, Nat.reduceAdd, Nat.reduceLeDiff, reduceCtorEq, Nat.reduceMul, Int.reduceToNat, AV.base, hb7, hb16, s27t6, s27t7, s27t8, s27f0, s27f4, s27f5, hb31, sm]; rfl
          case hy36 => simp only [qq, Nat.reduceBEq, reduceIte, Nat.reduceEqDiff, Nat.reduceAdd, Nat.reduceLeDiff, reduceCtorEq, Nat.reduceMul, Int.reduceToNat, hb7, hb16, s27t6, s27t7, s27t8, s27f0, s27f4, s27f5, hb31, sm]; rfl
          case hsz36 => ((try simp only [tyf, rwR, List.length_append, List.length_cons, List.length_nil, List.length_take, List.length_drop]); omega)
          case hml36 => ((try simp only [maxLen, tyf, rwR, List.length_append, List.length_cons, List.length_nil, List.length_take, List.length_drop]); omega)
          simp only [qq, Nat.reduceBEq, reduceIte, Nat.reduceEqDiff, Nat.reduceAdd, Nat.reduceLeDiff, reduceCtorEq, Nat.reduceMul, Int.reduceToNat, maskO, maskN, hb7, hb16, s27t6, s27t7, s27t8, s27f0, s27f4, s27f5, hb31, sm]
          refine aops_orunN 1 _ _ ?_
          simp only [qq, Nat.reduceBEq, reduceIte, Nat.reduceEqDiff, Nat.reduceAdd, Nat.reduceLeDiff, reduceCtorEq, Nat.reduceMul, Int.reduceToNat, hb7, hb16, s27t6, s27t7, s27t8, s27f0, s27f4, s27f5, hb31, sm]
          refine aops_nil (hL34 _ ?_)
          simp only [qq, Nat.reduceBEq, reduceIte, Nat.reduceEqDiff, Nat.reduceAdd, Nat.reduceLeDiff, reduceCtorEq, Nat.reduceMul, Int.reduceToNat, hb7, hb16, s27t6, s27t7, s27t8, s27f0, s27f4, s27f5, hb31, sm]
          try simp only [rk_state]
          refine hK33 _ ?_
          have hp8 := pow8 (k := f) (by omega)
          have sq : m.tdiv 8 = m / 8 := Int.tdiv_eq_ediv_of_nonneg hq8_0
          refine awp_region_lit fun L37 hL37 => ?_
          refine aops_orunN 1 _ _ ?_
          simp only [qq, Nat.reduceBEq, reduceIte, Nat.reduceEqDiff, Nat.reduceAdd, Nat.reduceLeDiff, reduceCtorEq, Nat.reduceMul, Int.reduceToNat, hb7, hb16, s27t6, s27t7, s27t8, s27f0, s27f4, s27f5, hb31, sm, sq]
          refine aops_val (v := ?v38) rfl ?h38 ?_
          case h38 => simp only [qq, Nat.reduceBEq, reduceIte, Nat.reduceEqDiff, Nat.reduceAdd, Nat.reduceLeDiff, reduceCtorEq, Nat.reduceMul, Int.reduceToNat, hb7, hb16, s27t6, s27t7, s27t8, s27f0, s27f4, s27f5, hb31, sm, sq]; (rw [y_quo (by omega), sq, wr_id] <;> omega)
          simp only [qq, Nat.reduceBEq, reduceIte, Nat.reduceEqDiff, Nat.reduceAdd, Nat.reduceLeDiff, reduceCtorEq, Nat.reduceMul, Int.reduceToNat, hb7, hb16, s27t6, s27t7, s27t8, s27f0, s27f4, s27f5, hb31, sm, sq]
          refine aops_orunN 1 _ _ ?_
          simp only [qq, Nat.reduceBEq, reduceIte, Nat.reduceEqDiff, Nat.reduceAdd, Nat.reduceLeDiff, reduceCtorEq, Nat.reduceMul, Int.reduceToNat, hb7, hb16, s27t6, s27t7, s27t8, s27f0, s27f4, s27f5, hb31, sm, sq]
          refine aops_nil (hL37 _ ?_)
          simp only [qq, Nat.reduceBEq, reduceIte, Nat.reduceEqDiff, Nat.reduceAdd, Nat.reduceLeDiff, reduceCtorEq, Nat.reduceMul, Int.reduceToNat, hb7, hb16, s27t6, s27t7, s27t8, s27f0, s27f4, s27f5, hb31, sm, sq]
          try simp only [rk_state]
          try simp only [rk_state]
          refine hK32 _ ?_
          refine awp_region_lit fun L39 hL39 => ?_
          refine aops_orunN 1 _ _ ?_
          simp only [qq, Nat.reduceBEq, reduceIte, Nat.reduceEqDiff, Nat.reduceAdd, Nat.reduceLeDiff, reduceCtorEq, Nat.reduceMul, Int.reduceToNat, hb7, hb16, s27t6, s27t7, s27t8, s27f0, s27f4, s27f5, hb31, sm, sq]
          refine aops_nil (hL39 _ ?_)
          simp only [qq, Nat.reduceBEq, reduceIte, Nat.reduceEqDiff, Nat.reduceAdd, Nat.reduceLeDiff, reduceCtorEq, Nat.reduceMul, Int.reduceToNat, hb7, hb16, s27t6, s27t7, s27t8, s27f0, s27f4, s27f5, hb31, sm, sq]
          try simp only [rk_state]
          refine hK27 _ ((fun (f : Nat) (m : Int) (acc : List Int) (b : Bool) => 1 + f) (f - 1) (m / 8) (acc ++ [m % 8]) (false)) ?_ ⟨f - 1, m / 8, acc ++ [m % 8], false, rfl, ?_, ?_, ?_, ?_, ?_, ?_, ?_, ?_, ?_⟩
          · (try simp only []); omega
          · omega
          · (refine ⟨?_, by omega⟩; obtain ⟨g, rfl⟩ : ∃ g, f = g + 1 := ⟨f - 1, by omega⟩; have h9 := hq8_1.1; rw [Int.pow_succ] at h9; simp only [Nat.add_sub_cancel]; omega)
          · (rw [List.length_append]; simp only [List.length_cons, List.length_nil]; omega)
          · (rw [← hq8_3, if_pos hbm, hds, List.append_assoc]; simp only [Bool.false_eq_true, false_or]; rfl)
          · (intro h7; obtain ⟨h8, _⟩ := div8_lt hq8_1.1 (by omega); omega)
          · (intro h7; cases h7)
          · (try simp only [qq, Nat.reduceBEq, reduceIte, Nat.reduceEqDiff, Nat.reduceAdd, Nat.reduceLeDiff, reduceCtorEq, Nat.reduceMul, Int.reduceToNat, hb7, hb16, s27t6, s27t7, s27t8, s27f0, s27f4, s27f5, hb31, sm, sq])
            all_goals (first | done | rfl | (simp only [AV.c.injEq, C.int.injEq, List.cons.injEq, and_true, true_and]; omega))
          · (try simp only [qq, Nat.reduceBEq, reduceIte, Nat.reduceEqDiff, Nat.reduceAdd, Nat.reduceLeDiff, reduceCtorEq, Nat.reduceMul, Int.reduceToNat, hb7, hb16, s27t6, s27t7, s27t8, s27f0, s27f4, s27f5, hb31, sm, sq])
            all_goals (first | done | rfl | (simp only [AV.c.injEq, C.int.injEq, List.cons.injEq, and_true, true_and]; omega))
          · (try simp only [qq, Nat.reduceBEq, reduceIte, Nat.reduceEqDiff, Nat.reduceAdd, Nat.reduceLeDiff, reduceCtorEq, Nat.reduceMul, Int.reduceToNat, hb7, hb16, s27t6, s27t7, s27t8, s27f0, s27f4, s27f5, hb31, sm, sq])
            all_goals (first | done | rfl | (simp only [AV.c.injEq, C.int.injEq, List.cons.injEq, and_true, true_and]; omega))
       case b31 =>
        have hp31 := hb31
        try simp only [kb] at hp31
        all_goals try exact absurd hb31 (by decide)
        all_goals try (exfalso; omega)
        all_goals
         try simp only [hb31]
         refine aops_orunN 3 _ _ ?_
         simp only [qq, Nat.reduceBEq, reduceIte, Nat.reduceEqDiff, Nat.reduceAdd, Nat.reduceLeDiff, reduceCtorEq, Nat.reduceMul, Int.reduceToNat, hb7, hb16, s27t6, s27t7, s27t8, s27f0, s27f4, s27f5, hb31]
         refine aops_nil (hL30 _ ?_)
         simp only [qq, Nat.reduceBEq, reduceIte, Nat.reduceEqDiff, Nat.reduceAdd, Nat.reduceLeDiff, reduceCtorEq, Nat.reduceMul, Int.reduceToNat, hb7, hb16, s27t6, s27t7, s27t8, s27f0, s27f4, s27f5, hb31]
         try simp only [rk_state]
         refine hK29 _ ?_
         as_aux_lemma =>
          refine awp_cond (t := ?t40) ?h40 (fun hb40 => ?a40) (fun hb40 => ?b40)
          case h40 => simp only [qq, Nat.reduceBEq, reduceIte, Nat.reduceEqDiff, Nat.reduceAdd, Nat.reduceLeDiff, reduceCtorEq, Nat.reduceMul, Int.reduceToNat, hb7, hb16, s27t6, s27t7, s27t8, s27f0, s27f4, s27f5, hb31]; rfl
          case a40 =>
           have hp40 := hb40
           try simp only [kb] at hp40
           all_goals try exact absurd hb40 (by decide)
           all_goals try (exfalso; omega)
           all_goals
            refine awp_skip ?_
            try simp only [rk_state]
            refine hK28 _ ?_
            refine awp_seq_k fun K41 hK41 => ?_
            refine awp_block ?_
            refine awp_seq_k fun K42 hK42 => ?_
            have hbm : b = true ∨ m > 0 := by first | exact .inl (by assumption) | exact .inr (by omega)
            have sm : m.tmod 8 = m % 8 := Int.tmod_eq_emod_of_nonneg hq8_0
            have hf1 : 1 ≤ f := by rcases hbm with h9 | h9; exact hq8_5 h9; exact hq8_4 h9
            have hds := dig_step (f := f) (m := m) hf1 hq8_0
            refine awp_region_lit fun L43 hL43 => ?_
            refine aops_orunN 2 _ _ ?_
            simp only [qq, Nat.reduceBEq, reduceIte, Nat.reduceEqDiff, Nat.reduceAdd, Nat.reduceLeDiff, reduceCtorEq, Nat.reduceMul, Int.reduceToNat, hb7, hb16, s27t6, s27t7, s27t8, s27f0, s27f4, s27f5, hb31, hb40, sm]
            refine aops_val (v := ?v44) rfl ?h44 ?_
            case h44 => simp only [qq, Nat.reduceBEq, reduceIte, Nat.reduceEqDiff, Nat.reduceAdd, Nat.reduceLeDiff, reduceCtorEq, Nat.reduceMul, Int.reduceToNat, hb7, hb16, s27t6, s27t7, s27t8, s27f0, s27f4, s27f5, hb31, hb40, sm]; (rw [y_rem] <;> omega)
            simp only [qq, Nat.reduceBEq, reduceIte, Nat.reduceEqDiff, Nat.reduceAdd, Nat.reduceLeDiff, reduceCtorEq, Nat.reduceMul, Int.reduceToNat, hb7, hb16, s27t6, s27t7, s27t8, s27f0, s27f4, s27f5, hb31, hb40, sm]
            refine aops_orunN 1 _ _ ?_
            simp only [qq, Nat.reduceBEq, reduceIte, Nat.reduceEqDiff, Nat.reduceAdd, Nat.reduceLeDiff, reduceCtorEq, Nat.reduceMul, Int.reduceToNat, hb7, hb16, s27t6, s27t7, s27t8, s27f0, s27f4, s27f5, hb31, hb40, sm]
            refine aops_append (rows := ?rows45) (new := ?new45) rfl rfl rfl rfl rfl rfl un43 ?hx45 (by simp only [qq, Nat.reduceBEq, reduceIte, Nat.reduceEqDiff, Nat.reduceAdd, Nat.reduceLeDiff, reduceCtorEq, Nat.reduceMul, Int.reduceToNat, maskO, maskN, hb7, hb16, s27t6, s27t7, s27t8, s27f0, s27f4, s27f5, hb31, hb40, sm]) (by simp only [qq, Nat.reduceBEq, reduceIte, Nat.reduceEqDiff, Nat.reduceAdd, Nat.reduceLeDiff, reduceCtorEq, Nat.reduceMul, Int.reduceToNat, maskO, maskN, hb7, hb16, s27t6, s27t7, s27t8, s27f0, s27f4, s27f5, hb31, hb40, sm]) (by simp only [qq, Nat.reduceBEq, reduceIte, Nat.reduceEqDiff, Nat.reduceAdd, Nat.reduceLeDiff, reduceCtorEq, Nat.reduceMul, Int.reduceToNat, hb7, hb16, s27t6, s27t7, s27t8, s27f0, s27f4, s27f5, hb31, hb40, sm]) ?hy45 (by simp only [tyf]; rfl) (by simp only [tyf]; decide) ?hsz45 ?hml45 ?hh45
            case hx45 => simp only [qq, Nat.reduceBEq, reduceIte, Nat.reduceEqDiff, Nat.reduceAdd, Nat.reduceLeDiff, reduceCtorEq, Nat.reduceMul, Int.reduceToNat, AV.base, hb7, hb16, s27t6, s27t7, s27t8, s27f0, s27f4, s27f5, hb31, hb40, sm]; rfl
            case hy45 => simp only [qq, Nat.reduceBEq, reduceIte, Nat.reduceEqDiff, Nat.reduceAdd, Nat.reduceLeDiff, reduceCtorEq, Nat.reduceMul, Int.reduceToNat, hb7, hb16, s27t6, s27t7, s27t8, s27f0, s27f4, s27f5, hb31, hb40, sm]; rfl
            case hsz45 => ((try simp only [tyf, rwR, List.length_append, List.length_cons, List.length_nil, List.length_take, List.length_drop]); omega)
            case hml45 => ((try simp only [maxLen, tyf, rwR, List.length_append, List.length_cons, List.length_nil, List.length_take, List.length_drop]); omega)
            simp only [qq, Nat.reduceBEq, reduceIte, Nat.reduceEqDiff, Nat.reduceAdd, Nat.reduceLeDiff, reduceCtorEq, Nat.reduceMul, Int.reduceToNat, maskO, maskN, hb7, hb16, s27t6, s27t7, s27t8, s27f0, s27f4, s27f5, hb31, hb40, sm]
            refine aops_orunN 1 _ _ ?_
            simp only [qq, Nat.reduceBEq, reduceIte, Nat.reduceEqDiff, Nat.reduceAdd, Nat.reduceLeDiff, reduceCtorEq, Nat.reduceMul, Int.reduceToNat, hb7, hb16, s27t6, s27t7, s27t8, s27f0, s27f4, s27f5, hb31, hb40, sm]
            refine aops_nil (hL43 _ ?_)
            simp only [qq, Nat.reduceBEq, reduceIte, Nat.reduceEqDiff, Nat.reduceAdd, Nat.reduceLeDiff, reduceCtorEq, Nat.reduceMul, Int.reduceToNat, hb7, hb16, s27t6, s27t7, s27t8, s27f0, s27f4, s27f5, hb31, hb40, sm]
            try simp only [rk_state]
            refine hK42 _ ?_
            have hp8 := pow8 (k := f) (by omega)
            have sq : m.tdiv 8 = m / 8 := Int.tdiv_eq_ediv_of_nonneg hq8_0
            refine awp_region_lit fun L46 hL46 => ?_
            refine aops_orunN 1 _ _ ?_
            simp only [qq, Nat.reduceBEq, reduceIte, Nat.reduceEqDiff, Nat.reduceAdd, Nat.reduceLeDiff, reduceCtorEq, Nat.reduceMul, Int.reduceToNat, hb7, hb16, s27t6, s27t7, s27t8, s27f0, s27f4, s27f5, hb31, hb40, sm, sq]
            refine aops_val (v := ?v47) rfl ?h47 ?_
            case h47 => simp only [qq, Nat.reduceBEq, reduceIte, Nat.reduceEqDiff, Nat.reduceAdd, Nat.reduceLeDiff, reduceCtorEq, Nat.reduceMul, Int.reduceToNat, hb7, hb16, s27t6, s27t7, s27t8, s27f0, s27f4, s27f5, hb31, hb40, sm, sq]; (rw [y_quo (by omega), sq, wr_id] <;> omega)
            simp only [qq, Nat.reduceBEq, reduceIte, Nat.reduceEqDiff, Nat.reduceAdd, Nat.reduceLeDiff, reduceCtorEq, Nat.reduceMul, Int.reduceToNat, hb7, hb16, s27t6, s27t7, s27t8, s27f0, s27f4, s27f5, hb31, hb40, sm, sq]
            refine aops_orunN 1 _ _ ?_
            simp only [qq, Nat.reduceBEq, reduceIte, Nat.reduceEqDiff, Nat.reduceAdd, Nat.reduceLeDiff, reduceCtorEq, Nat.reduceMul, Int.reduceToNat, hb7, hb16, s27t6, s27t7, s27t8, s27f0, s27f4, s27f5, hb31, hb40, sm, sq]
            refine aops_nil (hL46 _ ?_)
            simp only [qq, Nat.reduceBEq, reduceIte, Nat.reduceEqDiff, Nat.reduceAdd, Nat.reduceLeDiff, reduceCtorEq, Nat.reduceMul, Int.reduceToNat, hb7, hb16, s27t6, s27t7, s27t8, s27f0, s27f4, s27f5, hb31, hb40, sm, sq]
            try simp only [rk_state]
            try simp only [rk_state]
            refine hK41 _ ?_
            refine awp_region_lit fun L48 hL48 => ?_
            refine aops_orunN 1 _ _ ?_
            simp only [qq, Nat.reduceBEq, reduceIte, Nat.reduceEqDiff, Nat.reduceAdd, Nat.reduceLeDiff, reduceCtorEq, Nat.reduceMul, Int.reduceToNat, hb7, hb16, s27t6, s27t7, s27t8, s27f0, s27f4, s27f5, hb31, hb40, sm, sq]
            refine aops_nil (hL48 _ ?_)
            simp only [qq, Nat.reduceBEq, reduceIte, Nat.reduceEqDiff, Nat.reduceAdd, Nat.reduceLeDiff, reduceCtorEq, Nat.reduceMul, Int.reduceToNat, hb7, hb16, s27t6, s27t7, s27t8, s27f0, s27f4, s27f5, hb31, hb40, sm, sq]
            try simp only [rk_state]
            refine hK27 _ ((fun (f : Nat) (m : Int) (acc : List Int) (b : Bool) => 1 + f) (f - 1) (m / 8) (acc ++ [m % 8]) (false)) ?_ ⟨f - 1, m / 8, acc ++ [m % 8], false, rfl, ?_, ?_, ?_, ?_, ?_, ?_, ?_, ?_, ?_⟩
            · (try simp only []); omega
            · omega
            · (refine ⟨?_, by omega⟩; obtain ⟨g, rfl⟩ : ∃ g, f = g + 1 := ⟨f - 1, by omega⟩; have h9 := hq8_1.1; rw [Int.pow_succ] at h9; simp only [Nat.add_sub_cancel]; omega)
            · (rw [List.length_append]; simp only [List.length_cons, List.length_nil]; omega)
            · (rw [← hq8_3, if_pos hbm, hds, List.append_assoc]; simp only [Bool.false_eq_true, false_or]; rfl)
            · (intro h7; obtain ⟨h8, _⟩ := div8_lt hq8_1.1 (by omega); omega)
            · (intro h7; cases h7)
            · (try simp only [qq, Nat.reduceBEq, reduceIte, Nat.reduceEqDiff, Nat.reduceAdd, Nat.reduceLeDiff, reduceCtorEq, Nat.reduceMul, Int.reduceToNat, hb7, hb16, s27t6, s27t7, s27t8, s27f0, s27f4, s27f5, hb31, hb40, sm, sq])
              all_goals (first | done | rfl | (simp only [AV.c.injEq, C.int.injEq, List.cons.injEq, and_true, true_and]; omega))
            · (try simp only [qq, Nat.reduceBEq, reduceIte, Nat.reduceEqDiff, Nat.reduceAdd, Nat.reduceLeDiff, reduceCtorEq, Nat.reduceMul, Int.reduceToNat, hb7, hb16, s27t6, s27t7, s27t8, s27f0, s27f4, s27f5, hb31, hb40, sm, sq])
              all_goals (first | done | rfl | (simp only [AV.c.injEq, C.int.injEq, List.cons.injEq, and_true, true_and]; omega))
            · (try simp only [qq, Nat.reduceBEq, reduceIte, Nat.reduceEqDiff, Nat.reduceAdd, Nat.reduceLeDiff, reduceCtorEq, Nat.reduceMul, Int.reduceToNat, hb7, hb16, s27t6, s27t7, s27t8, s27f0, s27f4, s27f5, hb31, hb40, sm, sq])
              all_goals (first | done | rfl | (simp only [AV.c.injEq, C.int.injEq, List.cons.injEq, and_true, true_and]; omega))
          case b40 =>
           have hp40 := hb40
           try simp only [kb] at hp40
           all_goals try exact absurd hb40 (by decide)
           all_goals try (exfalso; omega)
           all_goals
            refine awp_exit ?_
            simp only [rk_state, reduceIte, Nat.reduceEqDiff]
            try simp only [rk_state]
            refine hK24 _ ?_
            as_aux_lemma =>
             refine awp_seq_k fun K49 hK49 => ?_
             have hacc : acc = dig 8 (foldN v) := by rw [← hq8_3, if_neg (by rcases b with _ | _ <;> simp_all <;> omega), List.append_nil]
             have hal : acc.length ≤ 8 := by omega
             refine awp_region_lit fun L50 hL50 => ?_
             refine aops_orunN 1 _ _ ?_
             simp only [qq, Nat.reduceBEq, reduceIte, Nat.reduceEqDiff, Nat.reduceAdd, Nat.reduceLeDiff, reduceCtorEq, Nat.reduceMul, Int.reduceToNat, hb7, hb16, s27t6, s27t7, s27t8, s27f0, s27f4, s27f5, hb31, hb40]
             refine aops_call_own (clone_bool_fun _ ?s51_0) rfl rfl rfl rfl (by (try simp only [qq, Nat.reduceBEq, reduceIte, Nat.reduceEqDiff, Nat.reduceAdd, Nat.reduceLeDiff, reduceCtorEq, Nat.reduceMul, Int.reduceToNat, hb7, hb16, s27t6, s27t7, s27t8, s27f0, s27f4, s27f5, hb31, hb40]); (repeat' (first | exact .nil | exact wk_c | exact wk_ownc | exact wk_nilsc | exact wk_nils | exact wk_fn | refine .cons ?_ ?_ | refine wk_agg ?_ | refine wk_fnL ?_))) rfl rfl rfl (by simp only [qq, Nat.reduceBEq, reduceIte, Nat.reduceEqDiff, Nat.reduceAdd, Nat.reduceLeDiff, reduceCtorEq, Nat.reduceMul, Int.reduceToNat, hb7, hb16, s27t6, s27t7, s27t8, s27f0, s27f4, s27f5, hb31, hb40]) ?m51
             case s51_0 => first | assumption | omega | decide +kernel | (simp only [List.length_take, List.length_drop]; omega)
             simp only [qq, Nat.reduceBEq, reduceIte, Nat.reduceEqDiff, Nat.reduceAdd, Nat.reduceLeDiff, reduceCtorEq, Nat.reduceMul, Int.reduceToNat, AV.setOwn, AV.setOwn1, hb7, hb16, s27t6, s27t7, s27t8, s27f0, s27f4, s27f5, hb31, hb40]
             refine aops_orunN 1 _ _ ?_
             simp only [qq, Nat.reduceBEq, reduceIte, Nat.reduceEqDiff, Nat.reduceAdd, Nat.reduceLeDiff, reduceCtorEq, Nat.reduceMul, Int.reduceToNat, hb7, hb16, s27t6, s27t7, s27t8, s27f0, s27f4, s27f5, hb31, hb40]
             refine aops_nil (hL50 _ ?_)
             simp only [qq, Nat.reduceBEq, reduceIte, Nat.reduceEqDiff, Nat.reduceAdd, Nat.reduceLeDiff, reduceCtorEq, Nat.reduceMul, Int.reduceToNat, hb7, hb16, s27t6, s27t7, s27t8, s27f0, s27f4, s27f5, hb31, hb40]
             try simp only [rk_state]
             refine hK49 _ ?_
             refine awp_seq_k fun K52 hK52 => ?_
             refine awp_seq_k fun K53 hK53 => ?_
             refine awp_region_lit fun L54 hL54 => ?_
             refine aops_orunN 3 _ _ ?_
             simp only [qq, Nat.reduceBEq, reduceIte, Nat.reduceEqDiff, Nat.reduceAdd, Nat.reduceLeDiff, reduceCtorEq, Nat.reduceMul, Int.reduceToNat, hb7, hb16, s27t6, s27t7, s27t8, s27f0, s27f4, s27f5, hb31, hb40]
             refine aops_nil (hL54 _ ?_)
             simp only [qq, Nat.reduceBEq, reduceIte, Nat.reduceEqDiff, Nat.reduceAdd, Nat.reduceLeDiff, reduceCtorEq, Nat.reduceMul, Int.reduceToNat, hb7, hb16, s27t6, s27t7, s27t8, s27f0, s27f4, s27f5, hb31, hb40]
             try simp only [rk_state]
             refine hK53 _ ?_
             refine awp_block ?_
             refine awp_loopW (W := [40, 41, 42, 43, 10, 11, 44, 45, 46, 47, 48, 49, 50, 51, 52, 53, 54, 55, 56, 57, 58, 59, 9, 60, 39]) (M := []) rfl rfl (fun kk s => ∃ (i : Nat) (d : Nat), kk = acc.length - i ∧ (i ≤ acc.length) ∧ s.t 9 = .own false d 4 (Rw boC (l ++ codeAt acc i)) ∧ s.t 39 = .c (.int .i64 (i : Int))) ((fun (i : Nat) (d : Nat) => acc.length - i) (0) (36)) ?i55 ?r55
             case i55 =>
              refine ⟨0, 36, rfl, ?_, ?_, ?_⟩
              · first | omega | simp
              · (try simp only [qq, Nat.reduceBEq, reduceIte, Nat.reduceEqDiff, Nat.reduceAdd, Nat.reduceLeDiff, reduceCtorEq, Nat.reduceMul, Int.reduceToNat, hb7, hb16, s27t6, s27t7, s27t8, s27f0, s27f4, s27f5, hb31, hb40])
                all_goals (rw [show codeAt acc 0 = [] from rfl, List.append_nil])
              · (try simp only [qq, Nat.reduceBEq, reduceIte, Nat.reduceEqDiff, Nat.reduceAdd, Nat.reduceLeDiff, reduceCtorEq, Nat.reduceMul, Int.reduceToNat, hb7, hb16, s27t6, s27t7, s27t8, s27f0, s27f4, s27f5, hb31, hb40])
                all_goals (first | done | rfl | (simp only [AV.c.injEq, C.int.injEq, List.cons.injEq, and_true, true_and]; omega))
             case r55 =>
              rintro kk s hf ⟨i, d, rfl, hq14_0, s55t9, s55t39⟩ K55 hK55
              have s55f4 := hf 4 rfl (by (try simp only [qq, Nat.reduceBEq, reduceIte, Nat.reduceEqDiff, Nat.reduceAdd, Nat.reduceLeDiff, reduceCtorEq, Nat.reduceMul, Int.reduceToNat, kn, hb7, hb16, s27t6, s27t7, s27t8, s27f0, s27f4, s27f5, hb31, hb40]); all_goals rfl)
              simp only [qq, Nat.reduceBEq, reduceIte, Nat.reduceEqDiff, Nat.reduceAdd, Nat.reduceLeDiff, reduceCtorEq, Nat.reduceMul, Int.reduceToNat, hb7, hb16, s27t6, s27t7, s27t8, s27f0, s27f4, s27f5, hb31, hb40] at s55f4
              have s55f5 := hf 5 rfl (by (try simp only [qq, Nat.reduceBEq, reduceIte, Nat.reduceEqDiff, Nat.reduceAdd, Nat.reduceLeDiff, reduceCtorEq, Nat.reduceMul, Int.reduceToNat, kn, hb7, hb16, s27t6, s27t7, s27t8, s27f0, s27f4, s27f5, hb31, hb40]); all_goals rfl)
              simp only [qq, Nat.reduceBEq, reduceIte, Nat.reduceEqDiff, Nat.reduceAdd, Nat.reduceLeDiff, reduceCtorEq, Nat.reduceMul, Int.reduceToNat, hb7, hb16, s27t6, s27t7, s27t8, s27f0, s27f4, s27f5, hb31, hb40] at s55f5
              have s55f7 := hf 7 rfl (by (try simp only [qq, Nat.reduceBEq, reduceIte, Nat.reduceEqDiff, Nat.reduceAdd, Nat.reduceLeDiff, reduceCtorEq, Nat.reduceMul, Int.reduceToNat, kn, hb7, hb16, s27t6, s27t7, s27t8, s27f0, s27f4, s27f5, hb31, hb40]); all_goals rfl)
              simp only [qq, Nat.reduceBEq, reduceIte, Nat.reduceEqDiff, Nat.reduceAdd, Nat.reduceLeDiff, reduceCtorEq, Nat.reduceMul, Int.reduceToNat, hb7, hb16, s27t6, s27t7, s27t8, s27f0, s27f4, s27f5, hb31, hb40] at s55f7
              have s55f37 := hf 37 rfl (by (try simp only [qq, Nat.reduceBEq, reduceIte, Nat.reduceEqDiff, Nat.reduceAdd, Nat.reduceLeDiff, reduceCtorEq, Nat.reduceMul, Int.reduceToNat, kn, hb7, hb16, s27t6, s27t7, s27t8, s27f0, s27f4, s27f5, hb31, hb40]); all_goals rfl)
              simp only [qq, Nat.reduceBEq, reduceIte, Nat.reduceEqDiff, Nat.reduceAdd, Nat.reduceLeDiff, reduceCtorEq, Nat.reduceMul, Int.reduceToNat, hb7, hb16, s27t6, s27t7, s27t8, s27f0, s27f4, s27f5, hb31, hb40] at s55f37
              have s55f38 := hf 38 rfl (by (try simp only [qq, Nat.reduceBEq, reduceIte, Nat.reduceEqDiff, Nat.reduceAdd, Nat.reduceLeDiff, reduceCtorEq, Nat.reduceMul, Int.reduceToNat, kn, hb7, hb16, s27t6, s27t7, s27t8, s27f0, s27f4, s27f5, hb31, hb40]); all_goals rfl)
              simp only [qq, Nat.reduceBEq, reduceIte, Nat.reduceEqDiff, Nat.reduceAdd, Nat.reduceLeDiff, reduceCtorEq, Nat.reduceMul, Int.reduceToNat, hb7, hb16, s27t6, s27t7, s27t8, s27f0, s27f4, s27f5, hb31, hb40] at s55f38
              clear hf
              refine awp_seq_k fun K56 hK56 => ?_
              have hcl := codeAt_len acc i
              refine awp_region_lit fun L57 hL57 => ?_
              refine aops_orunN 1 _ _ ?_
              simp only [qq, Nat.reduceBEq, reduceIte, Nat.reduceEqDiff, Nat.reduceAdd, Nat.reduceLeDiff, reduceCtorEq, Nat.reduceMul, Int.reduceToNat, hb7, hb16, s27t6, s27t7, s27t8, s27f0, s27f4, s27f5, hb31, hb40, s55t9, s55t39, s55f4, s55f5, s55f7, s55f37, s55f38]
              refine aops_nil (hL57 _ ?_)
              simp only [qq, Nat.reduceBEq, reduceIte, Nat.reduceEqDiff, Nat.reduceAdd, Nat.reduceLeDiff, reduceCtorEq, Nat.reduceMul, Int.reduceToNat, hb7, hb16, s27t6, s27t7, s27t8, s27f0, s27f4, s27f5, hb31, hb40, s55t9, s55t39, s55f4, s55f5, s55f7, s55f37, s55f38]
              try simp only [rk_state]
              refine hK56 _ ?_
              as_aux_lemma =>
               refine awp_seq_k fun K58 hK58 => ?_
               refine awp_cond (t := ?t59) ?h59 (fun hb59 => ?a59) (fun hb59 => ?b59)
               case h59 => simp only [qq, Nat.reduceBEq, reduceIte, Nat.reduceEqDiff, Nat.reduceAdd, Nat.reduceLeDiff, reduceCtorEq, Nat.reduceMul, Int.reduceToNat, hb7, hb16, s27t6, s27t7, s27t8, s27f0, s27f4, s27f5, hb31, hb40, s55t9, s55t39, s55f4, s55f5, s55f7, s55f37, s55f38]; rfl
               case a59 =>
                have hp59 := hb59
                try simp only [kb] at hp59
                all_goals try exact absurd hb59 (by decide)
                all_goals try (exfalso; omega)
                all_goals
                 refine awp_skip ?_
                 try simp only [rk_state]
                 refine hK58 _ ?_
                 refine awp_seq_k fun K60 hK60 => ?_
                 refine awp_block ?_
                 refine awp_seq_k fun K61 hK61 => ?_
                 refine awp_region_lit fun L62 hL62 => ?_
                 refine aops_orunN 1 _ _ ?_
                 simp only [qq, Nat.reduceBEq, reduceIte, Nat.reduceEqDiff, Nat.reduceAdd, Nat.reduceLeDiff, reduceCtorEq, Nat.reduceMul, Int.reduceToNat, hb7, hb16, s27t6, s27t7, s27t8, s27f0, s27f4, s27f5, hb31, hb40, s55t9, s55t39, s55f4, s55f5, s55f7, s55f37, s55f38, hb59]
                 refine aops_val (v := ?v63) rfl ?h63 ?_
                 case h63 => simp only [qq, Nat.reduceBEq, reduceIte, Nat.reduceEqDiff, Nat.reduceAdd, Nat.reduceLeDiff, reduceCtorEq, Nat.reduceMul, Int.reduceToNat, hb7, hb16, s27t6, s27t7, s27t8, s27f0, s27f4, s27f5, hb31, hb40, s55t9, s55t39, s55f4, s55f5, s55f7, s55f37, s55f38, hb59]; first | (rw [idx_c un43 if3] <;> omega) | (rw [idx_o un43 if3] <;> omega) | (rw [idx_a un43 if3] <;> omega)
                 simp only [qq, Nat.reduceBEq, reduceIte, Nat.reduceEqDiff, Nat.reduceAdd, Nat.reduceLeDiff, reduceCtorEq, Nat.reduceMul, Int.reduceToNat, hb7, hb16, s27t6, s27t7, s27t8, s27f0, s27f4, s27f5, hb31, hb40, s55t9, s55t39, s55f4, s55f5, s55f7, s55f37, s55f38, hb59]
                 refine aops_orunN 3 _ _ ?_
                 simp only [qq, Nat.reduceBEq, reduceIte, Nat.reduceEqDiff, Nat.reduceAdd, Nat.reduceLeDiff, reduceCtorEq, Nat.reduceMul, Int.reduceToNat, hb7, hb16, s27t6, s27t7, s27t8, s27f0, s27f4, s27f5, hb31, hb40, s55t9, s55t39, s55f4, s55f5, s55f7, s55f37, s55f38, hb59]
                 refine aops_nil (hL62 _ ?_)
                 simp only [qq, Nat.reduceBEq, reduceIte, Nat.reduceEqDiff, Nat.reduceAdd, Nat.reduceLeDiff, reduceCtorEq, Nat.reduceMul, Int.reduceToNat, hb7, hb16, s27t6, s27t7, s27t8, s27f0, s27f4, s27f5, hb31, hb40, s55t9, s55t39, s55f4, s55f5, s55f7, s55f37, s55f38, hb59]
                 try simp only [rk_state]
                 refine hK61 _ ?_
                 refine awp_region_lit fun L64 hL64 => ?_
                 refine aops_orunN 4 _ _ ?_
                 simp only [qq, Nat.reduceBEq, reduceIte, Nat.reduceEqDiff, Nat.reduceAdd, Nat.reduceLeDiff, reduceCtorEq, Nat.reduceMul, Int.reduceToNat, hb7, hb16, s27t6, s27t7, s27t8, s27f0, s27f4, s27f5, hb31, hb40, s55t9, s55t39, s55f4, s55f5, s55f7, s55f37, s55f38, hb59]
                 refine aops_val (v := ?v65) rfl ?h65 ?_
                 case h65 => simp only [qq, Nat.reduceBEq, reduceIte, Nat.reduceEqDiff, Nat.reduceAdd, Nat.reduceLeDiff, reduceCtorEq, Nat.reduceMul, Int.reduceToNat, hb7, hb16, s27t6, s27t7, s27t8, s27f0, s27f4, s27f5, hb31, hb40, s55t9, s55t39, s55f4, s55f5, s55f7, s55f37, s55f38, hb59]; first | (rw [wr_id] <;> omega) | rfl
                 simp only [qq, Nat.reduceBEq, reduceIte, Nat.reduceEqDiff, Nat.reduceAdd, Nat.reduceLeDiff, reduceCtorEq, Nat.reduceMul, Int.reduceToNat, hb7, hb16, s27t6, s27t7, s27t8, s27f0, s27f4, s27f5, hb31, hb40, s55t9, s55t39, s55f4, s55f5, s55f7, s55f37, s55f38, hb59]
                 refine aops_orunN 4 _ _ ?_
                 simp only [qq, Nat.reduceBEq, reduceIte, Nat.reduceEqDiff, Nat.reduceAdd, Nat.reduceLeDiff, reduceCtorEq, Nat.reduceMul, Int.reduceToNat, hb7, hb16, s27t6, s27t7, s27t8, s27f0, s27f4, s27f5, hb31, hb40, s55t9, s55t39, s55f4, s55f5, s55f7, s55f37, s55f38, hb59]
                 refine aops_val (v := ?v66) rfl ?h66 ?_
                 case h66 => simp only [qq, Nat.reduceBEq, reduceIte, Nat.reduceEqDiff, Nat.reduceAdd, Nat.reduceLeDiff, reduceCtorEq, Nat.reduceMul, Int.reduceToNat, hb7, hb16, s27t6, s27t7, s27t8, s27f0, s27f4, s27f5, hb31, hb40, s55t9, s55t39, s55f4, s55f5, s55f7, s55f37, s55f38, hb59]; (rw [y_rem] <;> omega)
                 simp only [qq, Nat.reduceBEq, reduceIte, Nat.reduceEqDiff, Nat.reduceAdd, Nat.reduceLeDiff, reduceCtorEq, Nat.reduceMul, Int.reduceToNat, hb7, hb16, s27t6, s27t7, s27t8, s27f0, s27f4, s27f5, hb31, hb40, s55t9, s55t39, s55f4, s55f5, s55f7, s55f37, s55f38, hb59]
                 refine aops_orunN 2 _ _ ?_
                 simp only [qq, Nat.reduceBEq, reduceIte, Nat.reduceEqDiff, Nat.reduceAdd, Nat.reduceLeDiff, reduceCtorEq, Nat.reduceMul, Int.reduceToNat, hb7, hb16, s27t6, s27t7, s27t8, s27f0, s27f4, s27f5, hb31, hb40, s55t9, s55t39, s55f4, s55f5, s55f7, s55f37, s55f38, hb59]
                 refine aops_val (v := ?v67) rfl ?h67 ?_
                 case h67 => simp only [qq, Nat.reduceBEq, reduceIte, Nat.reduceEqDiff, Nat.reduceAdd, Nat.reduceLeDiff, reduceCtorEq, Nat.reduceMul, Int.reduceToNat, hb7, hb16, s27t6, s27t7, s27t8, s27f0, s27f4, s27f5, hb31, hb40, s55t9, s55t39, s55f4, s55f5, s55f7, s55f37, s55f38, hb59]; (rw [y_rem] <;> omega)
                 simp only [qq, Nat.reduceBEq, reduceIte, Nat.reduceEqDiff, Nat.reduceAdd, Nat.reduceLeDiff, reduceCtorEq, Nat.reduceMul, Int.reduceToNat, hb7, hb16, s27t6, s27t7, s27t8, s27f0, s27f4, s27f5, hb31, hb40, s55t9, s55t39, s55f4, s55f5, s55f7, s55f37, s55f38, hb59]
                 refine aops_orunN 2 _ _ ?_
                 simp only [qq, Nat.reduceBEq, reduceIte, Nat.reduceEqDiff, Nat.reduceAdd, Nat.reduceLeDiff, reduceCtorEq, Nat.reduceMul, Int.reduceToNat, hb7, hb16, s27t6, s27t7, s27t8, s27f0, s27f4, s27f5, hb31, hb40, s55t9, s55t39, s55f4, s55f5, s55f7, s55f37, s55f38, hb59]
                 refine aops_append (rows := ?rows68) (new := ?new68) rfl rfl rfl rfl rfl rfl un36 ?hx68 (by simp only [qq, Nat.reduceBEq, reduceIte, Nat.reduceEqDiff, Nat.reduceAdd, Nat.reduceLeDiff, reduceCtorEq, Nat.reduceMul, Int.reduceToNat, maskO, maskN, hb7, hb16, s27t6, s27t7, s27t8, s27f0, s27f4, s27f5, hb31, hb40, s55t9, s55t39, s55f4, s55f5, s55f7, s55f37, s55f38, hb59]) (by simp only [qq, Nat.reduceBEq, reduceIte, Nat.reduceEqDiff, Nat.reduceAdd, Nat.reduceLeDiff, reduceCtorEq, Nat.reduceMul, Int.reduceToNat, maskO, maskN, hb7, hb16, s27t6, s27t7, s27t8, s27f0, s27f4, s27f5, hb31, hb40, s55t9, s55t39, s55f4, s55f5, s55f7, s55f37, s55f38, hb59]) (by simp only [qq, Nat.reduceBEq, reduceIte, Nat.reduceEqDiff, Nat.reduceAdd, Nat.reduceLeDiff, reduceCtorEq, Nat.reduceMul, Int.reduceToNat, hb7, hb16, s27t6, s27t7, s27t8, s27f0, s27f4, s27f5, hb31, hb40, s55t9, s55t39, s55f4, s55f5, s55f7, s55f37, s55f38, hb59]) ?hy68 (by simp only [tyf]; rfl) (by simp only [tyf]; decide) ?hsz68 ?hml68 ?hh68
                 case hx68 => simp only [qq, Nat.reduceBEq, reduceIte, Nat.reduceEqDiff, Nat.reduceAdd, Nat.reduceLeDiff, reduceCtorEq, Nat.reduceMul, Int.reduceToNat, AV.base, hb7, hb16, s27t6, s27t7, s27t8, s27f0, s27f4, s27f5, hb31, hb40, s55t9, s55t39, s55f4, s55f5, s55f7, s55f37, s55f38, hb59]; rfl
                 case hy68 => simp only [qq, Nat.reduceBEq, reduceIte, Nat.reduceEqDiff, Nat.reduceAdd, Nat.reduceLeDiff, reduceCtorEq, Nat.reduceMul, Int.reduceToNat, hb7, hb16, s27t6, s27t7, s27t8, s27f0, s27f4, s27f5, hb31, hb40, s55t9, s55t39, s55f4, s55f5, s55f7, s55f37, s55f38, hb59]; rfl
                 case hsz68 => ((try simp only [tyf, rwR, List.length_append, List.length_cons, List.length_nil, List.length_take, List.length_drop]); omega)
                 case hml68 => ((try simp only [maxLen, tyf, rwR, List.length_append, List.length_cons, List.length_nil, List.length_take, List.length_drop]); omega)
                 simp only [qq, Nat.reduceBEq, reduceIte, Nat.reduceEqDiff, Nat.reduceAdd, Nat.reduceLeDiff, reduceCtorEq, Nat.reduceMul, Int.reduceToNat, maskO, maskN, hb7, hb16, s27t6, s27t7, s27t8, s27f0, s27f4, s27f5, hb31, hb40, s55t9, s55t39, s55f4, s55f5, s55f7, s55f37, s55f38, hb59]
                 refine aops_orunN 1 _ _ ?_
                 simp only [qq, Nat.reduceBEq, reduceIte, Nat.reduceEqDiff, Nat.reduceAdd, Nat.reduceLeDiff, reduceCtorEq, Nat.reduceMul, Int.reduceToNat, hb7, hb16, s27t6, s27t7, s27t8, s27f0, s27f4, s27f5, hb31, hb40, s55t9, s55t39, s55f4, s55f5, s55f7, s55f37, s55f38, hb59]
                 refine aops_nil (hL64 _ ?_)
                 simp only [qq, Nat.reduceBEq, reduceIte, Nat.reduceEqDiff, Nat.reduceAdd, Nat.reduceLeDiff, reduceCtorEq, Nat.reduceMul, Int.reduceToNat, hb7, hb16, s27t6, s27t7, s27t8, s27f0, s27f4, s27f5, hb31, hb40, s55t9, s55t39, s55f4, s55f5, s55f7, s55f37, s55f38, hb59]
                 try simp only [rk_state]
                 try simp only [rk_state]
                 refine hK60 _ ?_
                 refine awp_region_lit fun L69 hL69 => ?_
                 refine aops_val (v := ?v70) rfl ?h70 ?_
                 case h70 => simp only [qq, Nat.reduceBEq, reduceIte, Nat.reduceEqDiff, Nat.reduceAdd, Nat.reduceLeDiff, reduceCtorEq, Nat.reduceMul, Int.reduceToNat, hb7, hb16, s27t6, s27t7, s27t8, s27f0, s27f4, s27f5, hb31, hb40, s55t9, s55t39, s55f4, s55f5, s55f7, s55f37, s55f38, hb59]; first | (rw [wr_id] <;> omega) | rfl
                 simp only [qq, Nat.reduceBEq, reduceIte, Nat.reduceEqDiff, Nat.reduceAdd, Nat.reduceLeDiff, reduceCtorEq, Nat.reduceMul, Int.reduceToNat, hb7, hb16, s27t6, s27t7, s27t8, s27f0, s27f4, s27f5, hb31, hb40, s55t9, s55t39, s55f4, s55f5, s55f7, s55f37, s55f38, hb59]
                 refine aops_orunN 1 _ _ ?_
                 simp only [qq, Nat.reduceBEq, reduceIte, Nat.reduceEqDiff, Nat.reduceAdd, Nat.reduceLeDiff, reduceCtorEq, Nat.reduceMul, Int.reduceToNat, hb7, hb16, s27t6, s27t7, s27t8, s27f0, s27f4, s27f5, hb31, hb40, s55t9, s55t39, s55f4, s55f5, s55f7, s55f37, s55f38, hb59]
                 refine aops_nil (hL69 _ ?_)
                 simp only [qq, Nat.reduceBEq, reduceIte, Nat.reduceEqDiff, Nat.reduceAdd, Nat.reduceLeDiff, reduceCtorEq, Nat.reduceMul, Int.reduceToNat, hb7, hb16, s27t6, s27t7, s27t8, s27f0, s27f4, s27f5, hb31, hb40, s55t9, s55t39, s55f4, s55f5, s55f7, s55f37, s55f38, hb59]
                 try simp only [rk_state]
                 have sn := codeAt_next acc i
                 refine hK55 _ ((fun (i : Nat) (d : Nat) => acc.length - i) (i + 1) (59)) ?_ ⟨i + 1, 59, rfl, ?_, ?_, ?_⟩
                 · (try simp only []); omega
                 · first | omega | simp
                 · (try simp only [qq, Nat.reduceBEq, reduceIte, Nat.reduceEqDiff, Nat.reduceAdd, Nat.reduceLeDiff, reduceCtorEq, Nat.reduceMul, Int.reduceToNat, hb7, hb16, s27t6, s27t7, s27t8, s27f0, s27f4, s27f5, hb31, hb40, s55t9, s55t39, s55f4, s55f5, s55f7, s55f37, s55f38, hb59, sn])
                   all_goals (first | done | rfl | (simp only [List.append_assoc]; rfl))
                 · (try simp only [qq, Nat.reduceBEq, reduceIte, Nat.reduceEqDiff, Nat.reduceAdd, Nat.reduceLeDiff, reduceCtorEq, Nat.reduceMul, Int.reduceToNat, hb7, hb16, s27t6, s27t7, s27t8, s27f0, s27f4, s27f5, hb31, hb40, s55t9, s55t39, s55f4, s55f5, s55f7, s55f37, s55f38, hb59, sn])
                   all_goals (first | done | rfl | (simp only [AV.c.injEq, C.int.injEq, List.cons.injEq, and_true, true_and]; omega))
               case b59 =>
                have hp59 := hb59
                try simp only [kb] at hp59
                all_goals try exact absurd hb59 (by decide)
                all_goals try (exfalso; omega)
                all_goals
                 refine awp_exit ?_
                 simp only [rk_state, reduceIte, Nat.reduceEqDiff]
                 try simp only [rk_state]
                 refine hK52 _ ?_
                 as_aux_lemma =>
                  refine awp_seq_k fun K71 hK71 => ?_
                  have ei : i = acc.length := by omega
                  subst ei
                  have sc := code_fold (v := v) (by omega)
                  rw [← hacc] at sc
                  refine awp_region_lit fun L72 hL72 => ?_
                  refine aops_orunN 3 _ _ ?_
                  simp only [qq, Nat.reduceBEq, reduceIte, Nat.reduceEqDiff, Nat.reduceAdd, Nat.reduceLeDiff, reduceCtorEq, Nat.reduceMul, Int.reduceToNat, hb7, hb16, s27t6, s27t7, s27t8, s27f0, s27f4, s27f5, hb31, hb40, s55t9, s55t39, s55f4, s55f5, s55f7, s55f37, s55f38, hb59, sc]
                  refine aops_nil (hL72 _ ?_)
                  simp only [qq, Nat.reduceBEq, reduceIte, Nat.reduceEqDiff, Nat.reduceAdd, Nat.reduceLeDiff, reduceCtorEq, Nat.reduceMul, Int.reduceToNat, hb7, hb16, s27t6, s27t7, s27t8, s27f0, s27f4, s27f5, hb31, hb40, s55t9, s55t39, s55f4, s55f5, s55f7, s55f37, s55f38, hb59, sc]
                  try simp only [rk_state]
                  refine hK71 _ ?_
                  refine awp_ret ?_
                  try simp only [rk_state]
                  first | refine ⟨_, d, by simp only [qq, Nat.reduceBEq, reduceIte, Nat.reduceEqDiff, Nat.reduceAdd, Nat.reduceLeDiff, reduceCtorEq, Nat.reduceMul, Int.reduceToNat, resA, Try.results41, hb7, hb16, s27t6, s27t7, s27t8, s27f0, s27f4, s27f5, hb31, hb40, s55t9, s55t39, s55f4, s55f5, s55f7, s55f37, s55f38, hb59, sc]; rfl, ?_, fun l hl => absurd rfl hl, fun l hl => absurd rfl hl⟩ | refine ⟨_, 0, by simp only [qq, Nat.reduceBEq, reduceIte, Nat.reduceEqDiff, Nat.reduceAdd, Nat.reduceLeDiff, reduceCtorEq, Nat.reduceMul, Int.reduceToNat, resA, Try.results41, hb7, hb16, s27t6, s27t7, s27t8, s27f0, s27f4, s27f5, hb31, hb40, s55t9, s55t39, s55f4, s55f5, s55f7, s55f37, s55f38, hb59, sc]; rfl, ?_, fun l hl => absurd rfl hl, fun l hl => absurd rfl hl⟩
                  simp only [packA]
                  (unfold zputR); first | (rw [if_pos (by omega)]; (repeat' (first | exact .nil | exact wkR_c | exact wkR_own | exact wkR_nils | refine wkR_int ?_ | refine wkR_bool ?_ | refine wkR_sl ?_ | refine wkR_osl ?_ | refine wkR_nsl ?_ | refine wkR_oo ?_ | refine wkR_no ?_ | refine .cons ?_ ?_ | refine wkR_agg ?_ | refine wkR_tup ?_)) <;> rfl) | (rw [if_neg (by omega)]; (repeat' (first | exact .nil | exact wkR_c | exact wkR_own | exact wkR_nils | refine wkR_int ?_ | refine wkR_bool ?_ | refine wkR_sl ?_ | refine wkR_osl ?_ | refine wkR_nsl ?_ | refine wkR_oo ?_ | refine wkR_no ?_ | refine .cons ?_ ?_ | refine wkR_agg ?_ | refine wkR_tup ?_)) <;> first | rfl | (rw [sc, hacc]) | (simp only [sc]))
   case b16 =>
    have hp16 := hb16
    try simp only [kb] at hp16
    all_goals try exact absurd hb16 (by decide)
    all_goals try (exfalso; omega)
    all_goals
     refine awp_skip ?_
     try simp only [rk_state]
     refine hK13 _ ?_
     refine awp_seq_k fun K73 hK73 => ?_
     have hf := foldN_or v
     refine awp_region_lit fun L74 hL74 => ?_
     refine aops_nilown 3 32 rfl rfl ?x75 ?_
     case x75 => simp only [qq, Nat.reduceBEq, reduceIte, Nat.reduceEqDiff, Nat.reduceAdd, Nat.reduceLeDiff, reduceCtorEq, Nat.reduceMul, Int.reduceToNat, hb7, hb16]
     simp only [qq, Nat.reduceBEq, reduceIte, Nat.reduceEqDiff, Nat.reduceAdd, Nat.reduceLeDiff, reduceCtorEq, Nat.reduceMul, Int.reduceToNat, hb7, hb16]
     refine aops_nil (hL74 _ ?_)
     simp only [qq, Nat.reduceBEq, reduceIte, Nat.reduceEqDiff, Nat.reduceAdd, Nat.reduceLeDiff, reduceCtorEq, Nat.reduceMul, Int.reduceToNat, hb7, hb16]
     try simp only [rk_state]
     refine hK73 _ ?_
     refine awp_seq_k fun K76 hK76 => ?_
     refine awp_seq_k fun K77 hK77 => ?_
     have hf := foldN_or v
     refine awp_region_lit fun L78 hL78 => ?_
     refine aops_orunN 1 _ _ ?_
     simp only [qq, Nat.reduceBEq, reduceIte, Nat.reduceEqDiff, Nat.reduceAdd, Nat.reduceLeDiff, reduceCtorEq, Nat.reduceMul, Int.reduceToNat, hb7, hb16]
     refine aops_nil (hL78 _ ?_)
     simp only [qq, Nat.reduceBEq, reduceIte, Nat.reduceEqDiff, Nat.reduceAdd, Nat.reduceLeDiff, reduceCtorEq, Nat.reduceMul, Int.reduceToNat, hb7, hb16]
     try simp only [rk_state]
     refine hK77 _ ?_
     as_aux_lemma =>
      refine awp_block ?_
      refine awp_loopW (W := [23, 24, 25, 26, 27, 28, 29, 30, 31, 32, 7, 33, 34, 6, 8]) (M := []) rfl rfl (fun kk s => ∃ (f : Nat) (m : Int) (acc : List Int) (b : Bool), kk = 1 + f ∧ (0 ≤ m) ∧ (m < 8 ^ f ∧ f ≤ 8) ∧ (acc.length + f ≤ 8) ∧ (acc ++ (if b = true ∨ m > 0 then dig f m else []) = dig 8 (foldN v)) ∧ (m > 0 → 1 ≤ f) ∧ (b = true → 1 ≤ f) ∧ s.t 6 = .c (.int .i64 m) ∧ s.t 7 = .own false 32 3 (Rw inC acc) ∧ s.t 8 = .c (.bool b)) ((fun (f : Nat) (m : Int) (acc : List Int) (b : Bool) => 1 + f) (8) (foldN v) ([]) (true)) ?i79 ?r79
      case i79 =>
       refine ⟨8, foldN v, [], true, rfl, ?_, ?_, ?_, ?_, ?_, ?_, ?_, ?_, ?_⟩
       · omega
       · (refine ⟨?_, Nat.le_refl _⟩; show _ < (16777216 : Int); omega)
       · (simp)
       · simp
       · omega
       · omega
       · (try simp only [qq, Nat.reduceBEq, reduceIte, Nat.reduceEqDiff, Nat.reduceAdd, Nat.reduceLeDiff, reduceCtorEq, Nat.reduceMul, Int.reduceToNat, hb7, hb16])
         all_goals (simp only [AV.c.injEq, C.int.injEq, true_and]; omega)
       · (try simp only [qq, Nat.reduceBEq, reduceIte, Nat.reduceEqDiff, Nat.reduceAdd, Nat.reduceLeDiff, reduceCtorEq, Nat.reduceMul, Int.reduceToNat, hb7, hb16])
         all_goals (first | done | rfl | (simp only [AV.c.injEq, C.int.injEq, List.cons.injEq, and_true, true_and]; omega))
       · (try simp only [qq, Nat.reduceBEq, reduceIte, Nat.reduceEqDiff, Nat.reduceAdd, Nat.reduceLeDiff, reduceCtorEq, Nat.reduceMul, Int.reduceToNat, hb7, hb16])
         all_goals (first | done | rfl | (simp only [AV.c.injEq, C.int.injEq, List.cons.injEq, and_true, true_and]; omega))
      case r79 =>
       rintro kk s hf ⟨f, m, acc, b, rfl, hq8_0, hq8_1, hq8_2, hq8_3, hq8_4, hq8_5, s79t6, s79t7, s79t8⟩ K79 hK79
       have s79f0 := hf 0 rfl (by (try simp only [qq, Nat.reduceBEq, reduceIte, Nat.reduceEqDiff, Nat.reduceAdd, Nat.reduceLeDiff, reduceCtorEq, Nat.reduceMul, Int.reduceToNat, kn, hb7, hb16]); all_goals rfl)
       simp only [qq, Nat.reduceBEq, reduceIte, Nat.reduceEqDiff, Nat.reduceAdd, Nat.reduceLeDiff, reduceCtorEq, Nat.reduceMul, Int.reduceToNat, hb7, hb16] at s79f0
       have s79f4 := hf 4 rfl (by (try simp only [qq, Nat.reduceBEq, reduceIte, Nat.reduceEqDiff, Nat.reduceAdd, Nat.reduceLeDiff, reduceCtorEq, Nat.reduceMul, Int.reduceToNat, kn, hb7, hb16]); all_goals rfl)
       simp only [qq, Nat.reduceBEq, reduceIte, Nat.reduceEqDiff, Nat.reduceAdd, Nat.reduceLeDiff, reduceCtorEq, Nat.reduceMul, Int.reduceToNat, hb7, hb16] at s79f4
       have s79f5 := hf 5 rfl (by (try simp only [qq, Nat.reduceBEq, reduceIte, Nat.reduceEqDiff, Nat.reduceAdd, Nat.reduceLeDiff, reduceCtorEq, Nat.reduceMul, Int.reduceToNat, kn, hb7, hb16]); all_goals rfl)
       simp only [qq, Nat.reduceBEq, reduceIte, Nat.reduceEqDiff, Nat.reduceAdd, Nat.reduceLeDiff, reduceCtorEq, Nat.reduceMul, Int.reduceToNat, hb7, hb16] at s79f5
       clear hf
       refine awp_seq_k fun K80 hK80 => ?_
       refine awp_seq_k fun K81 hK81 => ?_
       refine awp_region_lit fun L82 hL82 => ?_
       refine aops_orunN 2 _ _ ?_
       simp only [qq, Nat.reduceBEq, reduceIte, Nat.reduceEqDiff, Nat.reduceAdd, Nat.reduceLeDiff, reduceCtorEq, Nat.reduceMul, Int.reduceToNat, hb7, hb16, s79t6, s79t7, s79t8, s79f0, s79f4, s79f5]
       refine aops_part (b := ?p83) 24 ?h83 (fun hb83 => ?a83) (fun hb83 => ?b83)
       case h83 => simp only [qq, Nat.reduceBEq, reduceIte, Nat.reduceEqDiff, Nat.reduceAdd, Nat.reduceLeDiff, reduceCtorEq, Nat.reduceMul, Int.reduceToNat, hb7, hb16, s79t6, s79t7, s79t8, s79f0, s79f4, s79f5]; rfl
       case a83 =>
        have hp83 := hb83
        try simp only [kb] at hp83
        all_goals try exact absurd hb83 (by decide)
        all_goals try (exfalso; omega)
        all_goals
         try simp only [hb83]
         refine aops_orunN 3 _ _ ?_
         simp only [qq, Nat.reduceBEq, reduceIte, Nat.reduceEqDiff, Nat.reduceAdd, Nat.reduceLeDiff, reduceCtorEq, Nat.reduceMul, Int.reduceToNat, hb7, hb16, s79t6, s79t7, s79t8, s79f0, s79f4, s79f5, hb83]
         refine aops_nil (hL82 _ ?_)
         simp only [qq, Nat.reduceBEq, reduceIte, Nat.reduceEqDiff, Nat.reduceAdd, Nat.reduceLeDiff, reduceCtorEq, Nat.reduceMul, Int.reduceToNat, hb7, hb16, s79t6, s79t7, s79t8, s79f0, s79f4, s79f5, hb83]
         try simp only [rk_state]
         refine hK81 _ ?_
         refine awp_cond (t := true) (by simp only [qq, Nat.reduceBEq, reduceIte, Nat.reduceEqDiff, Nat.reduceAdd, Nat.reduceLeDiff, reduceCtorEq, Nat.reduceMul, Int.reduceToNat, hb7, hb16, s79t6, s79t7, s79t8, s79f0, s79f4, s79f5, hb83]) (fun _ => ?_) (fun h => ?_)
         case refine_2 => cases h
         refine awp_skip ?_
         try simp only [rk_state]
         refine hK80 _ ?_
         refine awp_seq_k fun K84 hK84 => ?_
         refine awp_block ?_
         refine awp_seq_k fun K85 hK85 => ?_
         have hbm : b = true ∨ m > 0 := by first | exact .inl (by assumption) | exact .inr (by omega)
         have sm : m.tmod 8 = m % 8 := Int.tmod_eq_emod_of_nonneg hq8_0
         have hf1 : 1 ≤ f := by rcases hbm with h9 | h9; exact hq8_5 h9; exact hq8_4 h9
         have hds := dig_step (f := f) (m := m) hf1 hq8_0
         refine awp_region_lit fun L86 hL86 => ?_
         refine aops_orunN 2 _ _ ?_
         simp only [qq, Nat.reduceBEq, reduceIte, Nat.reduceEqDiff, Nat.reduceAdd, Nat.reduceLeDiff, reduceCtorEq, Nat.reduceMul, Int.reduceToNat, hb7, hb16, s79t6, s79t7, s79t8, s79f0, s79f4, s79f5, hb83, sm]
         refine aops_val (v := ?v87) rfl ?h87 ?_
         case h87 => simp only [qq, Nat.reduceBEq, reduceIte, Nat.reduceEqDiff, Nat.reduceAdd, Nat.reduceLeDiff, reduceCtorEq, Nat.reduceMul, Int.reduceToNat, hb7, hb16, s79t6, s79t7, s79t8, s79f0, s79f4, s79f5, hb83, sm]; (rw [y_rem] <;> omega)
         simp only [qq, Nat.reduceBEq, reduceIte, Nat.reduceEqDiff, Nat.reduceAdd, Nat.reduceLeDiff, reduceCtorEq, Nat.reduceMul, Int.reduceToNat, hb7, hb16, s79t6, s79t7, s79t8, s79f0, s79f4, s79f5, hb83, sm]
         refine aops_orunN 1 _ _ ?_
         simp only [qq, Nat.reduceBEq, reduceIte, Nat.reduceEqDiff, Nat.reduceAdd, Nat.reduceLeDiff, reduceCtorEq, Nat.reduceMul, Int.reduceToNat, hb7, hb16, s79t6, s79t7, s79t8, s79f0, s79f4, s79f5, hb83, sm]
         refine aops_append (rows := ?rows88) (new := ?new88) rfl rfl rfl rfl rfl rfl un43 ?hx88 (by simp only [qq, Nat.reduceBEq, reduceIte, Nat.reduceEqDiff, Nat.reduceAdd, Nat.reduceLeDiff, reduceCtorEq, Nat.reduceMul, Int.reduceToNat, maskO, maskN, hb7, hb16, s79t6, s79t7, s79t8, s79f0, s79f4, s79f5, hb83, sm]) (by simp only [qq, Nat.reduceBEq, reduceIte, Nat.reduceEqDiff, Nat.reduceAdd, Nat.reduceLeDiff, reduceCtorEq, Nat.reduceMul, Int.reduceToNat, maskO, maskN, hb7, hb16, s79t6, s79t7, s79t8, s79f0, s79f4, s79f5, hb83, sm]) (by simp only [qq, Nat.reduceBEq, reduceIte, Nat.reduceEqDiff, Nat.reduceAdd, Nat.reduceLeDiff, reduceCtorEq, Nat.reduceMul, Int.reduceToNat, hb7, hb16, s79t6, s79t7, s79t8, s79f0, s79f4, s79f5, hb83, sm]) ?hy88 (by simp only [tyf]; rfl) (by simp only [tyf]; decide) ?hsz88 ?hml88 ?hh88
         case hx88 => simp only [qq, Nat.reduceBEq, reduceIte, Nat.reduceEqDiff, Nat.reduceAdd, Nat.reduceLeDiff, reduceCtorEq, Nat.reduceMul, Int.reduceToNat, AV.base, hb7, hb16, s79t6, s79t7, s79t8, s79f0, s79f4, s79f5, hb83, sm]; rfl
         case hy88 => simp only [qq, Nat.reduceBEq, reduceIte, Nat.reduceEqDiff, Nat.reduceAdd, Nat.reduceLeDiff, reduceCtorEq, Nat.reduceMul, Int.reduceToNat, hb7, hb16, s79t6, s79t7, s79t8, s79f0, s79f4, s79f5, hb83, sm]; rfl
         case hsz88 => ((try simp only [tyf, rwR, List.length_append, List.length_cons, List.length_nil, List.length_take, List.length_drop]); omega)
         case hml88 => ((try simp only [maxLen, tyf, rwR, List.length_append, List.length_cons, List.length_nil, List.length_take, List.length_drop]); omega)
         simp only [qq, Nat.reduceBEq, reduceIte, Nat.reduceEqDiff, Nat.reduceAdd, Nat.reduceLeDiff, reduceCtorEq, Nat.reduceMul, Int.reduceToNat, maskO, maskN, hb7, hb16, s79t6, s79t7, s79t8, s79f0, s79f4, s79f5, hb83, sm]
         refine aops_orunN 1 _ _ ?_
         simp only [qq, Nat.reduceBEq, reduceIte, Nat.reduceEqDiff, Nat.reduceAdd, Nat.reduceLeDiff, reduceCtorEq, Nat.reduceMul, Int.reduceToNat, hb7, hb16, s79t6, s79t7, s79t8, s79f0, s79f4, s79f5, hb83, sm]
         refine aops_nil (hL86 _ ?_)
         simp only [qq, Nat.reduceBEq, reduceIte, Nat.reduceEqDiff, Nat.reduceAdd, Nat.reduceLeDiff, reduceCtorEq, Nat.reduceMul, Int.reduceToNat, hb7, hb16, s79t6, s79t7, s79t8, s79f0, s79f4, s79f5, hb83, sm]
         try simp only [rk_state]
         refine hK85 _ ?_
         have hp8 := pow8 (k := f) (by omega)
         have sq : m.tdiv 8 = m / 8 := Int.tdiv_eq_ediv_of_nonneg hq8_0
         refine awp_region_lit fun L89 hL89 => ?_
         refine aops_orunN 1 _ _ ?_
         simp only [qq, Nat.reduceBEq, reduceIte, Nat.reduceEqDiff, Nat.reduceAdd, Nat.reduceLeDiff, reduceCtorEq, Nat.reduceMul, Int.reduceToNat, hb7, hb16, s79t6, s79t7, s79t8, s79f0, s79f4, s79f5, hb83, sm, sq]
         refine aops_val (v := ?v90) rfl ?h90 ?_
         case h90 => simp only [qq, Nat.reduceBEq, reduceIte, Nat.reduceEqDiff, Nat.reduceAdd, Nat.reduceLeDiff, reduceCtorEq, Nat.reduceMul, Int.reduceToNat, hb7, hb16, s79t6, s79t7, s79t8, s79f0, s79f4, s79f5, hb83, sm, sq]; (rw [y_quo (by omega), sq, wr_id] <;> omega)
         simp only [qq, Nat.reduceBEq, reduceIte, Nat.reduceEqDiff, Nat.reduceAdd, Nat.reduceLeDiff, reduceCtorEq, Nat.reduceMul, Int.reduceToNat, hb7, hb16, s79t6, s79t7, s79t8, s79f0, s79f4, s79f5, hb83, sm, sq]
         refine aops_orunN 1 _ _ ?_
         simp only [qq, Nat.reduceBEq, reduceIte, Nat.reduceEqDiff, Nat.reduceAdd, Nat.reduceLeDiff, reduceCtorEq, Nat.reduceMul, Int.reduceToNat, hb7, hb16, s79t6, s79t7, s79t8, s79f0, s79f4, s79f5, hb83, sm, sq]
         refine aops_nil (hL89 _ ?_)
         simp only [qq, Nat.reduceBEq, reduceIte, Nat.reduceEqDiff, Nat.reduceAdd, Nat.reduceLeDiff, reduceCtorEq, Nat.reduceMul, Int.reduceToNat, hb7, hb16, s79t6, s79t7, s79t8, s79f0, s79f4, s79f5, hb83, sm, sq]
         try simp only [rk_state]
         try simp only [rk_state]
         refine hK84 _ ?_
         as_aux_lemma =>
          refine awp_region_lit fun L91 hL91 => ?_
          refine aops_orunN 1 _ _ ?_
          simp only [qq, Nat.reduceBEq, reduceIte, Nat.reduceEqDiff, Nat.reduceAdd, Nat.reduceLeDiff, reduceCtorEq, Nat.reduceMul, Int.reduceToNat, hb7, hb16, s79t6, s79t7, s79t8, s79f0, s79f4, s79f5, hb83, sm, sq]
          refine aops_nil (hL91 _ ?_)
          simp only [qq, Nat.reduceBEq, reduceIte, Nat.reduceEqDiff, Nat.reduceAdd, Nat.reduceLeDiff, reduceCtorEq, Nat.reduceMul, Int.reduceToNat, hb7, hb16, s79t6, s79t7, s79t8, s79f0, s79f4, s79f5, hb83, sm, sq]
          try simp only [rk_state]
          refine hK79 _ ((fun (f : Nat) (m : Int) (acc : List Int) (b : Bool) => 1 + f) (f - 1) (m / 8) (acc ++ [m % 8]) (false)) ?_ ⟨f - 1, m / 8, acc ++ [m % 8], false, rfl, ?_, ?_, ?_, ?_, ?_, ?_, ?_, ?_, ?_⟩
          · (try simp only []); omega
          · omega
          · (refine ⟨?_, by omega⟩; obtain ⟨g, rfl⟩ : ∃ g, f = g + 1 := ⟨f - 1, by omega⟩; have h9 := hq8_1.1; rw [Int.pow_succ] at h9; simp only [Nat.add_sub_cancel]; omega)
          · (rw [List.length_append]; simp only [List.length_cons, List.length_nil]; omega)
          · (rw [← hq8_3, if_pos hbm, hds, List.append_assoc]; simp only [Bool.false_eq_true, false_or]; rfl)
          · (intro h7; obtain ⟨h8, _⟩ := div8_lt hq8_1.1 (by omega); omega)
          · (intro h7; cases h7)
          · (try simp only [qq, Nat.reduceBEq, reduceIte, Nat.reduceEqDiff, Nat.reduceAdd, Nat.reduceLeDiff, reduceCtorEq, Nat.reduceMul, Int.reduceToNat, hb7, hb16, s79t6, s79t7, s79t8, s79f0, s79f4, s79f5, hb83, sm, sq])
            all_goals (first | done | rfl | (simp only [AV.c.injEq, C.int.injEq, List.cons.injEq, and_true, true_and]; omega))
          · (try simp only [qq, Nat.reduceBEq, reduceIte, Nat.reduceEqDiff, Nat.reduceAdd, Nat.reduceLeDiff, reduceCtorEq, Nat.reduceMul, Int.reduceToNat, hb7, hb16, s79t6, s79t7, s79t8, s79f0, s79f4, s79f5, hb83, sm, sq])
            all_goals (first | done | rfl | (simp only [AV.c.injEq, C.int.injEq, List.cons.injEq, and_true, true_and]; omega))
          · (try simp only [qq, Nat.reduceBEq, reduceIte, Nat.reduceEqDiff, Nat.reduceAdd, Nat.reduceLeDiff, reduceCtorEq, Nat.reduceMul, Int.reduceToNat, hb7, hb16, s79t6, s79t7, s79t8, s79f0, s79f4, s79f5, hb83, sm, sq])
            all_goals (first | done | rfl | (simp only [AV.c.injEq, C.int.injEq, List.cons.injEq, and_true, true_and]; omega))
       case b83 =>
        have hp83 := hb83
        try simp only [kb] at hp83
        all_goals try exact absurd hb83 (by decide)
        all_goals try (exfalso; omega)
        all_goals
         try simp only [hb83]
         refine aops_orunN 3 _ _ ?_
         simp only [qq, Nat.reduceBEq, reduceIte, Nat.reduceEqDiff, Nat.reduceAdd, Nat.reduceLeDiff, reduceCtorEq, Nat.reduceMul, Int.reduceToNat, hb7, hb16, s79t6, s79t7, s79t8, s79f0, s79f4, s79f5, hb83]
         refine aops_nil (hL82 _ ?_)
         simp only [qq, Nat.reduceBEq, reduceIte, Nat.reduceEqDiff, Nat.reduceAdd, Nat.reduceLeDiff, reduceCtorEq, Nat.reduceMul, Int.reduceToNat, hb7, hb16, s79t6, s79t7, s79t8, s79f0, s79f4, s79f5, hb83]
         try simp only [rk_state]
         refine hK81 _ ?_
         refine awp_cond (t := ?t92) ?h92 (fun hb92 => ?a92) (fun hb92 => ?b92)
         case h92 => simp only [qq, Nat.reduceBEq, reduceIte, Nat.reduceEqDiff, Nat.reduceAdd, Nat.reduceLeDiff, reduceCtorEq, Nat.reduceMul, Int.reduceToNat, hb7, hb16, s79t6, s79t7, s79t8, s79f0, s79f4, s79f5, hb83]; rfl
         case a92 =>
          have hp92 := hb92
          try simp only [kb] at hp92
          all_goals try exact absurd hb92 (by decide)
          all_goals try (exfalso; omega)
          all_goals
           refine awp_skip ?_
           try simp only [rk_state]
           refine hK80 _ ?_
           refine awp_seq_k fun K93 hK93 => ?_
           refine awp_block ?_
           refine awp_seq_k fun K94 hK94 => ?_
           have hbm : b = true ∨ m > 0 := by first | exact .inl (by assumption) | exact .inr (by omega)
           have sm : m.tmod 8 = m % 8 := Int.tmod_eq_emod_of_nonneg hq8_0
           have hf1 : 1 ≤ f := by rcases hbm with h9 | h9; exact hq8_5 h9; exact hq8_4 h9
           have hds := dig_step (f := f) (m := m) hf1 hq8_0
           refine awp_region_lit fun L95 hL95 => ?_
           refine aops_orunN 2 _ _ ?_
           simp only [qq, Nat.reduceBEq, reduceIte, Nat.reduceEqDiff, Nat.reduceAdd, Nat.reduceLeDiff, reduceCtorEq, Nat.reduceMul, Int.reduceToNat, hb7, hb16, s79t6, s79t7, s79t8, s79f0, s79f4, s79f5, hb83, hb92, sm]
           refine aops_val (v := ?v96) rfl ?h96 ?_
           case h96 => simp only [qq, Nat.reduceBEq, reduceIte, Nat.reduceEqDiff, Nat.reduceAdd, Nat.reduceLeDiff, reduceCtorEq, Nat.reduceMul, Int.reduceToNat, hb7, hb16, s79t6, s79t7, s79t8, s79f0, s79f4, s79f5, hb83, hb92, sm]; (rw [y_rem] <;> omega)
           simp only [qq, Nat.reduceBEq, reduceIte, Nat.reduceEqDiff, Nat.reduceAdd, Nat.reduceLeDiff, reduceCtorEq, Nat.reduceMul, Int.reduceToNat, hb7, hb16, s79t6, s79t7, s79t8, s79f0, s79f4, s79f5, hb83, hb92, sm]
           refine aops_orunN 1 _ _ ?_
           simp only [qq, Nat.reduceBEq, reduceIte, Nat.reduceEqDiff, Nat.reduceAdd, Nat.reduceLeDiff, reduceCtorEq, Nat.reduceMul, Int.reduceToNat, hb7, hb16, s79t6, s79t7, s79t8, s79f0, s79f4, s79f5, hb83, hb92, sm]
           refine aops_append (rows := ?rows97) (new := ?new97) rfl rfl rfl rfl rfl rfl un43 ?hx97 (by simp only [qq, Nat.reduceBEq, reduceIte, Nat.reduceEqDiff, Nat.reduceAdd, Nat.reduceLeDiff, reduceCtorEq, Nat.reduceMul, Int.reduceToNat, maskO, maskN, hb7, hb16, s79t6, s79t7, s79t8, s79f0, s79f4, s79f5, hb83, hb92, sm]) (by simp only [qq, Nat.reduceBEq, reduceIte, Nat.reduceEqDiff, Nat.reduceAdd, Nat.reduceLeDiff, reduceCtorEq, Nat.reduceMul, Int.reduceToNat, maskO, maskN, hb7, hb16, s79t6, s79t7, s79t8, s79f0, s79f4, s79f5, hb83, hb92, sm]) (by simp only [qq, Nat.reduceBEq, reduceIte, Nat.reduceEqDiff, Nat.reduceAdd, Nat.reduceLeDiff, reduceCtorEq, Nat.reduceMul, Int.reduceToNat, hb7, hb16, s79t6, s79t7, s79t8, s79f0, s79f4, s79f5, hb83, hb92, sm]) ?hy97 (by simp only [tyf]; rfl) (by simp only [tyf]; decide) ?hsz97 ?hml97 ?hh97
           case hx97 => simp only [qq, Nat.reduceBEq, reduceIte, Nat.reduceEqDiff, Nat.reduceAdd, Nat.reduceLeDiff, reduceCtorEq, Nat.reduceMul, Int.reduceToNat, AV.base, hb7, hb16, s79t6, s79t7, s79t8, s79f0, s79f4, s79f5, hb83, hb92, sm]; rfl
           case hy97 => simp only [qq, Nat.reduceBEq, reduceIte, Nat.reduceEqDiff, Nat.reduceAdd, Nat.reduceLeDiff, reduceCtorEq, Nat.reduceMul, Int.reduceToNat, hb7, hb16, s79t6, s79t7, s79t8, s79f0, s79f4, s79f5, hb83, hb92, sm]; rfl
           case hsz97 => ((try simp only [tyf, rwR, List.length_append, List.length_cons, List.length_nil, List.length_take, List.length_drop]); omega)
           case hml97 => ((try simp only [maxLen, tyf, rwR, List.length_append, List.length_cons, List.length_nil, List.length_take, List.length_drop]); omega)
           simp only [qq, Nat.reduceBEq, reduceIte, Nat.reduceEqDiff, Nat.reduceAdd, Nat.reduceLeDiff, reduceCtorEq, Nat.reduceMul, Int.reduceToNat, maskO, maskN, hb7, hb16, s79t6, s79t7, s79t8, s79f0, s79f4, s79f5, hb83, hb92, sm]
           refine aops_orunN 1 _ _ ?_
           simp only [qq, Nat.reduceBEq, reduceIte, Nat.reduceEqDiff, Nat.reduceAdd, Nat.reduceLeDiff, reduceCtorEq, Nat.reduceMul, Int.reduceToNat, hb7, hb16, s79t6, s79t7, s79t8, s79f0, s79f4, s79f5, hb83, hb92, sm]
           refine aops_nil (hL95 _ ?_)
           simp only [qq, Nat.reduceBEq, reduceIte, Nat.reduceEqDiff, Nat.reduceAdd, Nat.reduceLeDiff, reduceCtorEq, Nat.reduceMul, Int.reduceToNat, hb7, hb16, s79t6, s79t7, s79t8, s79f0, s79f4, s79f5, hb83, hb92, sm]
           try simp only [rk_state]
           refine hK94 _ ?_
           have hp8 := pow8 (k := f) (by omega)
           have sq : m.tdiv 8 = m / 8 := Int.tdiv_eq_ediv_of_nonneg hq8_0
           refine awp_region_lit fun L98 hL98 => ?_
           refine aops_orunN 1 _ _ ?_
           simp only [qq, Nat.reduceBEq, reduceIte, Nat.reduceEqDiff, Nat.reduceAdd, Nat.reduceLeDiff, reduceCtorEq, Nat.reduceMul, Int.reduceToNat, hb7, hb16, s79t6, s79t7, s79t8, s79f0, s79f4, s79f5, hb83, hb92, sm, sq]
           refine aops_val (v := ?v99) rfl ?h99 ?_
           case h99 => simp only [qq, Nat.reduceBEq, reduceIte, Nat.reduceEqDiff, Nat.reduceAdd, Nat.reduceLeDiff, reduceCtorEq, Nat.reduceMul, Int.reduceToNat, hb7, hb16, s79t6, s79t7, s79t8, s79f0, s79f4, s79f5, hb83, hb92, sm, sq]; (rw [y_quo (by omega), sq, wr_id] <;> omega)
           simp only [qq, Nat.reduceBEq, reduceIte, Nat.reduceEqDiff, Nat.reduceAdd, Nat.reduceLeDiff, reduceCtorEq, Nat.reduceMul, Int.reduceToNat, hb7, hb16, s79t6, s79t7, s79t8, s79f0, s79f4, s79f5, hb83, hb92, sm, sq]
           refine aops_orunN 1 _ _ ?_
           simp only [qq, Nat.reduceBEq, reduceIte, Nat.reduceEqDiff, Nat.reduceAdd, Nat.reduceLeDiff, reduceCtorEq, Nat.reduceMul, Int.reduceToNat, hb7, hb16, s79t6, s79t7, s79t8, s79f0, s79f4, s79f5, hb83, hb92, sm, sq]
           refine aops_nil (hL98 _ ?_)
           simp only [qq, Nat.reduceBEq, reduceIte, Nat.reduceEqDiff, Nat.reduceAdd, Nat.reduceLeDiff, reduceCtorEq, Nat.reduceMul, Int.reduceToNat, hb7, hb16, s79t6, s79t7, s79t8, s79f0, s79f4, s79f5, hb83, hb92, sm, sq]
           try simp only [rk_state]
           try simp only [rk_state]
           refine hK93 _ ?_
           as_aux_lemma =>
            refine awp_region_lit fun L100 hL100 => ?_
            refine aops_orunN 1 _ _ ?_
            simp only [qq, Nat.reduceBEq, reduceIte, Nat.reduceEqDiff, Nat.reduceAdd, Nat.reduceLeDiff, reduceCtorEq, Nat.reduceMul, Int.reduceToNat, hb7, hb16, s79t6, s79t7, s79t8, s79f0, s79f4, s79f5, hb83, hb92, sm, sq]
            refine aops_nil (hL100 _ ?_)
            simp only [qq, Nat.reduceBEq, reduceIte, Nat.reduceEqDiff, Nat.reduceAdd, Nat.reduceLeDiff, reduceCtorEq, Nat.reduceMul, Int.reduceToNat, hb7, hb16, s79t6, s79t7, s79t8, s79f0, s79f4, s79f5, hb83, hb92, sm, sq]
            try simp only [rk_state]
            refine hK79 _ ((fun (f : Nat) (m : Int) (acc : List Int) (b : Bool) => 1 + f) (f - 1) (m / 8) (acc ++ [m % 8]) (false)) ?_ ⟨f - 1, m / 8, acc ++ [m % 8], false, rfl, ?_, ?_, ?_, ?_, ?_, ?_, ?_, ?_, ?_⟩
            · (try simp only []); omega
            · omega
            · (refine ⟨?_, by omega⟩; obtain ⟨g, rfl⟩ : ∃ g, f = g + 1 := ⟨f - 1, by omega⟩; have h9 := hq8_1.1; rw [Int.pow_succ] at h9; simp only [Nat.add_sub_cancel]; omega)
            · (rw [List.length_append]; simp only [List.length_cons, List.length_nil]; omega)
            · (rw [← hq8_3, if_pos hbm, hds, List.append_assoc]; simp only [Bool.false_eq_true, false_or]; rfl)
            · (intro h7; obtain ⟨h8, _⟩ := div8_lt hq8_1.1 (by omega); omega)
            · (intro h7; cases h7)
            · (try simp only [qq, Nat.reduceBEq, reduceIte, Nat.reduceEqDiff, Nat.reduceAdd, Nat.reduceLeDiff, reduceCtorEq, Nat.reduceMul, Int.reduceToNat, hb7, hb16, s79t6, s79t7, s79t8, s79f0, s79f4, s79f5, hb83, hb92, sm, sq])
              all_goals (first | done | rfl | (simp only [AV.c.injEq, C.int.injEq, List.cons.injEq, and_true, true_and]; omega))
            · (try simp only [qq, Nat.reduceBEq, reduceIte, Nat.reduceEqDiff, Nat.reduceAdd, Nat.reduceLeDiff, reduceCtorEq, Nat.reduceMul, Int.reduceToNat, hb7, hb16, s79t6, s79t7, s79t8, s79f0, s79f4, s79f5, hb83, hb92, sm, sq])
              all_goals (first | done | rfl | (simp only [AV.c.injEq, C.int.injEq, List.cons.injEq, and_true, true_and]; omega))
            · (try simp only [qq, Nat.reduceBEq, reduceIte, Nat.reduceEqDiff, Nat.reduceAdd, Nat.reduceLeDiff, reduceCtorEq, Nat.reduceMul, Int.reduceToNat, hb7, hb16, s79t6, s79t7, s79t8, s79f0, s79f4, s79f5, hb83, hb92, sm, sq])
              all_goals (first | done | rfl | (simp only [AV.c.injEq, C.int.injEq, List.cons.injEq, and_true, true_and]; omega))
         case b92 =>
          have hp92 := hb92
          try simp only [kb] at hp92
          all_goals try exact absurd hb92 (by decide)
          all_goals try (exfalso; omega)
          all_goals
           refine awp_exit ?_
           simp only [rk_state, reduceIte, Nat.reduceEqDiff]
           try simp only [rk_state]
           refine hK76 _ ?_
           refine awp_seq_k fun K101 hK101 => ?_
           have hacc : acc = dig 8 (foldN v) := by rw [← hq8_3, if_neg (by rcases b with _ | _ <;> simp_all <;> omega), List.append_nil]
           have hal : acc.length ≤ 8 := by omega
           refine awp_region_lit fun L102 hL102 => ?_
           refine aops_orunN 1 _ _ ?_
           simp only [qq, Nat.reduceBEq, reduceIte, Nat.reduceEqDiff, Nat.reduceAdd, Nat.reduceLeDiff, reduceCtorEq, Nat.reduceMul, Int.reduceToNat, hb7, hb16, s79t6, s79t7, s79t8, s79f0, s79f4, s79f5, hb83, hb92]
           refine aops_call_own (clone_bool_fun _ ?s103_0) rfl rfl rfl rfl (by (try simp only [qq, Nat.reduceBEq, reduceIte, Nat.reduceEqDiff, Nat.reduceAdd, Nat.reduceLeDiff, reduceCtorEq, Nat.reduceMul, Int.reduceToNat, hb7, hb16, s79t6, s79t7, s79t8, s79f0, s79f4, s79f5, hb83, hb92]); (repeat' (first | exact .nil | exact wk_c | exact wk_ownc | exact wk_nilsc | exact wk_nils | exact wk_fn | refine .cons ?_ ?_ | refine wk_agg ?_ | refine wk_fnL ?_))) rfl rfl rfl (by simp only [qq, Nat.reduceBEq, reduceIte, Nat.reduceEqDiff, Nat.reduceAdd, Nat.reduceLeDiff, reduceCtorEq, Nat.reduceMul, Int.reduceToNat, hb7, hb16, s79t6, s79t7, s79t8, s79f0, s79f4, s79f5, hb83, hb92]) ?m103
           case s103_0 => first | assumption | omega | decide +kernel | (simp only [List.length_take, List.length_drop]; omega)
           simp only [qq, Nat.reduceBEq, reduceIte, Nat.reduceEqDiff, Nat.reduceAdd, Nat.reduceLeDiff, reduceCtorEq, Nat.reduceMul, Int.reduceToNat, AV.setOwn, AV.setOwn1, hb7, hb16, s79t6, s79t7, s79t8, s79f0, s79f4, s79f5, hb83, hb92]
           refine aops_orunN 1 _ _ ?_
           simp only [qq, Nat.reduceBEq, reduceIte, Nat.reduceEqDiff, Nat.reduceAdd, Nat.reduceLeDiff, reduceCtorEq, Nat.reduceMul, Int.reduceToNat, hb7, hb16, s79t6, s79t7, s79t8, s79f0, s79f4, s79f5, hb83, hb92]
           refine aops_nil (hL102 _ ?_)
           simp only [qq, Nat.reduceBEq, reduceIte, Nat.reduceEqDiff, Nat.reduceAdd, Nat.reduceLeDiff, reduceCtorEq, Nat.reduceMul, Int.reduceToNat, hb7, hb16, s79t6, s79t7, s79t8, s79f0, s79f4, s79f5, hb83, hb92]
           try simp only [rk_state]
           refine hK101 _ ?_
           refine awp_seq_k fun K104 hK104 => ?_
           refine awp_seq_k fun K105 hK105 => ?_
           refine awp_region_lit fun L106 hL106 => ?_
           refine aops_orunN 3 _ _ ?_
           simp only [qq, Nat.reduceBEq, reduceIte, Nat.reduceEqDiff, Nat.reduceAdd, Nat.reduceLeDiff, reduceCtorEq, Nat.reduceMul, Int.reduceToNat, hb7, hb16, s79t6, s79t7, s79t8, s79f0, s79f4, s79f5, hb83, hb92]
           refine aops_nil (hL106 _ ?_)
           simp only [qq, Nat.reduceBEq, reduceIte, Nat.reduceEqDiff, Nat.reduceAdd, Nat.reduceLeDiff, reduceCtorEq, Nat.reduceMul, Int.reduceToNat, hb7, hb16, s79t6, s79t7, s79t8, s79f0, s79f4, s79f5, hb83, hb92]
           try simp only [rk_state]
           refine hK105 _ ?_
           as_aux_lemma =>
            refine awp_block ?_
            refine awp_loopW (W := [40, 41, 42, 43, 10, 11, 44, 45, 46, 47, 48, 49, 50, 51, 52, 53, 54, 55, 56, 57, 58, 59, 9, 60, 39]) (M := []) rfl rfl (fun kk s => ∃ (i : Nat) (d : Nat), kk = acc.length - i ∧ (i ≤ acc.length) ∧ s.t 9 = .own false d 4 (Rw boC (l ++ codeAt acc i)) ∧ s.t 39 = .c (.int .i64 (i : Int))) ((fun (i : Nat) (d : Nat) => acc.length - i) (0) (36)) ?i107 ?r107
            case i107 =>
             refine ⟨0, 36, rfl, ?_, ?_, ?_⟩
             · first | omega | simp
             · (try simp only [qq, Nat.reduceBEq, reduceIte, Nat.reduceEqDiff, Nat.reduceAdd, Nat.reduceLeDiff, reduceCtorEq, Nat.reduceMul, Int.reduceToNat, hb7, hb16, s79t6, s79t7, s79t8, s79f0, s79f4, s79f5, hb83, hb92])
               all_goals (rw [show codeAt acc 0 = [] from rfl, List.append_nil])
             · (try simp only [qq, Nat.reduceBEq, reduceIte, Nat.reduceEqDiff, Nat.reduceAdd, Nat.reduceLeDiff, reduceCtorEq, Nat.reduceMul, Int.reduceToNat, hb7, hb16, s79t6, s79t7, s79t8, s79f0, s79f4, s79f5, hb83, hb92])
               all_goals (first | done | rfl | (simp only [AV.c.injEq, C.int.injEq, List.cons.injEq, and_true, true_and]; omega))
            case r107 =>
             rintro kk s hf ⟨i, d, rfl, hq14_0, s107t9, s107t39⟩ K107 hK107
             have s107f4 := hf 4 rfl (by (try simp only [qq, Nat.reduceBEq, reduceIte, Nat.reduceEqDiff, Nat.reduceAdd, Nat.reduceLeDiff, reduceCtorEq, Nat.reduceMul, Int.reduceToNat, kn, hb7, hb16, s79t6, s79t7, s79t8, s79f0, s79f4, s79f5, hb83, hb92]); all_goals rfl)
             simp only [qq, Nat.reduceBEq, reduceIte, Nat.reduceEqDiff, Nat.reduceAdd, Nat.reduceLeDiff, reduceCtorEq, Nat.reduceMul, Int.reduceToNat, hb7, hb16, s79t6, s79t7, s79t8, s79f0, s79f4, s79f5, hb83, hb92] at s107f4
             have s107f5 := hf 5 rfl (by (try simp only [qq, Nat.reduceBEq, reduceIte, Nat.reduceEqDiff, Nat.reduceAdd, Nat.reduceLeDiff, reduceCtorEq, Nat.reduceMul, Int.reduceToNat, kn, hb7, hb16, s79t6, s79t7, s79t8, s79f0, s79f4, s79f5, hb83, hb92]); all_goals rfl)
             simp only [qq, Nat.reduceBEq, reduceIte, Nat.reduceEqDiff, Nat.reduceAdd, Nat.reduceLeDiff, reduceCtorEq, Nat.reduceMul, Int.reduceToNat, hb7, hb16, s79t6, s79t7, s79t8, s79f0, s79f4, s79f5, hb83, hb92] at s107f5
             have s107f7 := hf 7 rfl (by (try simp only [qq, Nat.reduceBEq, reduceIte, Nat.reduceEqDiff, Nat.reduceAdd, Nat.reduceLeDiff, reduceCtorEq, Nat.reduceMul, Int.reduceToNat, kn, hb7, hb16, s79t6, s79t7, s79t8, s79f0, s79f4, s79f5, hb83, hb92]); all_goals rfl)
             simp only [qq, Nat.reduceBEq, reduceIte, Nat.reduceEqDiff, Nat.reduceAdd, Nat.reduceLeDiff, reduceCtorEq, Nat.reduceMul, Int.reduceToNat, hb7, hb16, s79t6, s79t7, s79t8, s79f0, s79f4, s79f5, hb83, hb92] at s107f7
             have s107f37 := hf 37 rfl (by (try simp only [qq, Nat.reduceBEq, reduceIte, Nat.reduceEqDiff, Nat.reduceAdd, Nat.reduceLeDiff, reduceCtorEq, Nat.reduceMul, Int.reduceToNat, kn, hb7, hb16, s79t6, s79t7, s79t8, s79f0, s79f4, s79f5, hb83, hb92]); all_goals rfl)
             simp only [qq, Nat.reduceBEq, reduceIte, Nat.reduceEqDiff, Nat.reduceAdd, Nat.reduceLeDiff, reduceCtorEq, Nat.reduceMul, Int.reduceToNat, hb7, hb16, s79t6, s79t7, s79t8, s79f0, s79f4, s79f5, hb83, hb92] at s107f37
             have s107f38 := hf 38 rfl (by (try simp only [qq, Nat.reduceBEq, reduceIte, Nat.reduceEqDiff, Nat.reduceAdd, Nat.reduceLeDiff, reduceCtorEq, Nat.reduceMul, Int.reduceToNat, kn, hb7, hb16, s79t6, s79t7, s79t8, s79f0, s79f4, s79f5, hb83, hb92]); all_goals rfl)
             simp only [qq, Nat.reduceBEq, reduceIte, Nat.reduceEqDiff, Nat.reduceAdd, Nat.reduceLeDiff, reduceCtorEq, Nat.reduceMul, Int.reduceToNat, hb7, hb16, s79t6, s79t7, s79t8, s79f0, s79f4, s79f5, hb83, hb92] at s107f38
             clear hf
             refine awp_seq_k fun K108 hK108 => ?_
             have hcl := codeAt_len acc i
             refine awp_region_lit fun L109 hL109 => ?_
             refine aops_orunN 1 _ _ ?_
             simp only [qq, Nat.reduceBEq, reduceIte, Nat.reduceEqDiff, Nat.reduceAdd, Nat.reduceLeDiff, reduceCtorEq, Nat.reduceMul, Int.reduceToNat, hb7, hb16, s79t6, s79t7, s79t8, s79f0, s79f4, s79f5, hb83, hb92, s107t9, s107t39, s107f4, s107f5, s107f7, s107f37, s107f38]
             refine aops_nil (hL109 _ ?_)
             simp only [qq, Nat.reduceBEq, reduceIte, Nat.reduceEqDiff, Nat.reduceAdd, Nat.reduceLeDiff, reduceCtorEq, Nat.reduceMul, Int.reduceToNat, hb7, hb16, s79t6, s79t7, s79t8, s79f0, s79f4, s79f5, hb83, hb92, s107t9, s107t39, s107f4, s107f5, s107f7, s107f37, s107f38]
             try simp only [rk_state]
             refine hK108 _ ?_
             refine awp_seq_k fun K110 hK110 => ?_
             refine awp_cond (t := ?t111) ?h111 (fun hb111 => ?a111) (fun hb111 => ?b111)
             case h111 => simp only [qq, Nat.reduceBEq, reduceIte, Nat.reduceEqDiff, Nat.reduceAdd, Nat.reduceLeDiff, reduceCtorEq, Nat.reduceMul, Int.reduceToNat, hb7, hb16, s79t6, s79t7, s79t8, s79f0, s79f4, s79f5, hb83, hb92, s107t9, s107t39, s107f4, s107f5, s107f7, s107f37, s107f38]; rfl
             case a111 =>
              have hp111 := hb111
              try simp only [kb] at hp111
              all_goals try exact absurd hb111 (by decide)
              all_goals try (exfalso; omega)
              all_goals
               refine awp_skip ?_
               try simp only [rk_state]
               refine hK110 _ ?_
               refine awp_seq_k fun K112 hK112 => ?_
               refine awp_block ?_
               refine awp_seq_k fun K113 hK113 => ?_
               refine awp_region_lit fun L114 hL114 => ?_
               refine aops_orunN 1 _ _ ?_
               simp only [qq, Nat.reduceBEq, reduceIte, Nat.reduceEqDiff, Nat.reduceAdd, Nat.reduceLeDiff, reduceCtorEq, Nat.reduceMul, Int.reduceToNat, hb7, hb16, s79t6, s79t7, s79t8, s79f0, s79f4, s79f5, hb83, hb92, s107t9, s107t39, s107f4, s107f5, s107f7, s107f37, s107f38, hb111]
               refine aops_val (v := ?v115) rfl ?h115 ?_
               case h115 => simp only [qq, Nat.reduceBEq, reduceIte, Nat.reduceEqDiff, Nat.reduceAdd, Nat.reduceLeDiff, reduceCtorEq, Nat.reduceMul, Int.reduceToNat, hb7, hb16, s79t6, s79t7, s79t8, s79f0, s79f4, s79f5, hb83, hb92, s107t9, s107t39, s107f4, s107f5, s107f7, s107f37, s107f38, hb111]; first | (rw [idx_c un43 if3] <;> omega) | (rw [idx_o un43 if3] <;> omega) | (rw [idx_a un43 if3] <;> omega)
               simp only [qq, Nat.reduceBEq, reduceIte, Nat.reduceEqDiff, Nat.reduceAdd, Nat.reduceLeDiff, reduceCtorEq, Nat.reduceMul, Int.reduceToNat, hb7, hb16, s79t6, s79t7, s79t8, s79f0, s79f4, s79f5, hb83, hb92, s107t9, s107t39, s107f4, s107f5, s107f7, s107f37, s107f38, hb111]
               refine aops_orunN 3 _ _ ?_
               simp only [qq, Nat.reduceBEq, reduceIte, Nat.reduceEqDiff, Nat.reduceAdd, Nat.reduceLeDiff, reduceCtorEq, Nat.reduceMul, Int.reduceToNat, hb7, hb16, s79t6, s79t7, s79t8, s79f0, s79f4, s79f5, hb83, hb92, s107t9, s107t39, s107f4, s107f5, s107f7, s107f37, s107f38, hb111]
               refine aops_nil (hL114 _ ?_)
               simp only [qq, Nat.reduceBEq, reduceIte, Nat.reduceEqDiff, Nat.reduceAdd, Nat.reduceLeDiff, reduceCtorEq, Nat.reduceMul, Int.reduceToNat, hb7, hb16, s79t6, s79t7, s79t8, s79f0, s79f4, s79f5, hb83, hb92, s107t9, s107t39, s107f4, s107f5, s107f7, s107f37, s107f38, hb111]
               try simp only [rk_state]
               refine hK113 _ ?_
               refine awp_region_lit fun L116 hL116 => ?_
               refine aops_orunN 4 _ _ ?_
               simp only [qq, Nat.reduceBEq, reduceIte, Nat.reduceEqDiff, Nat.reduceAdd, Nat.reduceLeDiff, reduceCtorEq, Nat.reduceMul, Int.reduceToNat, hb7, hb16, s79t6, s79t7, s79t8, s79f0, s79f4, s79f5, hb83, hb92, s107t9, s107t39, s107f4, s107f5, s107f7, s107f37, s107f38, hb111]
               refine aops_val (v := ?v117) rfl ?h117 ?_
               case h117 => simp only [qq, Nat.reduceBEq, reduceIte, Nat.reduceEqDiff, Nat.reduceAdd, Nat.reduceLeDiff, reduceCtorEq, Nat.reduceMul, Int.reduceToNat, hb7, hb16, s79t6, s79t7, s79t8, s79f0, s79f4, s79f5, hb83, hb92, s107t9, s107t39, s107f4, s107f5, s107f7, s107f37, s107f38, hb111]; first | (rw [wr_id] <;> omega) | rfl
               simp only [qq, Nat.reduceBEq, reduceIte, Nat.reduceEqDiff, Nat.reduceAdd, Nat.reduceLeDiff, reduceCtorEq, Nat.reduceMul, Int.reduceToNat, hb7, hb16, s79t6, s79t7, s79t8, s79f0, s79f4, s79f5, hb83, hb92, s107t9, s107t39, s107f4, s107f5, s107f7, s107f37, s107f38, hb111]
               refine aops_orunN 4 _ _ ?_
               simp only [qq, Nat.reduceBEq, reduceIte, Nat.reduceEqDiff, Nat.reduceAdd, Nat.reduceLeDiff, reduceCtorEq, Nat.reduceMul, Int.reduceToNat, hb7, hb16, s79t6, s79t7, s79t8, s79f0, s79f4, s79f5, hb83, hb92, s107t9, s107t39, s107f4, s107f5, s107f7, s107f37, s107f38, hb111]
               refine aops_val (v := ?v118) rfl ?h118 ?_
               case h118 => simp only [qq, Nat.reduceBEq, reduceIte, Nat.reduceEqDiff, Nat.reduceAdd, Nat.reduceLeDiff, reduceCtorEq, Nat.reduceMul, Int.reduceToNat, hb7, hb16, s79t6, s79t7, s79t8, s79f0, s79f4, s79f5, hb83, hb92, s107t9, s107t39, s107f4, s107f5, s107f7, s107f37, s107f38, hb111]; (rw [y_rem] <;> omega)
               simp only [qq, Nat.reduceBEq, reduceIte, Nat.reduceEqDiff, Nat.reduceAdd, Nat.reduceLeDiff, reduceCtorEq, Nat.reduceMul, Int.reduceToNat, hb7, hb16, s79t6, s79t7, s79t8, s79f0, s79f4, s79f5, hb83, hb92, s107t9, s107t39, s107f4, s107f5, s107f7, s107f37, s107f38, hb111]
               refine aops_orunN 2 _ _ ?_
               simp only [qq, Nat.reduceBEq, reduceIte, Nat.reduceEqDiff, Nat.reduceAdd, Nat.reduceLeDiff, reduceCtorEq, Nat.reduceMul, Int.reduceToNat, hb7, hb16, s79t6, s79t7, s79t8, s79f0, s79f4, s79f5, hb83, hb92, s107t9, s107t39, s107f4, s107f5, s107f7, s107f37, s107f38, hb111]
               refine aops_val (v := ?v119) rfl ?h119 ?_
               case h119 => simp only [qq, Nat.reduceBEq, reduceIte, Nat.reduceEqDiff, Nat.reduceAdd, Nat.reduceLeDiff, reduceCtorEq, Nat.reduceMul, Int.reduceToNat, hb7, hb16, s79t6, s79t7, s79t8, s79f0, s79f4, s79f5, hb83, hb92, s107t9, s107t39, s107f4, s107f5, s107f7, s107f37, s107f38, hb111]; (rw [y_rem] <;> omega)
               simp only [qq, Nat.reduceBEq, reduceIte, Nat.reduceEqDiff, Nat.reduceAdd, Nat.reduceLeDiff, reduceCtorEq, Nat.reduceMul, Int.reduceToNat, hb7, hb16, s79t6, s79t7, s79t8, s79f0, s79f4, s79f5, hb83, hb92, s107t9, s107t39, s107f4, s107f5, s107f7, s107f37, s107f38, hb111]
               refine aops_orunN 2 _ _ ?_
               simp only [qq, Nat.reduceBEq, reduceIte, Nat.reduceEqDiff, Nat.reduceAdd, Nat.reduceLeDiff, reduceCtorEq, Nat.reduceMul, Int.reduceToNat, hb7, hb16, s79t6, s79t7, s79t8, s79f0, s79f4, s79f5, hb83, hb92, s107t9, s107t39, s107f4, s107f5, s107f7, s107f37, s107f38, hb111]
               refine aops_append (rows := ?rows120) (new := ?new120) rfl rfl rfl rfl rfl rfl un36 ?hx120 (by simp only [qq, Nat.reduceBEq, reduceIte, Nat.reduceEqDiff, Nat.reduceAdd, Nat.reduceLeDiff, reduceCtorEq, Nat.reduceMul, Int.reduceToNat, maskO, maskN, hb7, hb16, s79t6, s79t7, s79t8, s79f0, s79f4, s79f5, hb83, hb92, s107t9, s107t39, s107f4, s107f5, s107f7, s107f37, s107f38, hb111]) (by simp only [qq, Nat.reduceBEq, reduceIte, Nat.reduceEqDiff, Nat.reduceAdd, Nat.reduceLeDiff, reduceCtorEq, Nat.reduceMul, Int.reduceToNat, maskO, maskN, hb7, hb16, s79t6, s79t7, s79t8, s79f0, s79f4, s79f5, hb83, hb92, s107t9, s107t39, s107f4, s107f5, s107f7, s107f37, s107f38, hb111]) (by simp only [qq, Nat.reduceBEq, reduceIte, Nat.reduceEqDiff, Nat.reduceAdd, Nat.reduceLeDiff, reduceCtorEq, Nat.reduceMul, Int.reduceToNat, hb7, hb16, s79t6, s79t7, s79t8, s79f0, s79f4, s79f5, hb83, hb92, s107t9, s107t39, s107f4, s107f5, s107f7, s107f37, s107f38, hb111]) ?hy120 (by simp only [tyf]; rfl) (by simp only [tyf]; decide) ?hsz120 ?hml120 ?hh120
               case hx120 => simp only [qq, Nat.reduceBEq, reduceIte, Nat.reduceEqDiff, Nat.reduceAdd, Nat.reduceLeDiff, reduceCtorEq, Nat.reduceMul, Int.reduceToNat, AV.base, hb7, hb16, s79t6, s79t7, s79t8, s79f0, s79f4, s79f5, hb83, hb92, s107t9, s107t39, s107f4, s107f5, s107f7, s107f37, s107f38, hb111]; rfl
               case hy120 => simp only [qq, Nat.reduceBEq, reduceIte, Nat.reduceEqDiff, Nat.reduceAdd, Nat.reduceLeDiff, reduceCtorEq, Nat.reduceMul, Int.reduceToNat, hb7, hb16, s79t6, s79t7, s79t8, s79f0, s79f4, s79f5, hb83, hb92, s107t9, s107t39, s107f4, s107f5, s107f7, s107f37, s107f38, hb111]; rfl
               case hsz120 => ((try simp only [tyf, rwR, List.length_append, List.length_cons, List.length_nil, List.length_take, List.length_drop]); omega)
               case hml120 => ((try simp only [maxLen, tyf, rwR, List.length_append, List.length_cons, List.length_nil, List.length_take, List.length_drop]); omega)
               simp only [qq, Nat.reduceBEq, reduceIte, Nat.reduceEqDiff, Nat.reduceAdd, Nat.reduceLeDiff, reduceCtorEq, Nat.reduceMul, Int.reduceToNat, maskO, maskN, hb7, hb16, s79t6, s79t7, s79t8, s79f0, s79f4, s79f5, hb83, hb92, s107t9, s107t39, s107f4, s107f5, s107f7, s107f37, s107f38, hb111]
               refine aops_orunN 1 _ _ ?_
               simp only [qq, Nat.reduceBEq, reduceIte, Nat.reduceEqDiff, Nat.reduceAdd, Nat.reduceLeDiff, reduceCtorEq, Nat.reduceMul, Int.reduceToNat, hb7, hb16, s79t6, s79t7, s79t8, s79f0, s79f4, s79f5, hb83, hb92, s107t9, s107t39, s107f4, s107f5, s107f7, s107f37, s107f38, hb111]
               refine aops_nil (hL116 _ ?_)
               simp only [qq, Nat.reduceBEq, reduceIte, Nat.reduceEqDiff, Nat.reduceAdd, Nat.reduceLeDiff, reduceCtorEq, Nat.reduceMul, Int.reduceToNat, hb7, hb16, s79t6, s79t7, s79t8, s79f0, s79f4, s79f5, hb83, hb92, s107t9, s107t39, s107f4, s107f5, s107f7, s107f37, s107f38, hb111]
               try simp only [rk_state]
               try simp only [rk_state]
               refine hK112 _ ?_
               as_aux_lemma =>
                refine awp_region_lit fun L121 hL121 => ?_
                refine aops_val (v := ?v122) rfl ?h122 ?_
                case h122 => simp only [qq, Nat.reduceBEq, reduceIte, Nat.reduceEqDiff, Nat.reduceAdd, Nat.reduceLeDiff, reduceCtorEq, Nat.reduceMul, Int.reduceToNat, hb7, hb16, s79t6, s79t7, s79t8, s79f0, s79f4, s79f5, hb83, hb92, s107t9, s107t39, s107f4, s107f5, s107f7, s107f37, s107f38, hb111]; first | (rw [wr_id] <;> omega) | rfl
                simp only [qq, Nat.reduceBEq, reduceIte, Nat.reduceEqDiff, Nat.reduceAdd, Nat.reduceLeDiff, reduceCtorEq, Nat.reduceMul, Int.reduceToNat, hb7, hb16, s79t6, s79t7, s79t8, s79f0, s79f4, s79f5, hb83, hb92, s107t9, s107t39, s107f4, s107f5, s107f7, s107f37, s107f38, hb111]
                refine aops_orunN 1 _ _ ?_
                simp only [qq, Nat.reduceBEq, reduceIte, Nat.reduceEqDiff, Nat.reduceAdd, Nat.reduceLeDiff, reduceCtorEq, Nat.reduceMul, Int.reduceToNat, hb7, hb16, s79t6, s79t7, s79t8, s79f0, s79f4, s79f5, hb83, hb92, s107t9, s107t39, s107f4, s107f5, s107f7, s107f37, s107f38, hb111]
                refine aops_nil (hL121 _ ?_)
                simp only [qq, Nat.reduceBEq, reduceIte, Nat.reduceEqDiff, Nat.reduceAdd, Nat.reduceLeDiff, reduceCtorEq, Nat.reduceMul, Int.reduceToNat, hb7, hb16, s79t6, s79t7, s79t8, s79f0, s79f4, s79f5, hb83, hb92, s107t9, s107t39, s107f4, s107f5, s107f7, s107f37, s107f38, hb111]
                try simp only [rk_state]
                have sn := codeAt_next acc i
                refine hK107 _ ((fun (i : Nat) (d : Nat) => acc.length - i) (i + 1) (59)) ?_ ⟨i + 1, 59, rfl, ?_, ?_, ?_⟩
                · (try simp only []); omega
                · first | omega | simp
                · (try simp only [qq, Nat.reduceBEq, reduceIte, Nat.reduceEqDiff, Nat.reduceAdd, Nat.reduceLeDiff, reduceCtorEq, Nat.reduceMul, Int.reduceToNat, hb7, hb16, s79t6, s79t7, s79t8, s79f0, s79f4, s79f5, hb83, hb92, s107t9, s107t39, s107f4, s107f5, s107f7, s107f37, s107f38, hb111, sn])
                  all_goals (first | done | rfl | (simp only [List.append_assoc]; rfl))
                · (try simp only [qq, Nat.reduceBEq, reduceIte, Nat.reduceEqDiff, Nat.reduceAdd, Nat.reduceLeDiff, reduceCtorEq, Nat.reduceMul, Int.reduceToNat, hb7, hb16, s79t6, s79t7, s79t8, s79f0, s79f4, s79f5, hb83, hb92, s107t9, s107t39, s107f4, s107f5, s107f7, s107f37, s107f38, hb111, sn])
                  all_goals (first | done | rfl | (simp only [AV.c.injEq, C.int.injEq, List.cons.injEq, and_true, true_and]; omega))
             case b111 =>
              have hp111 := hb111
              try simp only [kb] at hp111
              all_goals try exact absurd hb111 (by decide)
              all_goals try (exfalso; omega)
              all_goals
               refine awp_exit ?_
               simp only [rk_state, reduceIte, Nat.reduceEqDiff]
               try simp only [rk_state]
               refine hK104 _ ?_
               refine awp_seq_k fun K123 hK123 => ?_
               have ei : i = acc.length := by omega
               subst ei
               have sc := code_fold (v := v) (by omega)
               rw [← hacc] at sc
               refine awp_region_lit fun L124 hL124 => ?_
               refine aops_orunN 3 _ _ ?_
               simp only [qq, Nat.reduceBEq, reduceIte, Nat.reduceEqDiff, Nat.reduceAdd, Nat.reduceLeDiff, reduceCtorEq, Nat.reduceMul, Int.reduceToNat, hb7, hb16, s79t6, s79t7, s79t8, s79f0, s79f4, s79f5, hb83, hb92, s107t9, s107t39, s107f4, s107f5, s107f7, s107f37, s107f38, hb111, sc]
               refine aops_nil (hL124 _ ?_)
               simp only [qq, Nat.reduceBEq, reduceIte, Nat.reduceEqDiff, Nat.reduceAdd, Nat.reduceLeDiff, reduceCtorEq, Nat.reduceMul, Int.reduceToNat, hb7, hb16, s79t6, s79t7, s79t8, s79f0, s79f4, s79f5, hb83, hb92, s107t9, s107t39, s107f4, s107f5, s107f7, s107f37, s107f38, hb111, sc]
               try simp only [rk_state]
               refine hK123 _ ?_
               refine awp_ret ?_
               try simp only [rk_state]
               first | refine ⟨_, d, by simp only [qq, Nat.reduceBEq, reduceIte, Nat.reduceEqDiff, Nat.reduceAdd, Nat.reduceLeDiff, reduceCtorEq, Nat.reduceMul, Int.reduceToNat, resA, Try.results41, hb7, hb16, s79t6, s79t7, s79t8, s79f0, s79f4, s79f5, hb83, hb92, s107t9, s107t39, s107f4, s107f5, s107f7, s107f37, s107f38, hb111, sc]; rfl, ?_, fun l hl => absurd rfl hl, fun l hl => absurd rfl hl⟩ | refine ⟨_, 0, by simp only [qq, Nat.reduceBEq, reduceIte, Nat.reduceEqDiff, Nat.reduceAdd, Nat.reduceLeDiff, reduceCtorEq, Nat.reduceMul, Int.reduceToNat, resA, Try.results41, hb7, hb16, s79t6, s79t7, s79t8, s79f0, s79f4, s79f5, hb83, hb92, s107t9, s107t39, s107f4, s107f5, s107f7, s107f37, s107f38, hb111, sc]; rfl, ?_, fun l hl => absurd rfl hl, fun l hl => absurd rfl hl⟩
               simp only [packA]
               (unfold zputR); first | (rw [if_pos (by omega)]; (repeat' (first | exact .nil | exact wkR_c | exact wkR_own | exact wkR_nils | refine wkR_int ?_ | refine wkR_bool ?_ | refine wkR_sl ?_ | refine wkR_osl ?_ | refine wkR_nsl ?_ | refine wkR_oo ?_ | refine wkR_no ?_ | refine .cons ?_ ?_ | refine wkR_agg ?_ | refine wkR_tup ?_)) <;> rfl) | (rw [if_neg (by omega)]; (repeat' (first | exact .nil | exact wkR_c | exact wkR_own | exact wkR_nils | refine wkR_int ?_ | refine wkR_bool ?_ | refine wkR_sl ?_ | refine wkR_osl ?_ | refine wkR_nsl ?_ | refine wkR_oo ?_ | refine wkR_no ?_ | refine .cons ?_ ?_ | refine wkR_agg ?_ | refine wkR_tup ?_)) <;> first | rfl | (rw [sc, hacc]) | (simp only [sc]))
set_option maxHeartbeats 4000000 in
set_option maxRecDepth 50000 in
theorem decoded_fun (l : List Bool) (hl : l.length ≤ 140737488355200) : Fun Try.prog 42 [.c (.sl 4 (Rw boC l))] nomem (.tup [.c (.int .i64 (ztakeR l).1), .c (.sl 4 (Rw boC (ztakeR l).2.1)), .c (.int .i64 (ztakeR l).2.2)]) nomem := by
 refine fun_of_awp Try.func42 rfl (by decide +kernel) (by decide +kernel) (Nat.le_of_ble_eq_true rfl) (fun _ _ => rfl) (fun _ _ => rfl) ?_
 refine awp_seq_k fun K1 hK1 => ?_
 refine awp_region_lit fun L2 hL2 => ?_
 refine aops_orunN 3 _ _ ?_
 simp only [qq, Nat.reduceBEq, reduceIte, Nat.reduceEqDiff, Nat.reduceAdd, Nat.reduceLeDiff, reduceCtorEq, Nat.reduceMul, Int.reduceToNat]
 refine aops_nil (hL2 _ ?_)
 simp only [qq, Nat.reduceBEq, reduceIte, Nat.reduceEqDiff, Nat.reduceAdd, Nat.reduceLeDiff, reduceCtorEq, Nat.reduceMul, Int.reduceToNat]
 try simp only [rk_state]
 refine hK1 _ ?_
 refine awp_seq_k fun K3 hK3 => ?_
 refine awp_region_lit fun L4 hL4 => ?_
 refine aops_orunN 2 _ _ ?_
 simp only [qq, Nat.reduceBEq, reduceIte, Nat.reduceEqDiff, Nat.reduceAdd, Nat.reduceLeDiff, reduceCtorEq, Nat.reduceMul, Int.reduceToNat]
 refine aops_nil (hL4 _ ?_)
 simp only [qq, Nat.reduceBEq, reduceIte, Nat.reduceEqDiff, Nat.reduceAdd, Nat.reduceLeDiff, reduceCtorEq, Nat.reduceMul, Int.reduceToNat]
 try simp only [rk_state]
 refine hK3 _ ?_
 refine awp_seq_k fun K5 hK5 => ?_
 refine awp_seq_k fun K6 hK6 => ?_
 refine awp_region_lit fun L7 hL7 => ?_
 refine aops_orunN 1 _ _ ?_
 simp only [qq, Nat.reduceBEq, reduceIte, Nat.reduceEqDiff, Nat.reduceAdd, Nat.reduceLeDiff, reduceCtorEq, Nat.reduceMul, Int.reduceToNat]
 refine aops_nil (hL7 _ ?_)
 simp only [qq, Nat.reduceBEq, reduceIte, Nat.reduceEqDiff, Nat.reduceAdd, Nat.reduceLeDiff, reduceCtorEq, Nat.reduceMul, Int.reduceToNat]
 try simp only [rk_state]
 refine hK6 _ ?_
 as_aux_lemma =>
  refine awp_block ?_
  refine awp_loopW (W := [14, 15, 2, 3, 4, 16, 17, 18, 2, 3, 4, 8, 19, 20, 21, 22, 23, 24, 25, 26, 9, 10, 27, 28, 29, 30, 31, 8, 32, 22, 33, 34, 35, 36, 37, 38, 39, 40, 41, 42, 43, 44, 2, 3, 4, 45, 46, 47, 48, 49, 5, 50, 51, 6, 52, 53, 2, 3, 4, 54, 55, 56, 11, 57, 58, 0, 59, 60, 12, 13, 7]) (M := []) rfl rfl (fun kk s => ∃ (k : Nat) (n : Int), kk = 9 - k ∧ (k ≤ 8) ∧ (0 ≤ n ∧ n ≤ 8000000) ∧ (zread (8 - k) k n (8 ^ k) (l.drop (4 * k)) = zreadR l) ∧ s.t 0 = .c (.sl 4 (Rw boC (l.drop (4 * k)))) ∧ s.t 5 = .c (.int .i64 n) ∧ s.t 6 = .c (.int .i64 (8 ^ k)) ∧ s.t 7 = .c (.int .i64 (k : Int))) ((fun (k : Nat) (n : Int) => 9 - k) (0) (0)) ?i8 ?r8
  case i8 =>
   refine ⟨0, 0, rfl, ?_, ?_, ?_, ?_, ?_, ?_, ?_⟩
   · omega
   · omega
   · rfl
   · (try simp only [qq, Nat.reduceBEq, reduceIte, Nat.reduceEqDiff, Nat.reduceAdd, Nat.reduceLeDiff, reduceCtorEq, Nat.reduceMul, Int.reduceToNat])
     all_goals (first | done | rfl | (simp only [AV.c.injEq, C.int.injEq, List.cons.injEq, and_true, true_and]; omega))
   · (try simp only [qq, Nat.reduceBEq, reduceIte, Nat.reduceEqDiff, Nat.reduceAdd, Nat.reduceLeDiff, reduceCtorEq, Nat.reduceMul, Int.reduceToNat])
     all_goals (first | done | rfl | (simp only [AV.c.injEq, C.int.injEq, List.cons.injEq, and_true, true_and]; omega))
   · (try simp only [qq, Nat.reduceBEq, reduceIte, Nat.reduceEqDiff, Nat.reduceAdd, Nat.reduceLeDiff, reduceCtorEq, Nat.reduceMul, Int.reduceToNat])
     all_goals (first | done | rfl | (simp only [AV.c.injEq, C.int.injEq, List.cons.injEq, and_true, true_and]; omega))
   · (try simp only [qq, Nat.reduceBEq, reduceIte, Nat.reduceEqDiff, Nat.reduceAdd, Nat.reduceLeDiff, reduceCtorEq, Nat.reduceMul, Int.reduceToNat])
     all_goals (first | done | rfl | (simp only [AV.c.injEq, C.int.injEq, List.cons.injEq, and_true, true_and]; omega))
  case r8 =>
   rintro kk s hf ⟨k, n, rfl, hq4_0, hq4_1, hq4_2, s8t0, s8t5, s8t6, s8t7⟩ K8 hK8
   clear hf
   refine awp_seq_k fun K9 hK9 => ?_
   refine awp_block ?_
   refine awp_seq_k fun K10 hK10 => ?_
   refine awp_seq_k fun K11 hK11 => ?_
   refine awp_region_lit fun L12 hL12 => ?_
   refine aops_orunN 2 _ _ ?_
   simp only [qq, Nat.reduceBEq, reduceIte, Nat.reduceEqDiff, Nat.reduceAdd, Nat.reduceLeDiff, reduceCtorEq, Nat.reduceMul, Int.reduceToNat, s8t0, s8t5, s8t6, s8t7]
   refine aops_nil (hL12 _ ?_)
   simp only [qq, Nat.reduceBEq, reduceIte, Nat.reduceEqDiff, Nat.reduceAdd, Nat.reduceLeDiff, reduceCtorEq, Nat.reduceMul, Int.reduceToNat, s8t0, s8t5, s8t6, s8t7]
   try simp only [rk_state]
   refine hK11 _ ?_
   refine awp_cond (t := ?t13) ?h13 (fun hb13 => ?a13) (fun hb13 => ?b13)
   case h13 => simp only [qq, Nat.reduceBEq, reduceIte, Nat.reduceEqDiff, Nat.reduceAdd, Nat.reduceLeDiff, reduceCtorEq, Nat.reduceMul, Int.reduceToNat, s8t0, s8t5, s8t6, s8t7]; rfl
   case a13 =>
    have hp13 := hb13
    try simp only [kb] at hp13
    all_goals try exact absurd hb13 (by decide)
    all_goals try (exfalso; omega)
    all_goals
     refine awp_seq_k fun K14 hK14 => ?_
     refine awp_region_lit fun L15 hL15 => ?_
     refine aops_orunN 3 _ _ ?_
     simp only [qq, Nat.reduceBEq, reduceIte, Nat.reduceEqDiff, Nat.reduceAdd, Nat.reduceLeDiff, reduceCtorEq, Nat.reduceMul, Int.reduceToNat, s8t0, s8t5, s8t6, s8t7, hb13]
     refine aops_nil (hL15 _ ?_)
     simp only [qq, Nat.reduceBEq, reduceIte, Nat.reduceEqDiff, Nat.reduceAdd, Nat.reduceLeDiff, reduceCtorEq, Nat.reduceMul, Int.reduceToNat, s8t0, s8t5, s8t6, s8t7, hb13]
     try simp only [rk_state]
     refine hK14 _ ?_
     refine awp_ret ?_
     try simp only [rk_state]
     refine ⟨_, 0, by simp only [qq, Nat.reduceBEq, reduceIte, Nat.reduceEqDiff, Nat.reduceAdd, Nat.reduceLeDiff, reduceCtorEq, Nat.reduceMul, Int.reduceToNat, resA, Try.results42, s8t0, s8t5, s8t6, s8t7, hb13]; rfl, ?_, fun l hl => absurd rfl hl, fun l hl => absurd rfl hl⟩
     simp only [packA]
     unfold ztakeR; first | (rw [← hq4_2, show 8 - k = 0 from by omega, zr_zero]; (repeat' (first | exact .nil | exact wkR_c | exact wkR_own | exact wkR_nils | refine wkR_int ?_ | refine wkR_bool ?_ | refine wkR_sl ?_ | refine wkR_osl ?_ | refine wkR_nsl ?_ | refine wkR_oo ?_ | refine wkR_no ?_ | refine .cons ?_ ?_ | refine wkR_agg ?_ | refine wkR_tup ?_)) <;> rfl) | (rw [← hq4_2, zr_torn (by omega) (by omega)]; (repeat' (first | exact .nil | exact wkR_c | exact wkR_own | exact wkR_nils | refine wkR_int ?_ | refine wkR_bool ?_ | refine wkR_sl ?_ | refine wkR_osl ?_ | refine wkR_nsl ?_ | refine wkR_oo ?_ | refine wkR_no ?_ | refine .cons ?_ ?_ | refine wkR_agg ?_ | refine wkR_tup ?_)) <;> rfl) | (rw [← hq4_2, zr_form (by omega) (by omega) (by omega) (by omega)]; (repeat' (first | exact .nil | exact wkR_c | exact wkR_own | exact wkR_nils | refine wkR_int ?_ | refine wkR_bool ?_ | refine wkR_sl ?_ | refine wkR_osl ?_ | refine wkR_nsl ?_ | refine wkR_oo ?_ | refine wkR_no ?_ | refine .cons ?_ ?_ | refine wkR_agg ?_ | refine wkR_tup ?_)) <;> rfl) | (rw [← hq4_2, zr_range (by omega) (by omega) hnf (by rw [hm8]; omega)]; (repeat' (first | exact .nil | exact wkR_c | exact wkR_own | exact wkR_nils | refine wkR_int ?_ | refine wkR_bool ?_ | refine wkR_sl ?_ | refine wkR_osl ?_ | refine wkR_nsl ?_ | refine wkR_oo ?_ | refine wkR_no ?_ | refine .cons ?_ ?_ | refine wkR_agg ?_ | refine wkR_tup ?_)) <;> rfl) | (rw [← hq4_2, hdn]; (repeat' (first | exact .nil | exact wkR_c | exact wkR_own | exact wkR_nils | refine wkR_int ?_ | refine wkR_bool ?_ | refine wkR_sl ?_ | refine wkR_osl ?_ | refine wkR_nsl ?_ | refine wkR_oo ?_ | refine wkR_no ?_ | refine .cons ?_ ?_ | refine wkR_agg ?_ | refine wkR_tup ?_)) <;> first | rfl | (dsimp only; omega) | (dsimp only; rw [if_pos rfl, hee, List.drop_drop]))
   case b13 =>
    have hp13 := hb13
    try simp only [kb] at hp13
    all_goals try exact absurd hb13 (by decide)
    all_goals try (exfalso; omega)
    all_goals
     refine awp_skip ?_
     try simp only [rk_state]
     refine hK10 _ ?_
     refine awp_seq_k fun K16 hK16 => ?_
     refine awp_seq_k fun K17 hK17 => ?_
     refine awp_region_lit fun L18 hL18 => ?_
     refine aops_orunN 3 _ _ ?_
     simp only [qq, Nat.reduceBEq, reduceIte, Nat.reduceEqDiff, Nat.reduceAdd, Nat.reduceLeDiff, reduceCtorEq, Nat.reduceMul, Int.reduceToNat, s8t0, s8t5, s8t6, s8t7, hb13]
     refine aops_nil (hL18 _ ?_)
     simp only [qq, Nat.reduceBEq, reduceIte, Nat.reduceEqDiff, Nat.reduceAdd, Nat.reduceLeDiff, reduceCtorEq, Nat.reduceMul, Int.reduceToNat, s8t0, s8t5, s8t6, s8t7, hb13]
     try simp only [rk_state]
     refine hK17 _ ?_
     as_aux_lemma =>
      refine awp_cond (t := ?t19) ?h19 (fun hb19 => ?a19) (fun hb19 => ?b19)
      case h19 => simp only [qq, Nat.reduceBEq, reduceIte, Nat.reduceEqDiff, Nat.reduceAdd, Nat.reduceLeDiff, reduceCtorEq, Nat.reduceMul, Int.reduceToNat, s8t0, s8t5, s8t6, s8t7, hb13]; rfl
      case a19 =>
       have hp19 := hb19
       try simp only [kb] at hp19
       all_goals try exact absurd hb19 (by decide)
       all_goals try (exfalso; omega)
       all_goals
        refine awp_seq_k fun K20 hK20 => ?_
        refine awp_region_lit fun L21 hL21 => ?_
        refine aops_orunN 3 _ _ ?_
        simp only [qq, Nat.reduceBEq, reduceIte, Nat.reduceEqDiff, Nat.reduceAdd, Nat.reduceLeDiff, reduceCtorEq, Nat.reduceMul, Int.reduceToNat, s8t0, s8t5, s8t6, s8t7, hb13, hb19]
        refine aops_nil (hL21 _ ?_)
        simp only [qq, Nat.reduceBEq, reduceIte, Nat.reduceEqDiff, Nat.reduceAdd, Nat.reduceLeDiff, reduceCtorEq, Nat.reduceMul, Int.reduceToNat, s8t0, s8t5, s8t6, s8t7, hb13, hb19]
        try simp only [rk_state]
        refine hK20 _ ?_
        refine awp_ret ?_
        try simp only [rk_state]
        refine ⟨_, 0, by simp only [qq, Nat.reduceBEq, reduceIte, Nat.reduceEqDiff, Nat.reduceAdd, Nat.reduceLeDiff, reduceCtorEq, Nat.reduceMul, Int.reduceToNat, resA, Try.results42, s8t0, s8t5, s8t6, s8t7, hb13, hb19]; rfl, ?_, fun l hl => absurd rfl hl, fun l hl => absurd rfl hl⟩
        simp only [packA]
        unfold ztakeR; first | (rw [← hq4_2, show 8 - k = 0 from by omega, zr_zero]; (repeat' (first | exact .nil | exact wkR_c | exact wkR_own | exact wkR_nils | refine wkR_int ?_ | refine wkR_bool ?_ | refine wkR_sl ?_ | refine wkR_osl ?_ | refine wkR_nsl ?_ | refine wkR_oo ?_ | refine wkR_no ?_ | refine .cons ?_ ?_ | refine wkR_agg ?_ | refine wkR_tup ?_)) <;> rfl) | (rw [← hq4_2, zr_torn (by omega) (by omega)]; (repeat' (first | exact .nil | exact wkR_c | exact wkR_own | exact wkR_nils | refine wkR_int ?_ | refine wkR_bool ?_ | refine wkR_sl ?_ | refine wkR_osl ?_ | refine wkR_nsl ?_ | refine wkR_oo ?_ | refine wkR_no ?_ | refine .cons ?_ ?_ | refine wkR_agg ?_ | refine wkR_tup ?_)) <;> rfl) | (rw [← hq4_2, zr_form (by omega) (by omega) (by omega) (by omega)]; (repeat' (first | exact .nil | exact wkR_c | exact wkR_own | exact wkR_nils | refine wkR_int ?_ | refine wkR_bool ?_ | refine wkR_sl ?_ | refine wkR_osl ?_ | refine wkR_nsl ?_ | refine wkR_oo ?_ | refine wkR_no ?_ | refine .cons ?_ ?_ | refine wkR_agg ?_ | refine wkR_tup ?_)) <;> rfl) | (rw [← hq4_2, zr_range (by omega) (by omega) hnf (by rw [hm8]; omega)]; (repeat' (first | exact .nil | exact wkR_c | exact wkR_own | exact wkR_nils | refine wkR_int ?_ | refine wkR_bool ?_ | refine wkR_sl ?_ | refine wkR_osl ?_ | refine wkR_nsl ?_ | refine wkR_oo ?_ | refine wkR_no ?_ | refine .cons ?_ ?_ | refine wkR_agg ?_ | refine wkR_tup ?_)) <;> rfl) | (rw [← hq4_2, hdn]; (repeat' (first | exact .nil | exact wkR_c | exact wkR_own | exact wkR_nils | refine wkR_int ?_ | refine wkR_bool ?_ | refine wkR_sl ?_ | refine wkR_osl ?_ | refine wkR_nsl ?_ | refine wkR_oo ?_ | refine wkR_no ?_ | refine .cons ?_ ?_ | refine wkR_agg ?_ | refine wkR_tup ?_)) <;> first | rfl | (dsimp only; omega) | (dsimp only; rw [if_pos rfl, hee, List.drop_drop]))
      case b19 =>
       have hp19 := hb19
       try simp only [kb] at hp19
       all_goals try exact absurd hb19 (by decide)
       all_goals try (exfalso; omega)
       all_goals
        refine awp_skip ?_
        try simp only [rk_state]
        refine hK16 _ ?_
        refine awp_seq_k fun K22 hK22 => ?_
        refine awp_region_lit fun L23 hL23 => ?_
        refine aops_orunN 1 _ _ ?_
        simp only [qq, Nat.reduceBEq, reduceIte, Nat.reduceEqDiff, Nat.reduceAdd, Nat.reduceLeDiff, reduceCtorEq, Nat.reduceMul, Int.reduceToNat, s8t0, s8t5, s8t6, s8t7, hb13, hb19]
        refine aops_nil (hL23 _ ?_)
        simp only [qq, Nat.reduceBEq, reduceIte, Nat.reduceEqDiff, Nat.reduceAdd, Nat.reduceLeDiff, reduceCtorEq, Nat.reduceMul, Int.reduceToNat, s8t0, s8t5, s8t6, s8t7, hb13, hb19]
        try simp only [rk_state]
        refine hK22 _ ?_
        refine awp_seq_k fun K24 hK24 => ?_
        refine awp_seq_k fun K25 hK25 => ?_
        have hgl : (((l.drop (4 * k)).take 4).drop 1).length = 3 := by rw [List.length_drop, List.length_take]; omega
        refine awp_region_lit fun L26 hL26 => ?_
        refine aops_orunN 1 _ _ ?_
        simp only [qq, Nat.reduceBEq, reduceIte, Nat.reduceEqDiff, Nat.reduceAdd, Nat.reduceLeDiff, reduceCtorEq, Nat.reduceMul, Int.reduceToNat, s8t0, s8t5, s8t6, s8t7, hb13, hb19]
        refine aops_val (v := ?v27) rfl ?h27 ?_
        case h27 => simp only [qq, Nat.reduceBEq, reduceIte, Nat.reduceEqDiff, Nat.reduceAdd, Nat.reduceLeDiff, reduceCtorEq, Nat.reduceMul, Int.reduceToNat, s8t0, s8t5, s8t6, s8t7, hb13, hb19]; first | (rw [slc_lh un36 if4] <;> omega) | (rw [slc_lho un36 if4] <;> omega)
        simp only [qq, Nat.reduceBEq, reduceIte, Nat.reduceEqDiff, Nat.reduceAdd, Nat.reduceLeDiff, reduceCtorEq, Nat.reduceMul, Int.reduceToNat, s8t0, s8t5, s8t6, s8t7, hb13, hb19]
        refine aops_orunN 2 _ _ ?_
        simp only [qq, Nat.reduceBEq, reduceIte, Nat.reduceEqDiff, Nat.reduceAdd, Nat.reduceLeDiff, reduceCtorEq, Nat.reduceMul, Int.reduceToNat, s8t0, s8t5, s8t6, s8t7, hb13, hb19]
        refine aops_nil (hL26 _ ?_)
        simp only [qq, Nat.reduceBEq, reduceIte, Nat.reduceEqDiff, Nat.reduceAdd, Nat.reduceLeDiff, reduceCtorEq, Nat.reduceMul, Int.reduceToNat, s8t0, s8t5, s8t6, s8t7, hb13, hb19]
        try simp only [rk_state]
        refine hK25 _ ?_
        as_aux_lemma =>
         refine awp_block ?_
         refine awp_loopW (W := [23, 24, 25, 26, 9, 10, 27, 28, 29, 30, 31, 8, 32, 22]) (M := []) rfl rfl (fun kk s => ∃ (i : Nat), kk = 3 - i ∧ (i ≤ 3) ∧ s.t 8 = .c (.int .i64 (dAt (((l.drop (4 * k)).take 4).drop 1) i)) ∧ s.t 22 = .c (.int .i64 (i : Int))) ((fun (i : Nat) => 3 - i) (0)) ?i28 ?r28
         case i28 =>
          refine ⟨0, rfl, ?_, ?_, ?_⟩
          · first | omega | simp
          · (try simp only [qq, Nat.reduceBEq, reduceIte, Nat.reduceEqDiff, Nat.reduceAdd, Nat.reduceLeDiff, reduceCtorEq, Nat.reduceMul, Int.reduceToNat, s8t0, s8t5, s8t6, s8t7, hb13, hb19])
            all_goals rfl
          · (try simp only [qq, Nat.reduceBEq, reduceIte, Nat.reduceEqDiff, Nat.reduceAdd, Nat.reduceLeDiff, reduceCtorEq, Nat.reduceMul, Int.reduceToNat, s8t0, s8t5, s8t6, s8t7, hb13, hb19])
            all_goals (first | done | rfl | (simp only [AV.c.injEq, C.int.injEq, List.cons.injEq, and_true, true_and]; omega))
         case r28 =>
          rintro kk s hf ⟨i, rfl, hq10_0, s28t8, s28t22⟩ K28 hK28
          have s28f0 := hf 0 rfl (by (try simp only [qq, Nat.reduceBEq, reduceIte, Nat.reduceEqDiff, Nat.reduceAdd, Nat.reduceLeDiff, reduceCtorEq, Nat.reduceMul, Int.reduceToNat, kn, s8t0, s8t5, s8t6, s8t7, hb13, hb19]); all_goals rfl)
          simp only [qq, Nat.reduceBEq, reduceIte, Nat.reduceEqDiff, Nat.reduceAdd, Nat.reduceLeDiff, reduceCtorEq, Nat.reduceMul, Int.reduceToNat, s8t0, s8t5, s8t6, s8t7, hb13, hb19] at s28f0
          have s28f5 := hf 5 rfl (by (try simp only [qq, Nat.reduceBEq, reduceIte, Nat.reduceEqDiff, Nat.reduceAdd, Nat.reduceLeDiff, reduceCtorEq, Nat.reduceMul, Int.reduceToNat, kn, s8t0, s8t5, s8t6, s8t7, hb13, hb19]); all_goals rfl)
          simp only [qq, Nat.reduceBEq, reduceIte, Nat.reduceEqDiff, Nat.reduceAdd, Nat.reduceLeDiff, reduceCtorEq, Nat.reduceMul, Int.reduceToNat, s8t0, s8t5, s8t6, s8t7, hb13, hb19] at s28f5
          have s28f6 := hf 6 rfl (by (try simp only [qq, Nat.reduceBEq, reduceIte, Nat.reduceEqDiff, Nat.reduceAdd, Nat.reduceLeDiff, reduceCtorEq, Nat.reduceMul, Int.reduceToNat, kn, s8t0, s8t5, s8t6, s8t7, hb13, hb19]); all_goals rfl)
          simp only [qq, Nat.reduceBEq, reduceIte, Nat.reduceEqDiff, Nat.reduceAdd, Nat.reduceLeDiff, reduceCtorEq, Nat.reduceMul, Int.reduceToNat, s8t0, s8t5, s8t6, s8t7, hb13, hb19] at s28f6
          have s28f7 := hf 7 rfl (by (try simp only [qq, Nat.reduceBEq, reduceIte, Nat.reduceEqDiff, Nat.reduceAdd, Nat.reduceLeDiff, reduceCtorEq, Nat.reduceMul, Int.reduceToNat, kn, s8t0, s8t5, s8t6, s8t7, hb13, hb19]); all_goals rfl)
          simp only [qq, Nat.reduceBEq, reduceIte, Nat.reduceEqDiff, Nat.reduceAdd, Nat.reduceLeDiff, reduceCtorEq, Nat.reduceMul, Int.reduceToNat, s8t0, s8t5, s8t6, s8t7, hb13, hb19] at s28f7
          have s28f20 := hf 20 rfl (by (try simp only [qq, Nat.reduceBEq, reduceIte, Nat.reduceEqDiff, Nat.reduceAdd, Nat.reduceLeDiff, reduceCtorEq, Nat.reduceMul, Int.reduceToNat, kn, s8t0, s8t5, s8t6, s8t7, hb13, hb19]); all_goals rfl)
          simp only [qq, Nat.reduceBEq, reduceIte, Nat.reduceEqDiff, Nat.reduceAdd, Nat.reduceLeDiff, reduceCtorEq, Nat.reduceMul, Int.reduceToNat, s8t0, s8t5, s8t6, s8t7, hb13, hb19] at s28f20
          have s28f21 := hf 21 rfl (by (try simp only [qq, Nat.reduceBEq, reduceIte, Nat.reduceEqDiff, Nat.reduceAdd, Nat.reduceLeDiff, reduceCtorEq, Nat.reduceMul, Int.reduceToNat, kn, s8t0, s8t5, s8t6, s8t7, hb13, hb19]); all_goals rfl)
          simp only [qq, Nat.reduceBEq, reduceIte, Nat.reduceEqDiff, Nat.reduceAdd, Nat.reduceLeDiff, reduceCtorEq, Nat.reduceMul, Int.reduceToNat, s8t0, s8t5, s8t6, s8t7, hb13, hb19] at s28f21
          clear hf
          refine awp_seq_k fun K29 hK29 => ?_
          refine awp_region_lit fun L30 hL30 => ?_
          refine aops_orunN 1 _ _ ?_
          simp only [qq, Nat.reduceBEq, reduceIte, Nat.reduceEqDiff, Nat.reduceAdd, Nat.reduceLeDiff, reduceCtorEq, Nat.reduceMul, Int.reduceToNat, s8t0, s8t5, s8t6, s8t7, hb13, hb19, s28t8, s28t22, s28f0, s28f5, s28f6, s28f7, s28f20, s28f21]
          refine aops_nil (hL30 _ ?_)
          simp only [qq, Nat.reduceBEq, reduceIte, Nat.reduceEqDiff, Nat.reduceAdd, Nat.reduceLeDiff, reduceCtorEq, Nat.reduceMul, Int.reduceToNat, s8t0, s8t5, s8t6, s8t7, hb13, hb19, s28t8, s28t22, s28f0, s28f5, s28f6, s28f7, s28f20, s28f21]
          try simp only [rk_state]
          refine hK29 _ ?_
          refine awp_seq_k fun K31 hK31 => ?_
          refine awp_cond (t := ?t32) ?h32 (fun hb32 => ?a32) (fun hb32 => ?b32)
          case h32 => simp only [qq, Nat.reduceBEq, reduceIte, Nat.reduceEqDiff, Nat.reduceAdd, Nat.reduceLeDiff, reduceCtorEq, Nat.reduceMul, Int.reduceToNat, s8t0, s8t5, s8t6, s8t7, hb13, hb19, s28t8, s28t22, s28f0, s28f5, s28f6, s28f7, s28f20, s28f21]; rfl
          case a32 =>
           have hp32 := hb32
           try simp only [kb] at hp32
           all_goals try exact absurd hb32 (by decide)
           all_goals try (exfalso; omega)
           all_goals
            refine awp_skip ?_
            try simp only [rk_state]
            refine hK31 _ ?_
            refine awp_seq_k fun K33 hK33 => ?_
            refine awp_block ?_
            refine awp_seq_k fun K34 hK34 => ?_
            refine awp_region_lit fun L35 hL35 => ?_
            refine aops_orunN 1 _ _ ?_
            simp only [qq, Nat.reduceBEq, reduceIte, Nat.reduceEqDiff, Nat.reduceAdd, Nat.reduceLeDiff, reduceCtorEq, Nat.reduceMul, Int.reduceToNat, s8t0, s8t5, s8t6, s8t7, hb13, hb19, s28t8, s28t22, s28f0, s28f5, s28f6, s28f7, s28f20, s28f21, hb32]
            refine aops_val (v := ?v36) rfl ?h36 ?_
            case h36 => simp only [qq, Nat.reduceBEq, reduceIte, Nat.reduceEqDiff, Nat.reduceAdd, Nat.reduceLeDiff, reduceCtorEq, Nat.reduceMul, Int.reduceToNat, s8t0, s8t5, s8t6, s8t7, hb13, hb19, s28t8, s28t22, s28f0, s28f5, s28f6, s28f7, s28f20, s28f21, hb32]; first | (rw [idx_c un36 if4] <;> omega) | (rw [idx_o un36 if4] <;> omega) | (rw [idx_a un36 if4] <;> omega)
            simp only [qq, Nat.reduceBEq, reduceIte, Nat.reduceEqDiff, Nat.reduceAdd, Nat.reduceLeDiff, reduceCtorEq, Nat.reduceMul, Int.reduceToNat, s8t0, s8t5, s8t6, s8t7, hb13, hb19, s28t8, s28t22, s28f0, s28f5, s28f6, s28f7, s28f20, s28f21, hb32]
            refine aops_orunN 3 _ _ ?_
            simp only [qq, Nat.reduceBEq, reduceIte, Nat.reduceEqDiff, Nat.reduceAdd, Nat.reduceLeDiff, reduceCtorEq, Nat.reduceMul, Int.reduceToNat, s8t0, s8t5, s8t6, s8t7, hb13, hb19, s28t8, s28t22, s28f0, s28f5, s28f6, s28f7, s28f20, s28f21, hb32]
            refine aops_nil (hL35 _ ?_)
            simp only [qq, Nat.reduceBEq, reduceIte, Nat.reduceEqDiff, Nat.reduceAdd, Nat.reduceLeDiff, reduceCtorEq, Nat.reduceMul, Int.reduceToNat, s8t0, s8t5, s8t6, s8t7, hb13, hb19, s28t8, s28t22, s28f0, s28f5, s28f6, s28f7, s28f20, s28f21, hb32]
            try simp only [rk_state]
            refine hK34 _ ?_
            refine awp_seq_k fun K37 hK37 => ?_
            refine awp_region_lit fun L38 hL38 => ?_
            refine aops_orunN 1 _ _ ?_
            simp only [qq, Nat.reduceBEq, reduceIte, Nat.reduceEqDiff, Nat.reduceAdd, Nat.reduceLeDiff, reduceCtorEq, Nat.reduceMul, Int.reduceToNat, s8t0, s8t5, s8t6, s8t7, hb13, hb19, s28t8, s28t22, s28f0, s28f5, s28f6, s28f7, s28f20, s28f21, hb32]
            refine aops_nil (hL38 _ ?_)
            simp only [qq, Nat.reduceBEq, reduceIte, Nat.reduceEqDiff, Nat.reduceAdd, Nat.reduceLeDiff, reduceCtorEq, Nat.reduceMul, Int.reduceToNat, s8t0, s8t5, s8t6, s8t7, hb13, hb19, s28t8, s28t22, s28f0, s28f5, s28f6, s28f7, s28f20, s28f21, hb32]
            try simp only [rk_state]
            refine hK37 _ ?_
            as_aux_lemma =>
             refine awp_cond (t := ?t39) ?h39 (fun hb39 => ?a39) (fun hb39 => ?b39)
             case h39 => simp only [qq, Nat.reduceBEq, reduceIte, Nat.reduceEqDiff, Nat.reduceAdd, Nat.reduceLeDiff, reduceCtorEq, Nat.reduceMul, Int.reduceToNat, s8t0, s8t5, s8t6, s8t7, hb13, hb19, s28t8, s28t22, s28f0, s28f5, s28f6, s28f7, s28f20, s28f21, hb32]; rfl
             case a39 =>
              have hp39 := hb39
              try simp only [kb] at hp39
              all_goals try exact absurd hb39 (by decide)
              all_goals try (exfalso; omega)
              all_goals
               have hmin : min (i : Int).toNat IntKind.i64.bits = i := by show min _ 64 = _; omega
               have hdp := div_pow_le (a := 4) (by omega) i
               have hda := dAt_in (((l.drop (4 * k)).take 4).drop 1) i
               refine awp_region_lit fun L40 hL40 => ?_
               refine aops_orunN 2 _ _ ?_
               simp only [qq, Nat.reduceBEq, reduceIte, Nat.reduceEqDiff, Nat.reduceAdd, Nat.reduceLeDiff, reduceCtorEq, Nat.reduceMul, Int.reduceToNat, s8t0, s8t5, s8t6, s8t7, hb13, hb19, s28t8, s28t22, s28f0, s28f5, s28f6, s28f7, s28f20, s28f21, hb32, hb39]
               refine aops_val (v := ?v41) rfl ?h41 ?_
               case h41 => simp only [qq, Nat.reduceBEq, reduceIte, Nat.reduceEqDiff, Nat.reduceAdd, Nat.reduceLeDiff, reduceCtorEq, Nat.reduceMul, Int.reduceToNat, s8t0, s8t5, s8t6, s8t7, hb13, hb19, s28t8, s28t22, s28f0, s28f5, s28f6, s28f7, s28f20, s28f21, hb32, hb39]; (rw [y_shr (by omega), hmin, fdiv_pow (by omega)])
               simp only [qq, Nat.reduceBEq, reduceIte, Nat.reduceEqDiff, Nat.reduceAdd, Nat.reduceLeDiff, reduceCtorEq, Nat.reduceMul, Int.reduceToNat, s8t0, s8t5, s8t6, s8t7, hb13, hb19, s28t8, s28t22, s28f0, s28f5, s28f6, s28f7, s28f20, s28f21, hb32, hb39]
               refine aops_val (v := ?v42) rfl ?h42 ?_
               case h42 => simp only [qq, Nat.reduceBEq, reduceIte, Nat.reduceEqDiff, Nat.reduceAdd, Nat.reduceLeDiff, reduceCtorEq, Nat.reduceMul, Int.reduceToNat, s8t0, s8t5, s8t6, s8t7, hb13, hb19, s28t8, s28t22, s28f0, s28f5, s28f6, s28f7, s28f20, s28f21, hb32, hb39]; first | (rw [wr_id] <;> omega) | rfl
               simp only [qq, Nat.reduceBEq, reduceIte, Nat.reduceEqDiff, Nat.reduceAdd, Nat.reduceLeDiff, reduceCtorEq, Nat.reduceMul, Int.reduceToNat, s8t0, s8t5, s8t6, s8t7, hb13, hb19, s28t8, s28t22, s28f0, s28f5, s28f6, s28f7, s28f20, s28f21, hb32, hb39]
               refine aops_orunN 1 _ _ ?_
               simp only [qq, Nat.reduceBEq, reduceIte, Nat.reduceEqDiff, Nat.reduceAdd, Nat.reduceLeDiff, reduceCtorEq, Nat.reduceMul, Int.reduceToNat, s8t0, s8t5, s8t6, s8t7, hb13, hb19, s28t8, s28t22, s28f0, s28f5, s28f6, s28f7, s28f20, s28f21, hb32, hb39]
               refine aops_nil (hL40 _ ?_)
               simp only [qq, Nat.reduceBEq, reduceIte, Nat.reduceEqDiff, Nat.reduceAdd, Nat.reduceLeDiff, reduceCtorEq, Nat.reduceMul, Int.reduceToNat, s8t0, s8t5, s8t6, s8t7, hb13, hb19, s28t8, s28t22, s28f0, s28f5, s28f6, s28f7, s28f20, s28f21, hb32, hb39]
               try simp only [rk_state]
               try simp only [rk_state]
               refine hK33 _ ?_
               refine awp_region_lit fun L43 hL43 => ?_
               refine aops_val (v := ?v44) rfl ?h44 ?_
               case h44 => simp only [qq, Nat.reduceBEq, reduceIte, Nat.reduceEqDiff, Nat.reduceAdd, Nat.reduceLeDiff, reduceCtorEq, Nat.reduceMul, Int.reduceToNat, s8t0, s8t5, s8t6, s8t7, hb13, hb19, s28t8, s28t22, s28f0, s28f5, s28f6, s28f7, s28f20, s28f21, hb32, hb39]; first | (rw [wr_id] <;> omega) | rfl
               simp only [qq, Nat.reduceBEq, reduceIte, Nat.reduceEqDiff, Nat.reduceAdd, Nat.reduceLeDiff, reduceCtorEq, Nat.reduceMul, Int.reduceToNat, s8t0, s8t5, s8t6, s8t7, hb13, hb19, s28t8, s28t22, s28f0, s28f5, s28f6, s28f7, s28f20, s28f21, hb32, hb39]
               refine aops_orunN 1 _ _ ?_
               simp only [qq, Nat.reduceBEq, reduceIte, Nat.reduceEqDiff, Nat.reduceAdd, Nat.reduceLeDiff, reduceCtorEq, Nat.reduceMul, Int.reduceToNat, s8t0, s8t5, s8t6, s8t7, hb13, hb19, s28t8, s28t22, s28f0, s28f5, s28f6, s28f7, s28f20, s28f21, hb32, hb39]
               refine aops_nil (hL43 _ ?_)
               simp only [qq, Nat.reduceBEq, reduceIte, Nat.reduceEqDiff, Nat.reduceAdd, Nat.reduceLeDiff, reduceCtorEq, Nat.reduceMul, Int.reduceToNat, s8t0, s8t5, s8t6, s8t7, hb13, hb19, s28t8, s28t22, s28f0, s28f5, s28f6, s28f7, s28f20, s28f21, hb32, hb39]
               try simp only [rk_state]
               have hdn := dAt_next (b := (((l.drop (4 * k)).take 4).drop 1)) (i := i) (by omega)
               refine hK28 _ ((fun (i : Nat) => 3 - i) (i + 1)) ?_ ⟨i + 1, rfl, ?_, ?_, ?_⟩
               · (try simp only []); omega
               · first | omega | simp
               · (try simp only [qq, Nat.reduceBEq, reduceIte, Nat.reduceEqDiff, Nat.reduceAdd, Nat.reduceLeDiff, reduceCtorEq, Nat.reduceMul, Int.reduceToNat, s8t0, s8t5, s8t6, s8t7, hb13, hb19, s28t8, s28t22, s28f0, s28f5, s28f6, s28f7, s28f20, s28f21, hb32, hb39])
                 all_goals (first | (rw [hdn, if_pos (by assumption)]; done) | (rw [hdn, if_neg (by simp_all), Int.add_zero]; done))
               · (try simp only [qq, Nat.reduceBEq, reduceIte, Nat.reduceEqDiff, Nat.reduceAdd, Nat.reduceLeDiff, reduceCtorEq, Nat.reduceMul, Int.reduceToNat, s8t0, s8t5, s8t6, s8t7, hb13, hb19, s28t8, s28t22, s28f0, s28f5, s28f6, s28f7, s28f20, s28f21, hb32, hb39])
                 all_goals (first | done | rfl | (simp only [AV.c.injEq, C.int.injEq, List.cons.injEq, and_true, true_and]; omega))
             case b39 =>
              have hp39 := hb39
              try simp only [kb] at hp39
              all_goals try exact absurd hb39 (by decide)
              all_goals try (exfalso; omega)
              all_goals
               refine awp_skip ?_
               try simp only [rk_state]
               try simp only [rk_state]
               refine hK33 _ ?_
               refine awp_region_lit fun L45 hL45 => ?_
               refine aops_val (v := ?v46) rfl ?h46 ?_
               case h46 => simp only [qq, Nat.reduceBEq, reduceIte, Nat.reduceEqDiff, Nat.reduceAdd, Nat.reduceLeDiff, reduceCtorEq, Nat.reduceMul, Int.reduceToNat, s8t0, s8t5, s8t6, s8t7, hb13, hb19, s28t8, s28t22, s28f0, s28f5, s28f6, s28f7, s28f20, s28f21, hb32, hb39]; first | (rw [wr_id] <;> omega) | rfl
               simp only [qq, Nat.reduceBEq, reduceIte, Nat.reduceEqDiff, Nat.reduceAdd, Nat.reduceLeDiff, reduceCtorEq, Nat.reduceMul, Int.reduceToNat, s8t0, s8t5, s8t6, s8t7, hb13, hb19, s28t8, s28t22, s28f0, s28f5, s28f6, s28f7, s28f20, s28f21, hb32, hb39]
               refine aops_orunN 1 _ _ ?_
               simp only [qq, Nat.reduceBEq, reduceIte, Nat.reduceEqDiff, Nat.reduceAdd, Nat.reduceLeDiff, reduceCtorEq, Nat.reduceMul, Int.reduceToNat, s8t0, s8t5, s8t6, s8t7, hb13, hb19, s28t8, s28t22, s28f0, s28f5, s28f6, s28f7, s28f20, s28f21, hb32, hb39]
               refine aops_nil (hL45 _ ?_)
               simp only [qq, Nat.reduceBEq, reduceIte, Nat.reduceEqDiff, Nat.reduceAdd, Nat.reduceLeDiff, reduceCtorEq, Nat.reduceMul, Int.reduceToNat, s8t0, s8t5, s8t6, s8t7, hb13, hb19, s28t8, s28t22, s28f0, s28f5, s28f6, s28f7, s28f20, s28f21, hb32, hb39]
               try simp only [rk_state]
               have hdn := dAt_next (b := (((l.drop (4 * k)).take 4).drop 1)) (i := i) (by omega)
               refine hK28 _ ((fun (i : Nat) => 3 - i) (i + 1)) ?_ ⟨i + 1, rfl, ?_, ?_, ?_⟩
               · (try simp only []); omega
               · first | omega | simp
               · (try simp only [qq, Nat.reduceBEq, reduceIte, Nat.reduceEqDiff, Nat.reduceAdd, Nat.reduceLeDiff, reduceCtorEq, Nat.reduceMul, Int.reduceToNat, s8t0, s8t5, s8t6, s8t7, hb13, hb19, s28t8, s28t22, s28f0, s28f5, s28f6, s28f7, s28f20, s28f21, hb32, hb39])
                 all_goals (first | (rw [hdn, if_pos (by assumption)]; done) | (rw [hdn, if_neg (by simp_all), Int.add_zero]; done))
               · (try simp only [qq, Nat.reduceBEq, reduceIte, Nat.reduceEqDiff, Nat.reduceAdd, Nat.reduceLeDiff, reduceCtorEq, Nat.reduceMul, Int.reduceToNat, s8t0, s8t5, s8t6, s8t7, hb13, hb19, s28t8, s28t22, s28f0, s28f5, s28f6, s28f7, s28f20, s28f21, hb32, hb39])
                 all_goals (first | done | rfl | (simp only [AV.c.injEq, C.int.injEq, List.cons.injEq, and_true, true_and]; omega))
          case b32 =>
           have hp32 := hb32
           try simp only [kb] at hp32
           all_goals try exact absurd hb32 (by decide)
           all_goals try (exfalso; omega)
           all_goals
            refine awp_exit ?_
            simp only [rk_state, reduceIte, Nat.reduceEqDiff]
            try simp only [rk_state]
            refine hK24 _ ?_
            as_aux_lemma =>
             refine awp_seq_k fun K47 hK47 => ?_
             refine awp_seq_k fun K48 hK48 => ?_
             have ei : i = 3 := by omega
             subst ei
             have hda := dAt_in (((l.drop (4 * k)).take 4).drop 1) 3
             have hm8 := group_mod (l := l.drop (4 * k)) (by omega)
             have hp8 := pow8 (k := k) (by omega)
             have hmb := mul_bd (a := dAt (((l.drop (4 * k)).take 4).drop 1) 3) (b := 8 ^ k) (c := 16777216) (by omega) (by omega) (by omega) (by omega)
             refine awp_region_lit fun L49 hL49 => ?_
             refine aops_orunN 3 _ _ ?_
             simp only [qq, Nat.reduceBEq, reduceIte, Nat.reduceEqDiff, Nat.reduceAdd, Nat.reduceLeDiff, reduceCtorEq, Nat.reduceMul, Int.reduceToNat, s8t0, s8t5, s8t6, s8t7, hb13, hb19, s28t8, s28t22, s28f0, s28f5, s28f6, s28f7, s28f20, s28f21, hb32]
             refine aops_part (b := ?p50) 35 ?h50 (fun hb50 => ?a50) (fun hb50 => ?b50)
             case h50 => simp only [qq, Nat.reduceBEq, reduceIte, Nat.reduceEqDiff, Nat.reduceAdd, Nat.reduceLeDiff, reduceCtorEq, Nat.reduceMul, Int.reduceToNat, s8t0, s8t5, s8t6, s8t7, hb13, hb19, s28t8, s28t22, s28f0, s28f5, s28f6, s28f7, s28f20, s28f21, hb32]; rfl
             case a50 =>
              have hp50 := hb50
              try simp only [kb] at hp50
              all_goals try exact absurd hb50 (by decide)
              all_goals try (exfalso; omega)
              all_goals
               try simp only [hb50]
               refine aops_orunN 4 _ _ ?_
               simp only [qq, Nat.reduceBEq, reduceIte, Nat.reduceEqDiff, Nat.reduceAdd, Nat.reduceLeDiff, reduceCtorEq, Nat.reduceMul, Int.reduceToNat, s8t0, s8t5, s8t6, s8t7, hb13, hb19, s28t8, s28t22, s28f0, s28f5, s28f6, s28f7, s28f20, s28f21, hb32, hb50]
               refine aops_part (b := ?p51) 39 ?h51 (fun hb51 => ?a51) (fun hb51 => ?b51)
               case h51 => simp only [qq, Nat.reduceBEq, reduceIte, Nat.reduceEqDiff, Nat.reduceAdd, Nat.reduceLeDiff, reduceCtorEq, Nat.reduceMul, Int.reduceToNat, s8t0, s8t5, s8t6, s8t7, hb13, hb19, s28t8, s28t22, s28f0, s28f5, s28f6, s28f7, s28f20, s28f21, hb32, hb50]; rfl
               case a51 =>
                have hp51 := hb51
                try simp only [kb] at hp51
                all_goals try exact absurd hb51 (by decide)
                all_goals try (exfalso; omega)
                all_goals
                 try simp only [hb51]
                 refine aops_orunN 1 _ _ ?_
                 simp only [qq, Nat.reduceBEq, reduceIte, Nat.reduceEqDiff, Nat.reduceAdd, Nat.reduceLeDiff, reduceCtorEq, Nat.reduceMul, Int.reduceToNat, s8t0, s8t5, s8t6, s8t7, hb13, hb19, s28t8, s28t22, s28f0, s28f5, s28f6, s28f7, s28f20, s28f21, hb32, hb50, hb51]
                 refine aops_val (v := ?v52) (by simp only [qq, Nat.reduceBEq, reduceIte, Nat.reduceEqDiff, Nat.reduceAdd, Nat.reduceLeDiff, reduceCtorEq, Nat.reduceMul, Int.reduceToNat, s8t0, s8t5, s8t6, s8t7, hb13, hb19, s28t8, s28t22, s28f0, s28f5, s28f6, s28f7, s28f20, s28f21, hb32, hb50, hb51]) ?h52 ?_
                 case h52 => simp only [qq, Nat.reduceBEq, reduceIte, Nat.reduceEqDiff, Nat.reduceAdd, Nat.reduceLeDiff, reduceCtorEq, Nat.reduceMul, Int.reduceToNat, s8t0, s8t5, s8t6, s8t7, hb13, hb19, s28t8, s28t22, s28f0, s28f5, s28f6, s28f7, s28f20, s28f21, hb32, hb50, hb51]; first | (rw [idx_c un36 if4] <;> omega) | (rw [idx_o un36 if4] <;> omega) | (rw [idx_a un36 if4] <;> omega)
                 simp only [qq, Nat.reduceBEq, reduceIte, Nat.reduceEqDiff, Nat.reduceAdd, Nat.reduceLeDiff, reduceCtorEq, Nat.reduceMul, Int.reduceToNat, s8t0, s8t5, s8t6, s8t7, hb13, hb19, s28t8, s28t22, s28f0, s28f5, s28f6, s28f7, s28f20, s28f21, hb32, hb50, hb51]
                 refine aops_orunN 3 _ _ ?_
                 simp only [qq, Nat.reduceBEq, reduceIte, Nat.reduceEqDiff, Nat.reduceAdd, Nat.reduceLeDiff, reduceCtorEq, Nat.reduceMul, Int.reduceToNat, s8t0, s8t5, s8t6, s8t7, hb13, hb19, s28t8, s28t22, s28f0, s28f5, s28f6, s28f7, s28f20, s28f21, hb32, hb50, hb51]
                 refine aops_nil (hL49 _ ?_)
                 simp only [qq, Nat.reduceBEq, reduceIte, Nat.reduceEqDiff, Nat.reduceAdd, Nat.reduceLeDiff, reduceCtorEq, Nat.reduceMul, Int.reduceToNat, s8t0, s8t5, s8t6, s8t7, hb13, hb19, s28t8, s28t22, s28f0, s28f5, s28f6, s28f7, s28f20, s28f21, hb32, hb50, hb51]
                 try simp only [rk_state]
                 refine hK48 _ ?_
                 refine awp_cond (t := ?t53) ?h53 (fun hb53 => ?a53) (fun hb53 => ?b53)
                 case h53 => simp only [qq, Nat.reduceBEq, reduceIte, Nat.reduceEqDiff, Nat.reduceAdd, Nat.reduceLeDiff, reduceCtorEq, Nat.reduceMul, Int.reduceToNat, s8t0, s8t5, s8t6, s8t7, hb13, hb19, s28t8, s28t22, s28f0, s28f5, s28f6, s28f7, s28f20, s28f21, hb32, hb50, hb51]; rfl
                 case a53 =>
                  have hp53 := hb53
                  try simp only [kb] at hp53
                  all_goals try exact absurd hb53 (by decide)
                  all_goals try (exfalso; omega)
                  all_goals
                   refine awp_seq_k fun K54 hK54 => ?_
                   have hx := group_f (l := l.drop (4 * k)) (by omega) (by assumption)
                   refine awp_region_lit fun L55 hL55 => ?_
                   refine aops_orunN 3 _ _ ?_
                   simp only [qq, Nat.reduceBEq, reduceIte, Nat.reduceEqDiff, Nat.reduceAdd, Nat.reduceLeDiff, reduceCtorEq, Nat.reduceMul, Int.reduceToNat, s8t0, s8t5, s8t6, s8t7, hb13, hb19, s28t8, s28t22, s28f0, s28f5, s28f6, s28f7, s28f20, s28f21, hb32, hb50, hb51, hb53]
                   refine aops_nil (hL55 _ ?_)
                   simp only [qq, Nat.reduceBEq, reduceIte, Nat.reduceEqDiff, Nat.reduceAdd, Nat.reduceLeDiff, reduceCtorEq, Nat.reduceMul, Int.reduceToNat, s8t0, s8t5, s8t6, s8t7, hb13, hb19, s28t8, s28t22, s28f0, s28f5, s28f6, s28f7, s28f20, s28f21, hb32, hb50, hb51, hb53]
                   try simp only [rk_state]
                   refine hK54 _ ?_
                   refine awp_ret ?_
                   try simp only [rk_state]
                   refine ⟨_, 0, by simp only [qq, Nat.reduceBEq, reduceIte, Nat.reduceEqDiff, Nat.reduceAdd, Nat.reduceLeDiff, reduceCtorEq, Nat.reduceMul, Int.reduceToNat, resA, Try.results42, s8t0, s8t5, s8t6, s8t7, hb13, hb19, s28t8, s28t22, s28f0, s28f5, s28f6, s28f7, s28f20, s28f21, hb32, hb50, hb51, hb53]; rfl, ?_, fun l hl => absurd rfl hl, fun l hl => absurd rfl hl⟩
                   simp only [packA]
                   unfold ztakeR; first | (rw [← hq4_2, show 8 - k = 0 from by omega, zr_zero]; (repeat' (first | exact .nil | exact wkR_c | exact wkR_own | exact wkR_nils | refine wkR_int ?_ | refine wkR_bool ?_ | refine wkR_sl ?_ | refine wkR_osl ?_ | refine wkR_nsl ?_ | refine wkR_oo ?_ | refine wkR_no ?_ | refine .cons ?_ ?_ | refine wkR_agg ?_ | refine wkR_tup ?_)) <;> rfl) | (rw [← hq4_2, zr_torn (by omega) (by omega)]; (repeat' (first | exact .nil | exact wkR_c | exact wkR_own | exact wkR_nils | refine wkR_int ?_ | refine wkR_bool ?_ | refine wkR_sl ?_ | refine wkR_osl ?_ | refine wkR_nsl ?_ | refine wkR_oo ?_ | refine wkR_no ?_ | refine .cons ?_ ?_ | refine wkR_agg ?_ | refine wkR_tup ?_)) <;> rfl) | (rw [← hq4_2, zr_form (by omega) (by omega) (by omega) (by omega)]; (repeat' (first | exact .nil | exact wkR_c | exact wkR_own | exact wkR_nils | refine wkR_int ?_ | refine wkR_bool ?_ | refine wkR_sl ?_ | refine wkR_osl ?_ | refine wkR_nsl ?_ | refine wkR_oo ?_ | refine wkR_no ?_ | refine .cons ?_ ?_ | refine wkR_agg ?_ | refine wkR_tup ?_)) <;> rfl) | (rw [← hq4_2, zr_range (by omega) (by omega) hnf (by rw [hm8]; omega)]; (repeat' (first | exact .nil | exact wkR_c | exact wkR_own | exact wkR_nils | refine wkR_int ?_ | refine wkR_bool ?_ | refine wkR_sl ?_ | refine wkR_osl ?_ | refine wkR_nsl ?_ | refine wkR_oo ?_ | refine wkR_no ?_ | refine .cons ?_ ?_ | refine wkR_agg ?_ | refine wkR_tup ?_)) <;> rfl) | (rw [← hq4_2, hdn]; (repeat' (first | exact .nil | exact wkR_c | exact wkR_own | exact wkR_nils | refine wkR_int ?_ | refine wkR_bool ?_ | refine wkR_sl ?_ | refine wkR_osl ?_ | refine wkR_nsl ?_ | refine wkR_oo ?_ | refine wkR_no ?_ | refine .cons ?_ ?_ | refine wkR_agg ?_ | refine wkR_tup ?_)) <;> first | rfl | (dsimp only; omega) | (dsimp only; rw [if_pos rfl, hee, List.drop_drop]))
                 case b53 =>
                  have hp53 := hb53
                  try simp only [kb] at hp53
                  all_goals try exact absurd hb53 (by decide)
                  all_goals try (exfalso; omega)
                  all_goals
                   refine awp_skip ?_
                   try simp only [rk_state]
                   refine hK47 _ ?_
                   refine awp_seq_k fun K56 hK56 => ?_
                   have hnf : ¬ ((readR (l.drop (4 * k)) 4).1 = 0 ∧ 0 < k) := by first | omega | (have h9 := group_t (l := l.drop (4 * k)) (by omega) (by assumption); omega)
                   refine awp_region_lit fun L57 hL57 => ?_
                   refine aops_orunN 3 _ _ ?_
                   simp only [qq, Nat.reduceBEq, reduceIte, Nat.reduceEqDiff, Nat.reduceAdd, Nat.reduceLeDiff, reduceCtorEq, Nat.reduceMul, Int.reduceToNat, s8t0, s8t5, s8t6, s8t7, hb13, hb19, s28t8, s28t22, s28f0, s28f5, s28f6, s28f7, s28f20, s28f21, hb32, hb50, hb51, hb53]
                   refine aops_val (v := ?v58) rfl ?h58 ?_
                   case h58 => simp only [qq, Nat.reduceBEq, reduceIte, Nat.reduceEqDiff, Nat.reduceAdd, Nat.reduceLeDiff, reduceCtorEq, Nat.reduceMul, Int.reduceToNat, s8t0, s8t5, s8t6, s8t7, hb13, hb19, s28t8, s28t22, s28f0, s28f5, s28f6, s28f7, s28f20, s28f21, hb32, hb50, hb51, hb53]; first | (rw [wr_id] <;> omega) | rfl
                   simp only [qq, Nat.reduceBEq, reduceIte, Nat.reduceEqDiff, Nat.reduceAdd, Nat.reduceLeDiff, reduceCtorEq, Nat.reduceMul, Int.reduceToNat, s8t0, s8t5, s8t6, s8t7, hb13, hb19, s28t8, s28t22, s28f0, s28f5, s28f6, s28f7, s28f20, s28f21, hb32, hb50, hb51, hb53]
                   refine aops_val (v := ?v59) rfl ?h59 ?_
                   case h59 => simp only [qq, Nat.reduceBEq, reduceIte, Nat.reduceEqDiff, Nat.reduceAdd, Nat.reduceLeDiff, reduceCtorEq, Nat.reduceMul, Int.reduceToNat, s8t0, s8t5, s8t6, s8t7, hb13, hb19, s28t8, s28t22, s28f0, s28f5, s28f6, s28f7, s28f20, s28f21, hb32, hb50, hb51, hb53]; first | (rw [wr_id] <;> omega) | rfl
                   simp only [qq, Nat.reduceBEq, reduceIte, Nat.reduceEqDiff, Nat.reduceAdd, Nat.reduceLeDiff, reduceCtorEq, Nat.reduceMul, Int.reduceToNat, s8t0, s8t5, s8t6, s8t7, hb13, hb19, s28t8, s28t22, s28f0, s28f5, s28f6, s28f7, s28f20, s28f21, hb32, hb50, hb51, hb53]
                   refine aops_orunN 1 _ _ ?_
                   simp only [qq, Nat.reduceBEq, reduceIte, Nat.reduceEqDiff, Nat.reduceAdd, Nat.reduceLeDiff, reduceCtorEq, Nat.reduceMul, Int.reduceToNat, s8t0, s8t5, s8t6, s8t7, hb13, hb19, s28t8, s28t22, s28f0, s28f5, s28f6, s28f7, s28f20, s28f21, hb32, hb50, hb51, hb53]
                   refine aops_nil (hL57 _ ?_)
                   simp only [qq, Nat.reduceBEq, reduceIte, Nat.reduceEqDiff, Nat.reduceAdd, Nat.reduceLeDiff, reduceCtorEq, Nat.reduceMul, Int.reduceToNat, s8t0, s8t5, s8t6, s8t7, hb13, hb19, s28t8, s28t22, s28f0, s28f5, s28f6, s28f7, s28f20, s28f21, hb32, hb50, hb51, hb53]
                   try simp only [rk_state]
                   refine hK56 _ ?_
                   as_aux_lemma =>
                    refine awp_seq_k fun K60 hK60 => ?_
                    refine awp_region_lit fun L61 hL61 => ?_
                    refine aops_orunN 1 _ _ ?_
                    simp only [qq, Nat.reduceBEq, reduceIte, Nat.reduceEqDiff, Nat.reduceAdd, Nat.reduceLeDiff, reduceCtorEq, Nat.reduceMul, Int.reduceToNat, s8t0, s8t5, s8t6, s8t7, hb13, hb19, s28t8, s28t22, s28f0, s28f5, s28f6, s28f7, s28f20, s28f21, hb32, hb50, hb51, hb53]
                    refine aops_val (v := ?v62) rfl ?h62 ?_
                    case h62 => simp only [qq, Nat.reduceBEq, reduceIte, Nat.reduceEqDiff, Nat.reduceAdd, Nat.reduceLeDiff, reduceCtorEq, Nat.reduceMul, Int.reduceToNat, s8t0, s8t5, s8t6, s8t7, hb13, hb19, s28t8, s28t22, s28f0, s28f5, s28f6, s28f7, s28f20, s28f21, hb32, hb50, hb51, hb53]; first | (rw [wr_id] <;> omega) | rfl
                    simp only [qq, Nat.reduceBEq, reduceIte, Nat.reduceEqDiff, Nat.reduceAdd, Nat.reduceLeDiff, reduceCtorEq, Nat.reduceMul, Int.reduceToNat, s8t0, s8t5, s8t6, s8t7, hb13, hb19, s28t8, s28t22, s28f0, s28f5, s28f6, s28f7, s28f20, s28f21, hb32, hb50, hb51, hb53]
                    refine aops_orunN 1 _ _ ?_
                    simp only [qq, Nat.reduceBEq, reduceIte, Nat.reduceEqDiff, Nat.reduceAdd, Nat.reduceLeDiff, reduceCtorEq, Nat.reduceMul, Int.reduceToNat, s8t0, s8t5, s8t6, s8t7, hb13, hb19, s28t8, s28t22, s28f0, s28f5, s28f6, s28f7, s28f20, s28f21, hb32, hb50, hb51, hb53]
                    refine aops_nil (hL61 _ ?_)
                    simp only [qq, Nat.reduceBEq, reduceIte, Nat.reduceEqDiff, Nat.reduceAdd, Nat.reduceLeDiff, reduceCtorEq, Nat.reduceMul, Int.reduceToNat, s8t0, s8t5, s8t6, s8t7, hb13, hb19, s28t8, s28t22, s28f0, s28f5, s28f6, s28f7, s28f20, s28f21, hb32, hb50, hb51, hb53]
                    try simp only [rk_state]
                    refine hK60 _ ?_
                    refine awp_seq_k fun K63 hK63 => ?_
                    refine awp_seq_k fun K64 hK64 => ?_
                    refine awp_region_lit fun L65 hL65 => ?_
                    refine aops_orunN 2 _ _ ?_
                    simp only [qq, Nat.reduceBEq, reduceIte, Nat.reduceEqDiff, Nat.reduceAdd, Nat.reduceLeDiff, reduceCtorEq, Nat.reduceMul, Int.reduceToNat, s8t0, s8t5, s8t6, s8t7, hb13, hb19, s28t8, s28t22, s28f0, s28f5, s28f6, s28f7, s28f20, s28f21, hb32, hb50, hb51, hb53]
                    refine aops_nil (hL65 _ ?_)
                    simp only [qq, Nat.reduceBEq, reduceIte, Nat.reduceEqDiff, Nat.reduceAdd, Nat.reduceLeDiff, reduceCtorEq, Nat.reduceMul, Int.reduceToNat, s8t0, s8t5, s8t6, s8t7, hb13, hb19, s28t8, s28t22, s28f0, s28f5, s28f6, s28f7, s28f20, s28f21, hb32, hb50, hb51, hb53]
                    try simp only [rk_state]
                    refine hK64 _ ?_
                    refine awp_cond (t := ?t66) ?h66 (fun hb66 => ?a66) (fun hb66 => ?b66)
                    case h66 => simp only [qq, Nat.reduceBEq, reduceIte, Nat.reduceEqDiff, Nat.reduceAdd, Nat.reduceLeDiff, reduceCtorEq, Nat.reduceMul, Int.reduceToNat, s8t0, s8t5, s8t6, s8t7, hb13, hb19, s28t8, s28t22, s28f0, s28f5, s28f6, s28f7, s28f20, s28f21, hb32, hb50, hb51, hb53]; rfl
                    case a66 =>
                     have hp66 := hb66
                     try simp only [kb] at hp66
                     all_goals try exact absurd hb66 (by decide)
                     all_goals try (exfalso; omega)
                     all_goals
                      refine awp_seq_k fun K67 hK67 => ?_
                      refine awp_region_lit fun L68 hL68 => ?_
                      refine aops_orunN 3 _ _ ?_
                      simp only [qq, Nat.reduceBEq, reduceIte, Nat.reduceEqDiff, Nat.reduceAdd, Nat.reduceLeDiff, reduceCtorEq, Nat.reduceMul, Int.reduceToNat, s8t0, s8t5, s8t6, s8t7, hb13, hb19, s28t8, s28t22, s28f0, s28f5, s28f6, s28f7, s28f20, s28f21, hb32, hb50, hb51, hb53, hb66]
                      refine aops_nil (hL68 _ ?_)
                      simp only [qq, Nat.reduceBEq, reduceIte, Nat.reduceEqDiff, Nat.reduceAdd, Nat.reduceLeDiff, reduceCtorEq, Nat.reduceMul, Int.reduceToNat, s8t0, s8t5, s8t6, s8t7, hb13, hb19, s28t8, s28t22, s28f0, s28f5, s28f6, s28f7, s28f20, s28f21, hb32, hb50, hb51, hb53, hb66]
                      try simp only [rk_state]
                      refine hK67 _ ?_
                      as_aux_lemma =>
                       refine awp_ret ?_
                       try simp only [rk_state]
                       refine ⟨_, 0, by simp only [qq, Nat.reduceBEq, reduceIte, Nat.reduceEqDiff, Nat.reduceAdd, Nat.reduceLeDiff, reduceCtorEq, Nat.reduceMul, Int.reduceToNat, resA, Try.results42, s8t0, s8t5, s8t6, s8t7, hb13, hb19, s28t8, s28t22, s28f0, s28f5, s28f6, s28f7, s28f20, s28f21, hb32, hb50, hb51, hb53, hb66]; rfl, ?_, fun l hl => absurd rfl hl, fun l hl => absurd rfl hl⟩
                       simp only [packA]
                       unfold ztakeR; first | (rw [← hq4_2, show 8 - k = 0 from by omega, zr_zero]; (repeat' (first | exact .nil | exact wkR_c | exact wkR_own | exact wkR_nils | refine wkR_int ?_ | refine wkR_bool ?_ | refine wkR_sl ?_ | refine wkR_osl ?_ | refine wkR_nsl ?_ | refine wkR_oo ?_ | refine wkR_no ?_ | refine .cons ?_ ?_ | refine wkR_agg ?_ | refine wkR_tup ?_)) <;> rfl) | (rw [← hq4_2, zr_torn (by omega) (by omega)]; (repeat' (first | exact .nil | exact wkR_c | exact wkR_own | exact wkR_nils | refine wkR_int ?_ | refine wkR_bool ?_ | refine wkR_sl ?_ | refine wkR_osl ?_ | refine wkR_nsl ?_ | refine wkR_oo ?_ | refine wkR_no ?_ | refine .cons ?_ ?_ | refine wkR_agg ?_ | refine wkR_tup ?_)) <;> rfl) | (rw [← hq4_2, zr_form (by omega) (by omega) (by omega) (by omega)]; (repeat' (first | exact .nil | exact wkR_c | exact wkR_own | exact wkR_nils | refine wkR_int ?_ | refine wkR_bool ?_ | refine wkR_sl ?_ | refine wkR_osl ?_ | refine wkR_nsl ?_ | refine wkR_oo ?_ | refine wkR_no ?_ | refine .cons ?_ ?_ | refine wkR_agg ?_ | refine wkR_tup ?_)) <;> rfl) | (rw [← hq4_2, zr_range (by omega) (by omega) hnf (by rw [hm8]; omega)]; (repeat' (first | exact .nil | exact wkR_c | exact wkR_own | exact wkR_nils | refine wkR_int ?_ | refine wkR_bool ?_ | refine wkR_sl ?_ | refine wkR_osl ?_ | refine wkR_nsl ?_ | refine wkR_oo ?_ | refine wkR_no ?_ | refine .cons ?_ ?_ | refine wkR_agg ?_ | refine wkR_tup ?_)) <;> rfl) | (rw [← hq4_2, hdn]; (repeat' (first | exact .nil | exact wkR_c | exact wkR_own | exact wkR_nils | refine wkR_int ?_ | refine wkR_bool ?_ | refine wkR_sl ?_ | refine wkR_osl ?_ | refine wkR_nsl ?_ | refine wkR_oo ?_ | refine wkR_no ?_ | refine .cons ?_ ?_ | refine wkR_agg ?_ | refine wkR_tup ?_)) <;> first | rfl | (dsimp only; omega) | (dsimp only; rw [if_pos rfl, hee, List.drop_drop]))
                    case b66 =>
                     have hp66 := hb66
                     try simp only [kb] at hp66
                     all_goals try exact absurd hb66 (by decide)
                     all_goals try (exfalso; omega)
                     all_goals
                      refine awp_skip ?_
                      try simp only [rk_state]
                      refine hK63 _ ?_
                      refine awp_seq_k fun K69 hK69 => ?_
                      refine awp_region_lit fun L70 hL70 => ?_
                      refine aops_orunN 1 _ _ ?_
                      simp only [qq, Nat.reduceBEq, reduceIte, Nat.reduceEqDiff, Nat.reduceAdd, Nat.reduceLeDiff, reduceCtorEq, Nat.reduceMul, Int.reduceToNat, s8t0, s8t5, s8t6, s8t7, hb13, hb19, s28t8, s28t22, s28f0, s28f5, s28f6, s28f7, s28f20, s28f21, hb32, hb50, hb51, hb53, hb66]
                      refine aops_val (v := ?v71) rfl ?h71 ?_
                      case h71 => simp only [qq, Nat.reduceBEq, reduceIte, Nat.reduceEqDiff, Nat.reduceAdd, Nat.reduceLeDiff, reduceCtorEq, Nat.reduceMul, Int.reduceToNat, s8t0, s8t5, s8t6, s8t7, hb13, hb19, s28t8, s28t22, s28f0, s28f5, s28f6, s28f7, s28f20, s28f21, hb32, hb50, hb51, hb53, hb66]; first | (rw [idx_c un36 if4] <;> omega) | (rw [idx_o un36 if4] <;> omega) | (rw [idx_a un36 if4] <;> omega)
                      simp only [qq, Nat.reduceBEq, reduceIte, Nat.reduceEqDiff, Nat.reduceAdd, Nat.reduceLeDiff, reduceCtorEq, Nat.reduceMul, Int.reduceToNat, s8t0, s8t5, s8t6, s8t7, hb13, hb19, s28t8, s28t22, s28f0, s28f5, s28f6, s28f7, s28f20, s28f21, hb32, hb50, hb51, hb53, hb66]
                      refine aops_orunN 2 _ _ ?_
                      simp only [qq, Nat.reduceBEq, reduceIte, Nat.reduceEqDiff, Nat.reduceAdd, Nat.reduceLeDiff, reduceCtorEq, Nat.reduceMul, Int.reduceToNat, s8t0, s8t5, s8t6, s8t7, hb13, hb19, s28t8, s28t22, s28f0, s28f5, s28f6, s28f7, s28f20, s28f21, hb32, hb50, hb51, hb53, hb66]
                      refine aops_nil (hL70 _ ?_)
                      simp only [qq, Nat.reduceBEq, reduceIte, Nat.reduceEqDiff, Nat.reduceAdd, Nat.reduceLeDiff, reduceCtorEq, Nat.reduceMul, Int.reduceToNat, s8t0, s8t5, s8t6, s8t7, hb13, hb19, s28t8, s28t22, s28f0, s28f5, s28f6, s28f7, s28f20, s28f21, hb32, hb50, hb51, hb53, hb66]
                      try simp only [rk_state]
                      refine hK69 _ ?_
                      refine awp_seq_k fun K72 hK72 => ?_
                      refine awp_region_lit fun L73 hL73 => ?_
                      refine aops_orunN 1 _ _ ?_
                      simp only [qq, Nat.reduceBEq, reduceIte, Nat.reduceEqDiff, Nat.reduceAdd, Nat.reduceLeDiff, reduceCtorEq, Nat.reduceMul, Int.reduceToNat, s8t0, s8t5, s8t6, s8t7, hb13, hb19, s28t8, s28t22, s28f0, s28f5, s28f6, s28f7, s28f20, s28f21, hb32, hb50, hb51, hb53, hb66]
                      refine aops_val (v := ?v74) rfl ?h74 ?_
                      case h74 => simp only [qq, Nat.reduceBEq, reduceIte, Nat.reduceEqDiff, Nat.reduceAdd, Nat.reduceLeDiff, reduceCtorEq, Nat.reduceMul, Int.reduceToNat, s8t0, s8t5, s8t6, s8t7, hb13, hb19, s28t8, s28t22, s28f0, s28f5, s28f6, s28f7, s28f20, s28f21, hb32, hb50, hb51, hb53, hb66]; first | (rw [slc_l un36 if4] <;> omega) | (rw [slc_lo un36 if4] <;> omega)
                      simp only [qq, Nat.reduceBEq, reduceIte, Nat.reduceEqDiff, Nat.reduceAdd, Nat.reduceLeDiff, reduceCtorEq, Nat.reduceMul, Int.reduceToNat, s8t0, s8t5, s8t6, s8t7, hb13, hb19, s28t8, s28t22, s28f0, s28f5, s28f6, s28f7, s28f20, s28f21, hb32, hb50, hb51, hb53, hb66]
                      refine aops_orunN 1 _ _ ?_
                      simp only [qq, Nat.reduceBEq, reduceIte, Nat.reduceEqDiff, Nat.reduceAdd, Nat.reduceLeDiff, reduceCtorEq, Nat.reduceMul, Int.reduceToNat, s8t0, s8t5, s8t6, s8t7, hb13, hb19, s28t8, s28t22, s28f0, s28f5, s28f6, s28f7, s28f20, s28f21, hb32, hb50, hb51, hb53, hb66]
                      refine aops_nil (hL73 _ ?_)
                      simp only [qq, Nat.reduceBEq, reduceIte, Nat.reduceEqDiff, Nat.reduceAdd, Nat.reduceLeDiff, reduceCtorEq, Nat.reduceMul, Int.reduceToNat, s8t0, s8t5, s8t6, s8t7, hb13, hb19, s28t8, s28t22, s28f0, s28f5, s28f6, s28f7, s28f20, s28f21, hb32, hb50, hb51, hb53, hb66]
                      try simp only [rk_state]
                      refine hK72 _ ?_
                      refine awp_seq_k fun K75 hK75 => ?_
                      refine awp_region_lit fun L76 hL76 => ?_
                      refine aops_orunN 2 _ _ ?_
                      simp only [qq, Nat.reduceBEq, reduceIte, Nat.reduceEqDiff, Nat.reduceAdd, Nat.reduceLeDiff, reduceCtorEq, Nat.reduceMul, Int.reduceToNat, s8t0, s8t5, s8t6, s8t7, hb13, hb19, s28t8, s28t22, s28f0, s28f5, s28f6, s28f7, s28f20, s28f21, hb32, hb50, hb51, hb53, hb66]
                      refine aops_nil (hL76 _ ?_)
                      simp only [qq, Nat.reduceBEq, reduceIte, Nat.reduceEqDiff, Nat.reduceAdd, Nat.reduceLeDiff, reduceCtorEq, Nat.reduceMul, Int.reduceToNat, s8t0, s8t5, s8t6, s8t7, hb13, hb19, s28t8, s28t22, s28f0, s28f5, s28f6, s28f7, s28f20, s28f21, hb32, hb50, hb51, hb53, hb66]
                      try simp only [rk_state]
                      refine hK75 _ ?_
                      as_aux_lemma =>
                       refine awp_cond (t := ?t77) ?h77 (fun hb77 => ?a77) (fun hb77 => ?b77)
                       case h77 => simp only [qq, Nat.reduceBEq, reduceIte, Nat.reduceEqDiff, Nat.reduceAdd, Nat.reduceLeDiff, reduceCtorEq, Nat.reduceMul, Int.reduceToNat, s8t0, s8t5, s8t6, s8t7, hb13, hb19, s28t8, s28t22, s28f0, s28f5, s28f6, s28f7, s28f20, s28f21, hb32, hb50, hb51, hb53, hb66]; rfl
                       case a77 =>
                        have hp77 := hb77
                        try simp only [kb] at hp77
                        all_goals try exact absurd hb77 (by decide)
                        all_goals try (exfalso; omega)
                        all_goals
                         refine awp_exit ?_
                         simp only [rk_state, reduceIte, Nat.reduceEqDiff]
                         try simp only [rk_state]
                         refine hK5 _ ?_
                         refine awp_seq_k fun K78 hK78 => ?_
                         refine awp_seq_k fun K79 hK79 => ?_
                         have hx := group_f (l := l.drop (4 * k)) (by omega) (by assumption)
                         have hdn := zr_done (f := 8 - k) (k := k) (n := n) (sc := 8 ^ k) (l := (l.drop (4 * k))) (by omega) (by omega) hnf (by rw [hm8]; omega) (by omega)
                         rw [hm8] at hdn
                         have hu := unf_or (n := (n + dAt (((l.drop (4 * k)).take 4).drop 1) 3 * 8 ^ k)) (by omega)
                         have sm2 : (n + dAt (((l.drop (4 * k)).take 4).drop 1) 3 * 8 ^ k).tmod 2 = (n + dAt (((l.drop (4 * k)).take 4).drop 1) 3 * 8 ^ k) % 2 := Int.tmod_eq_emod_of_nonneg (by omega)
                         have sq2 : (n + dAt (((l.drop (4 * k)).take 4).drop 1) 3 * 8 ^ k).tdiv 2 = (n + dAt (((l.drop (4 * k)).take 4).drop 1) 3 * 8 ^ k) / 2 := Int.tdiv_eq_ediv_of_nonneg (by omega)
                         have hee : (4 * (k : Int) + 4).toNat = 4 * k + 4 := by omega
                         refine awp_region_lit fun L80 hL80 => ?_
                         refine aops_orunN 1 _ _ ?_
                         simp only [qq, Nat.reduceBEq, reduceIte, Nat.reduceEqDiff, Nat.reduceAdd, Nat.reduceLeDiff, reduceCtorEq, Nat.reduceMul, Int.reduceToNat, s8t0, s8t5, s8t6, s8t7, hb13, hb19, s28t8, s28t22, s28f0, s28f5, s28f6, s28f7, s28f20, s28f21, hb32, hb50, hb51, hb53, hb66, hb77, sm2, sq2]
                         refine aops_val (v := ?v81) rfl ?h81 ?_
                         case h81 => simp only [qq, Nat.reduceBEq, reduceIte, Nat.reduceEqDiff, Nat.reduceAdd, Nat.reduceLeDiff, reduceCtorEq, Nat.reduceMul, Int.reduceToNat, s8t0, s8t5, s8t6, s8t7, hb13, hb19, s28t8, s28t22, s28f0, s28f5, s28f6, s28f7, s28f20, s28f21, hb32, hb50, hb51, hb53, hb66, hb77, sm2, sq2]; (rw [y_rem] <;> omega)
                         simp only [qq, Nat.reduceBEq, reduceIte, Nat.reduceEqDiff, Nat.reduceAdd, Nat.reduceLeDiff, reduceCtorEq, Nat.reduceMul, Int.reduceToNat, s8t0, s8t5, s8t6, s8t7, hb13, hb19, s28t8, s28t22, s28f0, s28f5, s28f6, s28f7, s28f20, s28f21, hb32, hb50, hb51, hb53, hb66, hb77, sm2, sq2]
                         refine aops_orunN 1 _ _ ?_
                         simp only [qq, Nat.reduceBEq, reduceIte, Nat.reduceEqDiff, Nat.reduceAdd, Nat.reduceLeDiff, reduceCtorEq, Nat.reduceMul, Int.reduceToNat, s8t0, s8t5, s8t6, s8t7, hb13, hb19, s28t8, s28t22, s28f0, s28f5, s28f6, s28f7, s28f20, s28f21, hb32, hb50, hb51, hb53, hb66, hb77, sm2, sq2]
                         refine aops_nil (hL80 _ ?_)
                         simp only [qq, Nat.reduceBEq, reduceIte, Nat.reduceEqDiff, Nat.reduceAdd, Nat.reduceLeDiff, reduceCtorEq, Nat.reduceMul, Int.reduceToNat, s8t0, s8t5, s8t6, s8t7, hb13, hb19, s28t8, s28t22, s28f0, s28f5, s28f6, s28f7, s28f20, s28f21, hb32, hb50, hb51, hb53, hb66, hb77, sm2, sq2]
                         try simp only [rk_state]
                         refine hK79 _ ?_
                         refine awp_cond (t := ?t82) ?h82 (fun hb82 => ?a82) (fun hb82 => ?b82)
                         case h82 => simp only [qq, Nat.reduceBEq, reduceIte, Nat.reduceEqDiff, Nat.reduceAdd, Nat.reduceLeDiff, reduceCtorEq, Nat.reduceMul, Int.reduceToNat, s8t0, s8t5, s8t6, s8t7, hb13, hb19, s28t8, s28t22, s28f0, s28f5, s28f6, s28f7, s28f20, s28f21, hb32, hb50, hb51, hb53, hb66, hb77, sm2, sq2]; rfl
                         case a82 =>
                          have hp82 := hb82
                          try simp only [kb] at hp82
                          all_goals try exact absurd hb82 (by decide)
                          all_goals try (exfalso; omega)
                          all_goals
                           refine awp_seq_k fun K83 hK83 => ?_
                           refine awp_region_lit fun L84 hL84 => ?_
                           refine aops_orunN 1 _ _ ?_
                           simp only [qq, Nat.reduceBEq, reduceIte, Nat.reduceEqDiff, Nat.reduceAdd, Nat.reduceLeDiff, reduceCtorEq, Nat.reduceMul, Int.reduceToNat, s8t0, s8t5, s8t6, s8t7, hb13, hb19, s28t8, s28t22, s28f0, s28f5, s28f6, s28f7, s28f20, s28f21, hb32, hb50, hb51, hb53, hb66, hb77, sm2, sq2, hb82]
                           refine aops_val (v := ?v85) rfl ?h85 ?_
                           case h85 => simp only [qq, Nat.reduceBEq, reduceIte, Nat.reduceEqDiff, Nat.reduceAdd, Nat.reduceLeDiff, reduceCtorEq, Nat.reduceMul, Int.reduceToNat, s8t0, s8t5, s8t6, s8t7, hb13, hb19, s28t8, s28t22, s28f0, s28f5, s28f6, s28f7, s28f20, s28f21, hb32, hb50, hb51, hb53, hb66, hb77, sm2, sq2, hb82]; (rw [y_quo (by omega), sq2, wr_id] <;> omega)
                           simp only [qq, Nat.reduceBEq, reduceIte, Nat.reduceEqDiff, Nat.reduceAdd, Nat.reduceLeDiff, reduceCtorEq, Nat.reduceMul, Int.reduceToNat, s8t0, s8t5, s8t6, s8t7, hb13, hb19, s28t8, s28t22, s28f0, s28f5, s28f6, s28f7, s28f20, s28f21, hb32, hb50, hb51, hb53, hb66, hb77, sm2, sq2, hb82]
                           refine aops_orunN 4 _ _ ?_
                           simp only [qq, Nat.reduceBEq, reduceIte, Nat.reduceEqDiff, Nat.reduceAdd, Nat.reduceLeDiff, reduceCtorEq, Nat.reduceMul, Int.reduceToNat, s8t0, s8t5, s8t6, s8t7, hb13, hb19, s28t8, s28t22, s28f0, s28f5, s28f6, s28f7, s28f20, s28f21, hb32, hb50, hb51, hb53, hb66, hb77, sm2, sq2, hb82]
                           refine aops_nil (hL84 _ ?_)
                           simp only [qq, Nat.reduceBEq, reduceIte, Nat.reduceEqDiff, Nat.reduceAdd, Nat.reduceLeDiff, reduceCtorEq, Nat.reduceMul, Int.reduceToNat, s8t0, s8t5, s8t6, s8t7, hb13, hb19, s28t8, s28t22, s28f0, s28f5, s28f6, s28f7, s28f20, s28f21, hb32, hb50, hb51, hb53, hb66, hb77, sm2, sq2, hb82]
                           try simp only [rk_state]
                           refine hK83 _ ?_
                           refine awp_ret ?_
                           try simp only [rk_state]
                           refine ⟨_, 0, by simp only [qq, Nat.reduceBEq, reduceIte, Nat.reduceEqDiff, Nat.reduceAdd, Nat.reduceLeDiff, reduceCtorEq, Nat.reduceMul, Int.reduceToNat, resA, Try.results42, s8t0, s8t5, s8t6, s8t7, hb13, hb19, s28t8, s28t22, s28f0, s28f5, s28f6, s28f7, s28f20, s28f21, hb32, hb50, hb51, hb53, hb66, hb77, sm2, sq2, hb82]; rfl, ?_, fun l hl => absurd rfl hl, fun l hl => absurd rfl hl⟩
                           simp only [packA]
                           unfold ztakeR; first | (rw [← hq4_2, show 8 - k = 0 from by omega, zr_zero]; (repeat' (first | exact .nil | exact wkR_c | exact wkR_own | exact wkR_nils | refine wkR_int ?_ | refine wkR_bool ?_ | refine wkR_sl ?_ | refine wkR_osl ?_ | refine wkR_nsl ?_ | refine wkR_oo ?_ | refine wkR_no ?_ | refine .cons ?_ ?_ | refine wkR_agg ?_ | refine wkR_tup ?_)) <;> rfl) | (rw [← hq4_2, zr_torn (by omega) (by omega)]; (repeat' (first | exact .nil | exact wkR_c | exact wkR_own | exact wkR_nils | refine wkR_int ?_ | refine wkR_bool ?_ | refine wkR_sl ?_ | refine wkR_osl ?_ | refine wkR_nsl ?_ | refine wkR_oo ?_ | refine wkR_no ?_ | refine .cons ?_ ?_ | refine wkR_agg ?_ | refine wkR_tup ?_)) <;> rfl) | (rw [← hq4_2, zr_form (by omega) (by omega) (by omega) (by omega)]; (repeat' (first | exact .nil | exact wkR_c | exact wkR_own | exact wkR_nils | refine wkR_int ?_ | refine wkR_bool ?_ | refine wkR_sl ?_ | refine wkR_osl ?_ | refine wkR_nsl ?_ | refine wkR_oo ?_ | refine wkR_no ?_ | refine .cons ?_ ?_ | refine wkR_agg ?_ | refine wkR_tup ?_)) <;> rfl) | (rw [← hq4_2, zr_range (by omega) (by omega) hnf (by rw [hm8]; omega)]; (repeat' (first | exact .nil | exact wkR_c | exact wkR_own | exact wkR_nils | refine wkR_int ?_ | refine wkR_bool ?_ | refine wkR_sl ?_ | refine wkR_osl ?_ | refine wkR_nsl ?_ | refine wkR_oo ?_ | refine wkR_no ?_ | refine .cons ?_ ?_ | refine wkR_agg ?_ | refine wkR_tup ?_)) <;> rfl) | (rw [← hq4_2, hdn]; (repeat' (first | exact .nil | exact wkR_c | exact wkR_own | exact wkR_nils | refine wkR_int ?_ | refine wkR_bool ?_ | refine wkR_sl ?_ | refine wkR_osl ?_ | refine wkR_nsl ?_ | refine wkR_oo ?_ | refine wkR_no ?_ | refine .cons ?_ ?_ | refine wkR_agg ?_ | refine wkR_tup ?_)) <;> first | rfl | (dsimp only; omega) | (dsimp only; rw [if_pos rfl, hee, List.drop_drop]))
                         case b82 =>
                          have hp82 := hb82
                          try simp only [kb] at hp82
                          all_goals try exact absurd hb82 (by decide)
                          all_goals try (exfalso; omega)
                          all_goals
                           refine awp_skip ?_
                           try simp only [rk_state]
                           refine hK78 _ ?_
                           refine awp_seq_k fun K86 hK86 => ?_
                           refine awp_region_lit fun L87 hL87 => ?_
                           refine aops_orunN 1 _ _ ?_
                           simp only [qq, Nat.reduceBEq, reduceIte, Nat.reduceEqDiff, Nat.reduceAdd, Nat.reduceLeDiff, reduceCtorEq, Nat.reduceMul, Int.reduceToNat, s8t0, s8t5, s8t6, s8t7, hb13, hb19, s28t8, s28t22, s28f0, s28f5, s28f6, s28f7, s28f20, s28f21, hb32, hb50, hb51, hb53, hb66, hb77, sm2, sq2, hb82]
                           refine aops_val (v := ?v88) rfl ?h88 ?_
                           case h88 => simp only [qq, Nat.reduceBEq, reduceIte, Nat.reduceEqDiff, Nat.reduceAdd, Nat.reduceLeDiff, reduceCtorEq, Nat.reduceMul, Int.reduceToNat, s8t0, s8t5, s8t6, s8t7, hb13, hb19, s28t8, s28t22, s28f0, s28f5, s28f6, s28f7, s28f20, s28f21, hb32, hb50, hb51, hb53, hb66, hb77, sm2, sq2, hb82]; (rw [y_quo (by omega), sq2, wr_id] <;> omega)
                           simp only [qq, Nat.reduceBEq, reduceIte, Nat.reduceEqDiff, Nat.reduceAdd, Nat.reduceLeDiff, reduceCtorEq, Nat.reduceMul, Int.reduceToNat, s8t0, s8t5, s8t6, s8t7, hb13, hb19, s28t8, s28t22, s28f0, s28f5, s28f6, s28f7, s28f20, s28f21, hb32, hb50, hb51, hb53, hb66, hb77, sm2, sq2, hb82]
                           refine aops_val (v := ?v89) rfl ?h89 ?_
                           case h89 => simp only [qq, Nat.reduceBEq, reduceIte, Nat.reduceEqDiff, Nat.reduceAdd, Nat.reduceLeDiff, reduceCtorEq, Nat.reduceMul, Int.reduceToNat, s8t0, s8t5, s8t6, s8t7, hb13, hb19, s28t8, s28t22, s28f0, s28f5, s28f6, s28f7, s28f20, s28f21, hb32, hb50, hb51, hb53, hb66, hb77, sm2, sq2, hb82]; first | (rw [wr_id] <;> omega) | rfl
                           simp only [qq, Nat.reduceBEq, reduceIte, Nat.reduceEqDiff, Nat.reduceAdd, Nat.reduceLeDiff, reduceCtorEq, Nat.reduceMul, Int.reduceToNat, s8t0, s8t5, s8t6, s8t7, hb13, hb19, s28t8, s28t22, s28f0, s28f5, s28f6, s28f7, s28f20, s28f21, hb32, hb50, hb51, hb53, hb66, hb77, sm2, sq2, hb82]
                           refine aops_val (v := ?v90) rfl ?h90 ?_
                           case h90 => simp only [qq, Nat.reduceBEq, reduceIte, Nat.reduceEqDiff, Nat.reduceAdd, Nat.reduceLeDiff, reduceCtorEq, Nat.reduceMul, Int.reduceToNat, s8t0, s8t5, s8t6, s8t7, hb13, hb19, s28t8, s28t22, s28f0, s28f5, s28f6, s28f7, s28f20, s28f21, hb32, hb50, hb51, hb53, hb66, hb77, sm2, sq2, hb82]; first | (rw [wr_id] <;> omega) | rfl
                           simp only [qq, Nat.reduceBEq, reduceIte, Nat.reduceEqDiff, Nat.reduceAdd, Nat.reduceLeDiff, reduceCtorEq, Nat.reduceMul, Int.reduceToNat, s8t0, s8t5, s8t6, s8t7, hb13, hb19, s28t8, s28t22, s28f0, s28f5, s28f6, s28f7, s28f20, s28f21, hb32, hb50, hb51, hb53, hb66, hb77, sm2, sq2, hb82]
                           refine aops_orunN 4 _ _ ?_
                           simp only [qq, Nat.reduceBEq, reduceIte, Nat.reduceEqDiff, Nat.reduceAdd, Nat.reduceLeDiff, reduceCtorEq, Nat.reduceMul, Int.reduceToNat, s8t0, s8t5, s8t6, s8t7, hb13, hb19, s28t8, s28t22, s28f0, s28f5, s28f6, s28f7, s28f20, s28f21, hb32, hb50, hb51, hb53, hb66, hb77, sm2, sq2, hb82]
                           refine aops_nil (hL87 _ ?_)
                           simp only [qq, Nat.reduceBEq, reduceIte, Nat.reduceEqDiff, Nat.reduceAdd, Nat.reduceLeDiff, reduceCtorEq, Nat.reduceMul, Int.reduceToNat, s8t0, s8t5, s8t6, s8t7, hb13, hb19, s28t8, s28t22, s28f0, s28f5, s28f6, s28f7, s28f20, s28f21, hb32, hb50, hb51, hb53, hb66, hb77, sm2, sq2, hb82]
                           try simp only [rk_state]
                           refine hK86 _ ?_
                           as_aux_lemma =>
                            refine awp_ret ?_
                            try simp only [rk_state]
                            refine ⟨_, 0, by simp only [qq, Nat.reduceBEq, reduceIte, Nat.reduceEqDiff, Nat.reduceAdd, Nat.reduceLeDiff, reduceCtorEq, Nat.reduceMul, Int.reduceToNat, resA, Try.results42, s8t0, s8t5, s8t6, s8t7, hb13, hb19, s28t8, s28t22, s28f0, s28f5, s28f6, s28f7, s28f20, s28f21, hb32, hb50, hb51, hb53, hb66, hb77, sm2, sq2, hb82]; rfl, ?_, fun l hl => absurd rfl hl, fun l hl => absurd rfl hl⟩
                            simp only [packA]
                            unfold ztakeR; first | (rw [← hq4_2, show 8 - k = 0 from by omega, zr_zero]; (repeat' (first | exact .nil | exact wkR_c | exact wkR_own | exact wkR_nils | refine wkR_int ?_ | refine wkR_bool ?_ | refine wkR_sl ?_ | refine wkR_osl ?_ | refine wkR_nsl ?_ | refine wkR_oo ?_ | refine wkR_no ?_ | refine .cons ?_ ?_ | refine wkR_agg ?_ | refine wkR_tup ?_)) <;> rfl) | (rw [← hq4_2, zr_torn (by omega) (by omega)]; (repeat' (first | exact .nil | exact wkR_c | exact wkR_own | exact wkR_nils | refine wkR_int ?_ | refine wkR_bool ?_ | refine wkR_sl ?_ | refine wkR_osl ?_ | refine wkR_nsl ?_ | refine wkR_oo ?_ | refine wkR_no ?_ | refine .cons ?_ ?_ | refine wkR_agg ?_ | refine wkR_tup ?_)) <;> rfl) | (rw [← hq4_2, zr_form (by omega) (by omega) (by omega) (by omega)]; (repeat' (first | exact .nil | exact wkR_c | exact wkR_own | exact wkR_nils | refine wkR_int ?_ | refine wkR_bool ?_ | refine wkR_sl ?_ | refine wkR_osl ?_ | refine wkR_nsl ?_ | refine wkR_oo ?_ | refine wkR_no ?_ | refine .cons ?_ ?_ | refine wkR_agg ?_ | refine wkR_tup ?_)) <;> rfl) | (rw [← hq4_2, zr_range (by omega) (by omega) hnf (by rw [hm8]; omega)]; (repeat' (first | exact .nil | exact wkR_c | exact wkR_own | exact wkR_nils | refine wkR_int ?_ | refine wkR_bool ?_ | refine wkR_sl ?_ | refine wkR_osl ?_ | refine wkR_nsl ?_ | refine wkR_oo ?_ | refine wkR_no ?_ | refine .cons ?_ ?_ | refine wkR_agg ?_ | refine wkR_tup ?_)) <;> rfl) | (rw [← hq4_2, hdn]; (repeat' (first | exact .nil | exact wkR_c | exact wkR_own | exact wkR_nils | refine wkR_int ?_ | refine wkR_bool ?_ | refine wkR_sl ?_ | refine wkR_osl ?_ | refine wkR_nsl ?_ | refine wkR_oo ?_ | refine wkR_no ?_ | refine .cons ?_ ?_ | refine wkR_agg ?_ | refine wkR_tup ?_)) <;> first | rfl | (dsimp only; omega) | (dsimp only; rw [if_pos rfl, hee, List.drop_drop]))
                       case b77 =>
                        have hp77 := hb77
                        try simp only [kb] at hp77
                        all_goals try exact absurd hb77 (by decide)
                        all_goals try (exfalso; omega)
                        all_goals
                         refine awp_skip ?_
                         try simp only [rk_state]
                         try simp only [rk_state]
                         refine hK9 _ ?_
                         refine awp_region_lit fun L91 hL91 => ?_
                         refine aops_orunN 1 _ _ ?_
                         simp only [qq, Nat.reduceBEq, reduceIte, Nat.reduceEqDiff, Nat.reduceAdd, Nat.reduceLeDiff, reduceCtorEq, Nat.reduceMul, Int.reduceToNat, s8t0, s8t5, s8t6, s8t7, hb13, hb19, s28t8, s28t22, s28f0, s28f5, s28f6, s28f7, s28f20, s28f21, hb32, hb50, hb51, hb53, hb66, hb77]
                         refine aops_val (v := ?v92) rfl ?h92 ?_
                         case h92 => simp only [qq, Nat.reduceBEq, reduceIte, Nat.reduceEqDiff, Nat.reduceAdd, Nat.reduceLeDiff, reduceCtorEq, Nat.reduceMul, Int.reduceToNat, s8t0, s8t5, s8t6, s8t7, hb13, hb19, s28t8, s28t22, s28f0, s28f5, s28f6, s28f7, s28f20, s28f21, hb32, hb50, hb51, hb53, hb66, hb77]; first | (rw [wr_id] <;> omega) | rfl
                         simp only [qq, Nat.reduceBEq, reduceIte, Nat.reduceEqDiff, Nat.reduceAdd, Nat.reduceLeDiff, reduceCtorEq, Nat.reduceMul, Int.reduceToNat, s8t0, s8t5, s8t6, s8t7, hb13, hb19, s28t8, s28t22, s28f0, s28f5, s28f6, s28f7, s28f20, s28f21, hb32, hb50, hb51, hb53, hb66, hb77]
                         refine aops_orunN 1 _ _ ?_
                         simp only [qq, Nat.reduceBEq, reduceIte, Nat.reduceEqDiff, Nat.reduceAdd, Nat.reduceLeDiff, reduceCtorEq, Nat.reduceMul, Int.reduceToNat, s8t0, s8t5, s8t6, s8t7, hb13, hb19, s28t8, s28t22, s28f0, s28f5, s28f6, s28f7, s28f20, s28f21, hb32, hb50, hb51, hb53, hb66, hb77]
                         refine aops_nil (hL91 _ ?_)
                         simp only [qq, Nat.reduceBEq, reduceIte, Nat.reduceEqDiff, Nat.reduceAdd, Nat.reduceLeDiff, reduceCtorEq, Nat.reduceMul, Int.reduceToNat, s8t0, s8t5, s8t6, s8t7, hb13, hb19, s28t8, s28t22, s28f0, s28f5, s28f6, s28f7, s28f20, s28f21, hb32, hb50, hb51, hb53, hb66, hb77]
                         try simp only [rk_state]
                         have hx := group_t (l := l.drop (4 * k)) (by omega) (by assumption)
                         have hnx := zr_next (f := 8 - k) (k := k) (n := n) (sc := 8 ^ k) (l := (l.drop (4 * k))) (by omega) (by omega) hnf (by rw [hm8]; omega) (by omega)
                         rw [List.drop_drop, hm8, show 4 * k + 4 = 4 * (k + 1) from by omega, show 8 - k - 1 = 8 - (k + 1) from by omega] at hnx
                         refine hK8 _ ((fun (k : Nat) (n : Int) => 9 - k) (k + 1) ((n + dAt (((l.drop (4 * k)).take 4).drop 1) 3 * 8 ^ k))) ?_ ⟨k + 1, (n + dAt (((l.drop (4 * k)).take 4).drop 1) 3 * 8 ^ k), rfl, ?_, ?_, ?_, ?_, ?_, ?_, ?_⟩
                         · (try simp only []); omega
                         · omega
                         · omega
                         · (rw [Int.pow_succ, ← hnx]; exact hq4_2)
                         · (try simp only [qq, Nat.reduceBEq, reduceIte, Nat.reduceEqDiff, Nat.reduceAdd, Nat.reduceLeDiff, reduceCtorEq, Nat.reduceMul, Int.reduceToNat, s8t0, s8t5, s8t6, s8t7, hb13, hb19, s28t8, s28t22, s28f0, s28f5, s28f6, s28f7, s28f20, s28f21, hb32, hb50, hb51, hb53, hb66, hb77])
                           all_goals (rw [List.drop_drop]; rfl)
                         · (try simp only [qq, Nat.reduceBEq, reduceIte, Nat.reduceEqDiff, Nat.reduceAdd, Nat.reduceLeDiff, reduceCtorEq, Nat.reduceMul, Int.reduceToNat, s8t0, s8t5, s8t6, s8t7, hb13, hb19, s28t8, s28t22, s28f0, s28f5, s28f6, s28f7, s28f20, s28f21, hb32, hb50, hb51, hb53, hb66, hb77])
                           all_goals (first | done | rfl | (simp only [AV.c.injEq, C.int.injEq, List.cons.injEq, and_true, true_and]; omega))
                         · (try simp only [qq, Nat.reduceBEq, reduceIte, Nat.reduceEqDiff, Nat.reduceAdd, Nat.reduceLeDiff, reduceCtorEq, Nat.reduceMul, Int.reduceToNat, s8t0, s8t5, s8t6, s8t7, hb13, hb19, s28t8, s28t22, s28f0, s28f5, s28f6, s28f7, s28f20, s28f21, hb32, hb50, hb51, hb53, hb66, hb77])
                           all_goals (rw [Int.pow_succ])
                         · (try simp only [qq, Nat.reduceBEq, reduceIte, Nat.reduceEqDiff, Nat.reduceAdd, Nat.reduceLeDiff, reduceCtorEq, Nat.reduceMul, Int.reduceToNat, s8t0, s8t5, s8t6, s8t7, hb13, hb19, s28t8, s28t22, s28f0, s28f5, s28f6, s28f7, s28f20, s28f21, hb32, hb50, hb51, hb53, hb66, hb77])
                           all_goals (first | done | rfl | (simp only [AV.c.injEq, C.int.injEq, List.cons.injEq, and_true, true_and]; omega))
               case b51 =>
                have hp51 := hb51
                try simp only [kb] at hp51
                all_goals try exact absurd hb51 (by decide)
                all_goals try (exfalso; omega)
                all_goals
                 try simp only [hb51]
                 refine aops_orunN 5 _ _ ?_
                 simp only [qq, Nat.reduceBEq, reduceIte, Nat.reduceEqDiff, Nat.reduceAdd, Nat.reduceLeDiff, reduceCtorEq, Nat.reduceMul, Int.reduceToNat, s8t0, s8t5, s8t6, s8t7, hb13, hb19, s28t8, s28t22, s28f0, s28f5, s28f6, s28f7, s28f20, s28f21, hb32, hb50, hb51]
                 refine aops_nil (hL49 _ ?_)
                 simp only [qq, Nat.reduceBEq, reduceIte, Nat.reduceEqDiff, Nat.reduceAdd, Nat.reduceLeDiff, reduceCtorEq, Nat.reduceMul, Int.reduceToNat, s8t0, s8t5, s8t6, s8t7, hb13, hb19, s28t8, s28t22, s28f0, s28f5, s28f6, s28f7, s28f20, s28f21, hb32, hb50, hb51]
                 try simp only [rk_state]
                 refine hK48 _ ?_
                 refine awp_cond (t := false) (by simp only [qq, Nat.reduceBEq, reduceIte, Nat.reduceEqDiff, Nat.reduceAdd, Nat.reduceLeDiff, reduceCtorEq, Nat.reduceMul, Int.reduceToNat, s8t0, s8t5, s8t6, s8t7, hb13, hb19, s28t8, s28t22, s28f0, s28f5, s28f6, s28f7, s28f20, s28f21, hb32, hb50, hb51]) (fun h => ?_) (fun _ => ?_)
                 case refine_1 => cases h
                 refine awp_skip ?_
                 try simp only [rk_state]
                 refine hK47 _ ?_
                 refine awp_seq_k fun K93 hK93 => ?_
                 have hnf : ¬ ((readR (l.drop (4 * k)) 4).1 = 0 ∧ 0 < k) := by first | omega | (have h9 := group_t (l := l.drop (4 * k)) (by omega) (by assumption); omega)
                 refine awp_region_lit fun L94 hL94 => ?_
                 refine aops_orunN 3 _ _ ?_
                 simp only [qq, Nat.reduceBEq, reduceIte, Nat.reduceEqDiff, Nat.reduceAdd, Nat.reduceLeDiff, reduceCtorEq, Nat.reduceMul, Int.reduceToNat, s8t0, s8t5, s8t6, s8t7, hb13, hb19, s28t8, s28t22, s28f0, s28f5, s28f6, s28f7, s28f20, s28f21, hb32, hb50, hb51]
                 refine aops_val (v := ?v95) rfl ?h95 ?_
                 case h95 => simp only [qq, Nat.reduceBEq, reduceIte, Nat.reduceEqDiff, Nat.reduceAdd, Nat.reduceLeDiff, reduceCtorEq, Nat.reduceMul, Int.reduceToNat, s8t0, s8t5, s8t6, s8t7, hb13, hb19, s28t8, s28t22, s28f0, s28f5, s28f6, s28f7, s28f20, s28f21, hb32, hb50, hb51]; first | (rw [wr_id] <;> omega) | rfl
                 simp only [qq, Nat.reduceBEq, reduceIte, Nat.reduceEqDiff, Nat.reduceAdd, Nat.reduceLeDiff, reduceCtorEq, Nat.reduceMul, Int.reduceToNat, s8t0, s8t5, s8t6, s8t7, hb13, hb19, s28t8, s28t22, s28f0, s28f5, s28f6, s28f7, s28f20, s28f21, hb32, hb50, hb51]
                 refine aops_val (v := ?v96) rfl ?h96 ?_
                 case h96 => simp only [qq, Nat.reduceBEq, reduceIte, Nat.reduceEqDiff, Nat.reduceAdd, Nat.reduceLeDiff, reduceCtorEq, Nat.reduceMul, Int.reduceToNat, s8t0, s8t5, s8t6, s8t7, hb13, hb19, s28t8, s28t22, s28f0, s28f5, s28f6, s28f7, s28f20, s28f21, hb32, hb50, hb51]; first | (rw [wr_id] <;> omega) | rfl
                 simp only [qq, Nat.reduceBEq, reduceIte, Nat.reduceEqDiff, Nat.reduceAdd, Nat.reduceLeDiff, reduceCtorEq, Nat.reduceMul, Int.reduceToNat, s8t0, s8t5, s8t6, s8t7, hb13, hb19, s28t8, s28t22, s28f0, s28f5, s28f6, s28f7, s28f20, s28f21, hb32, hb50, hb51]
                 refine aops_orunN 1 _ _ ?_
                 simp only [qq, Nat.reduceBEq, reduceIte, Nat.reduceEqDiff, Nat.reduceAdd, Nat.reduceLeDiff, reduceCtorEq, Nat.reduceMul, Int.reduceToNat, s8t0, s8t5, s8t6, s8t7, hb13, hb19, s28t8, s28t22, s28f0, s28f5, s28f6, s28f7, s28f20, s28f21, hb32, hb50, hb51]
                 refine aops_nil (hL94 _ ?_)
                 simp only [qq, Nat.reduceBEq, reduceIte, Nat.reduceEqDiff, Nat.reduceAdd, Nat.reduceLeDiff, reduceCtorEq, Nat.reduceMul, Int.reduceToNat, s8t0, s8t5, s8t6, s8t7, hb13, hb19, s28t8, s28t22, s28f0, s28f5, s28f6, s28f7, s28f20, s28f21, hb32, hb50, hb51]
                 try simp only [rk_state]
                 refine hK93 _ ?_
                 refine awp_seq_k fun K97 hK97 => ?_
                 refine awp_region_lit fun L98 hL98 => ?_
                 refine aops_orunN 1 _ _ ?_
                 simp only [qq, Nat.reduceBEq, reduceIte, Nat.reduceEqDiff, Nat.reduceAdd, Nat.reduceLeDiff, reduceCtorEq, Nat.reduceMul, Int.reduceToNat, s8t0, s8t5, s8t6, s8t7, hb13, hb19, s28t8, s28t22, s28f0, s28f5, s28f6, s28f7, s28f20, s28f21, hb32, hb50, hb51]
                 refine aops_val (v := ?v99) rfl ?h99 ?_
                 case h99 => simp only [qq, Nat.reduceBEq, reduceIte, Nat.reduceEqDiff, Nat.reduceAdd, Nat.reduceLeDiff, reduceCtorEq, Nat.reduceMul, Int.reduceToNat, s8t0, s8t5, s8t6, s8t7, hb13, hb19, s28t8, s28t22, s28f0, s28f5, s28f6, s28f7, s28f20, s28f21, hb32, hb50, hb51]; first | (rw [wr_id] <;> omega) | rfl
                 simp only [qq, Nat.reduceBEq, reduceIte, Nat.reduceEqDiff, Nat.reduceAdd, Nat.reduceLeDiff, reduceCtorEq, Nat.reduceMul, Int.reduceToNat, s8t0, s8t5, s8t6, s8t7, hb13, hb19, s28t8, s28t22, s28f0, s28f5, s28f6, s28f7, s28f20, s28f21, hb32, hb50, hb51]
                 refine aops_orunN 1 _ _ ?_
                 simp only [qq, Nat.reduceBEq, reduceIte, Nat.reduceEqDiff, Nat.reduceAdd, Nat.reduceLeDiff, reduceCtorEq, Nat.reduceMul, Int.reduceToNat, s8t0, s8t5, s8t6, s8t7, hb13, hb19, s28t8, s28t22, s28f0, s28f5, s28f6, s28f7, s28f20, s28f21, hb32, hb50, hb51]
                 refine aops_nil (hL98 _ ?_)
                 simp only [qq, Nat.reduceBEq, reduceIte, Nat.reduceEqDiff, Nat.reduceAdd, Nat.reduceLeDiff, reduceCtorEq, Nat.reduceMul, Int.reduceToNat, s8t0, s8t5, s8t6, s8t7, hb13, hb19, s28t8, s28t22, s28f0, s28f5, s28f6, s28f7, s28f20, s28f21, hb32, hb50, hb51]
                 try simp only [rk_state]
                 refine hK97 _ ?_
                 as_aux_lemma =>
                  refine awp_seq_k fun K100 hK100 => ?_
                  refine awp_seq_k fun K101 hK101 => ?_
                  refine awp_region_lit fun L102 hL102 => ?_
                  refine aops_orunN 2 _ _ ?_
                  simp only [qq, Nat.reduceBEq, reduceIte, Nat.reduceEqDiff, Nat.reduceAdd, Nat.reduceLeDiff, reduceCtorEq, Nat.reduceMul, Int.reduceToNat, s8t0, s8t5, s8t6, s8t7, hb13, hb19, s28t8, s28t22, s28f0, s28f5, s28f6, s28f7, s28f20, s28f21, hb32, hb50, hb51]
                  refine aops_nil (hL102 _ ?_)
                  simp only [qq, Nat.reduceBEq, reduceIte, Nat.reduceEqDiff, Nat.reduceAdd, Nat.reduceLeDiff, reduceCtorEq, Nat.reduceMul, Int.reduceToNat, s8t0, s8t5, s8t6, s8t7, hb13, hb19, s28t8, s28t22, s28f0, s28f5, s28f6, s28f7, s28f20, s28f21, hb32, hb50, hb51]
                  try simp only [rk_state]
                  refine hK101 _ ?_
                  refine awp_cond (t := ?t103) ?h103 (fun hb103 => ?a103) (fun hb103 => ?b103)
                  case h103 => simp only [qq, Nat.reduceBEq, reduceIte, Nat.reduceEqDiff, Nat.reduceAdd, Nat.reduceLeDiff, reduceCtorEq, Nat.reduceMul, Int.reduceToNat, s8t0, s8t5, s8t6, s8t7, hb13, hb19, s28t8, s28t22, s28f0, s28f5, s28f6, s28f7, s28f20, s28f21, hb32, hb50, hb51]; rfl
                  case a103 =>
                   have hp103 := hb103
                   try simp only [kb] at hp103
                   all_goals try exact absurd hb103 (by decide)
                   all_goals try (exfalso; omega)
                   all_goals
                    refine awp_seq_k fun K104 hK104 => ?_
                    refine awp_region_lit fun L105 hL105 => ?_
                    refine aops_orunN 3 _ _ ?_
                    simp only [qq, Nat.reduceBEq, reduceIte, Nat.reduceEqDiff, Nat.reduceAdd, Nat.reduceLeDiff, reduceCtorEq, Nat.reduceMul, Int.reduceToNat, s8t0, s8t5, s8t6, s8t7, hb13, hb19, s28t8, s28t22, s28f0, s28f5, s28f6, s28f7, s28f20, s28f21, hb32, hb50, hb51, hb103]
                    refine aops_nil (hL105 _ ?_)
                    simp only [qq, Nat.reduceBEq, reduceIte, Nat.reduceEqDiff, Nat.reduceAdd, Nat.reduceLeDiff, reduceCtorEq, Nat.reduceMul, Int.reduceToNat, s8t0, s8t5, s8t6, s8t7, hb13, hb19, s28t8, s28t22, s28f0, s28f5, s28f6, s28f7, s28f20, s28f21, hb32, hb50, hb51, hb103]
                    try simp only [rk_state]
                    refine hK104 _ ?_
                    refine awp_ret ?_
                    try simp only [rk_state]
                    refine ⟨_, 0, by simp only [qq, Nat.reduceBEq, reduceIte, Nat.reduceEqDiff, Nat.reduceAdd, Nat.reduceLeDiff, reduceCtorEq, Nat.reduceMul, Int.reduceToNat, resA, Try.results42, s8t0, s8t5, s8t6, s8t7, hb13, hb19, s28t8, s28t22, s28f0, s28f5, s28f6, s28f7, s28f20, s28f21, hb32, hb50, hb51, hb103]; rfl, ?_, fun l hl => absurd rfl hl, fun l hl => absurd rfl hl⟩
                    simp only [packA]
                    unfold ztakeR; first | (rw [← hq4_2, show 8 - k = 0 from by omega, zr_zero]; (repeat' (first | exact .nil | exact wkR_c | exact wkR_own | exact wkR_nils | refine wkR_int ?_ | refine wkR_bool ?_ | refine wkR_sl ?_ | refine wkR_osl ?_ | refine wkR_nsl ?_ | refine wkR_oo ?_ | refine wkR_no ?_ | refine .cons ?_ ?_ | refine wkR_agg ?_ | refine wkR_tup ?_)) <;> rfl) | (rw [← hq4_2, zr_torn (by omega) (by omega)]; (repeat' (first | exact .nil | exact wkR_c | exact wkR_own | exact wkR_nils | refine wkR_int ?_ | refine wkR_bool ?_ | refine wkR_sl ?_ | refine wkR_osl ?_ | refine wkR_nsl ?_ | refine wkR_oo ?_ | refine wkR_no ?_ | refine .cons ?_ ?_ | refine wkR_agg ?_ | refine wkR_tup ?_)) <;> rfl) | (rw [← hq4_2, zr_form (by omega) (by omega) (by omega) (by omega)]; (repeat' (first | exact .nil | exact wkR_c | exact wkR_own | exact wkR_nils | refine wkR_int ?_ | refine wkR_bool ?_ | refine wkR_sl ?_ | refine wkR_osl ?_ | refine wkR_nsl ?_ | refine wkR_oo ?_ | refine wkR_no ?_ | refine .cons ?_ ?_ | refine wkR_agg ?_ | refine wkR_tup ?_)) <;> rfl) | (rw [← hq4_2, zr_range (by omega) (by omega) hnf (by rw [hm8]; omega)]; (repeat' (first | exact .nil | exact wkR_c | exact wkR_own | exact wkR_nils | refine wkR_int ?_ | refine wkR_bool ?_ | refine wkR_sl ?_ | refine wkR_osl ?_ | refine wkR_nsl ?_ | refine wkR_oo ?_ | refine wkR_no ?_ | refine .cons ?_ ?_ | refine wkR_agg ?_ | refine wkR_tup ?_)) <;> rfl) | (rw [← hq4_2, hdn]; (repeat' (first | exact .nil | exact wkR_c | exact wkR_own | exact wkR_nils | refine wkR_int ?_ | refine wkR_bool ?_ | refine wkR_sl ?_ | refine wkR_osl ?_ | refine wkR_nsl ?_ | refine wkR_oo ?_ | refine wkR_no ?_ | refine .cons ?_ ?_ | refine wkR_agg ?_ | refine wkR_tup ?_)) <;> first | rfl | (dsimp only; omega) | (dsimp only; rw [if_pos rfl, hee, List.drop_drop]))
                  case b103 =>
                   have hp103 := hb103
                   try simp only [kb] at hp103
                   all_goals try exact absurd hb103 (by decide)
                   all_goals try (exfalso; omega)
                   all_goals
                    refine awp_skip ?_
                    try simp only [rk_state]
                    refine hK100 _ ?_
                    refine awp_seq_k fun K106 hK106 => ?_
                    refine awp_region_lit fun L107 hL107 => ?_
                    refine aops_orunN 1 _ _ ?_
                    simp only [qq, Nat.reduceBEq, reduceIte, Nat.reduceEqDiff, Nat.reduceAdd, Nat.reduceLeDiff, reduceCtorEq, Nat.reduceMul, Int.reduceToNat, s8t0, s8t5, s8t6, s8t7, hb13, hb19, s28t8, s28t22, s28f0, s28f5, s28f6, s28f7, s28f20, s28f21, hb32, hb50, hb51, hb103]
                    refine aops_val (v := ?v108) rfl ?h108 ?_
                    case h108 => simp only [qq, Nat.reduceBEq, reduceIte, Nat.reduceEqDiff, Nat.reduceAdd, Nat.reduceLeDiff, reduceCtorEq, Nat.reduceMul, Int.reduceToNat, s8t0, s8t5, s8t6, s8t7, hb13, hb19, s28t8, s28t22, s28f0, s28f5, s28f6, s28f7, s28f20, s28f21, hb32, hb50, hb51, hb103]; first | (rw [idx_c un36 if4] <;> omega) | (rw [idx_o un36 if4] <;> omega) | (rw [idx_a un36 if4] <;> omega)
                    simp only [qq, Nat.reduceBEq, reduceIte, Nat.reduceEqDiff, Nat.reduceAdd, Nat.reduceLeDiff, reduceCtorEq, Nat.reduceMul, Int.reduceToNat, s8t0, s8t5, s8t6, s8t7, hb13, hb19, s28t8, s28t22, s28f0, s28f5, s28f6, s28f7, s28f20, s28f21, hb32, hb50, hb51, hb103]
                    refine aops_orunN 2 _ _ ?_
                    simp only [qq, Nat.reduceBEq, reduceIte, Nat.reduceEqDiff, Nat.reduceAdd, Nat.reduceLeDiff, reduceCtorEq, Nat.reduceMul, Int.reduceToNat, s8t0, s8t5, s8t6, s8t7, hb13, hb19, s28t8, s28t22, s28f0, s28f5, s28f6, s28f7, s28f20, s28f21, hb32, hb50, hb51, hb103]
                    refine aops_nil (hL107 _ ?_)
                    simp only [qq, Nat.reduceBEq, reduceIte, Nat.reduceEqDiff, Nat.reduceAdd, Nat.reduceLeDiff, reduceCtorEq, Nat.reduceMul, Int.reduceToNat, s8t0, s8t5, s8t6, s8t7, hb13, hb19, s28t8, s28t22, s28f0, s28f5, s28f6, s28f7, s28f20, s28f21, hb32, hb50, hb51, hb103]
                    try simp only [rk_state]
                    refine hK106 _ ?_
                    as_aux_lemma =>
                     refine awp_seq_k fun K109 hK109 => ?_
                     refine awp_region_lit fun L110 hL110 => ?_
                     refine aops_orunN 1 _ _ ?_
                     simp only [qq, Nat.reduceBEq, reduceIte, Nat.reduceEqDiff, Nat.reduceAdd, Nat.reduceLeDiff, reduceCtorEq, Nat.reduceMul, Int.reduceToNat, s8t0, s8t5, s8t6, s8t7, hb13, hb19, s28t8, s28t22, s28f0, s28f5, s28f6, s28f7, s28f20, s28f21, hb32, hb50, hb51, hb103]
                     refine aops_val (v := ?v111) rfl ?h111 ?_
                     case h111 => simp only [qq, Nat.reduceBEq, reduceIte, Nat.reduceEqDiff, Nat.reduceAdd, Nat.reduceLeDiff, reduceCtorEq, Nat.reduceMul, Int.reduceToNat, s8t0, s8t5, s8t6, s8t7, hb13, hb19, s28t8, s28t22, s28f0, s28f5, s28f6, s28f7, s28f20, s28f21, hb32, hb50, hb51, hb103]; first | (rw [slc_l un36 if4] <;> omega) | (rw [slc_lo un36 if4] <;> omega)
                     simp only [qq, Nat.reduceBEq, reduceIte, Nat.reduceEqDiff, Nat.reduceAdd, Nat.reduceLeDiff, reduceCtorEq, Nat.reduceMul, Int.reduceToNat, s8t0, s8t5, s8t6, s8t7, hb13, hb19, s28t8, s28t22, s28f0, s28f5, s28f6, s28f7, s28f20, s28f21, hb32, hb50, hb51, hb103]
                     refine aops_orunN 1 _ _ ?_
                     simp only [qq, Nat.reduceBEq, reduceIte, Nat.reduceEqDiff, Nat.reduceAdd, Nat.reduceLeDiff, reduceCtorEq, Nat.reduceMul, Int.reduceToNat, s8t0, s8t5, s8t6, s8t7, hb13, hb19, s28t8, s28t22, s28f0, s28f5, s28f6, s28f7, s28f20, s28f21, hb32, hb50, hb51, hb103]
                     refine aops_nil (hL110 _ ?_)
                     simp only [qq, Nat.reduceBEq, reduceIte, Nat.reduceEqDiff, Nat.reduceAdd, Nat.reduceLeDiff, reduceCtorEq, Nat.reduceMul, Int.reduceToNat, s8t0, s8t5, s8t6, s8t7, hb13, hb19, s28t8, s28t22, s28f0, s28f5, s28f6, s28f7, s28f20, s28f21, hb32, hb50, hb51, hb103]
                     try simp only [rk_state]
                     refine hK109 _ ?_
                     refine awp_seq_k fun K112 hK112 => ?_
                     refine awp_region_lit fun L113 hL113 => ?_
                     refine aops_orunN 2 _ _ ?_
                     simp only [qq, Nat.reduceBEq, reduceIte, Nat.reduceEqDiff, Nat.reduceAdd, Nat.reduceLeDiff, reduceCtorEq, Nat.reduceMul, Int.reduceToNat, s8t0, s8t5, s8t6, s8t7, hb13, hb19, s28t8, s28t22, s28f0, s28f5, s28f6, s28f7, s28f20, s28f21, hb32, hb50, hb51, hb103]
                     refine aops_nil (hL113 _ ?_)
                     simp only [qq, Nat.reduceBEq, reduceIte, Nat.reduceEqDiff, Nat.reduceAdd, Nat.reduceLeDiff, reduceCtorEq, Nat.reduceMul, Int.reduceToNat, s8t0, s8t5, s8t6, s8t7, hb13, hb19, s28t8, s28t22, s28f0, s28f5, s28f6, s28f7, s28f20, s28f21, hb32, hb50, hb51, hb103]
                     try simp only [rk_state]
                     refine hK112 _ ?_
                     refine awp_cond (t := ?t114) ?h114 (fun hb114 => ?a114) (fun hb114 => ?b114)
                     case h114 => simp only [qq, Nat.reduceBEq, reduceIte, Nat.reduceEqDiff, Nat.reduceAdd, Nat.reduceLeDiff, reduceCtorEq, Nat.reduceMul, Int.reduceToNat, s8t0, s8t5, s8t6, s8t7, hb13, hb19, s28t8, s28t22, s28f0, s28f5, s28f6, s28f7, s28f20, s28f21, hb32, hb50, hb51, hb103]; rfl
                     case a114 =>
                      have hp114 := hb114
                      try simp only [kb] at hp114
                      all_goals try exact absurd hb114 (by decide)
                      all_goals try (exfalso; omega)
                      all_goals
                       refine awp_exit ?_
                       simp only [rk_state, reduceIte, Nat.reduceEqDiff]
                       try simp only [rk_state]
                       refine hK5 _ ?_
                       refine awp_seq_k fun K115 hK115 => ?_
                       refine awp_seq_k fun K116 hK116 => ?_
                       have hx := group_f (l := l.drop (4 * k)) (by omega) (by assumption)
                       have hdn := zr_done (f := 8 - k) (k := k) (n := n) (sc := 8 ^ k) (l := (l.drop (4 * k))) (by omega) (by omega) hnf (by rw [hm8]; omega) (by omega)
                       rw [hm8] at hdn
                       have hu := unf_or (n := (n + dAt (((l.drop (4 * k)).take 4).drop 1) 3 * 8 ^ k)) (by omega)
                       have sm2 : (n + dAt (((l.drop (4 * k)).take 4).drop 1) 3 * 8 ^ k).tmod 2 = (n + dAt (((l.drop (4 * k)).take 4).drop 1) 3 * 8 ^ k) % 2 := Int.tmod_eq_emod_of_nonneg (by omega)
                       have sq2 : (n + dAt (((l.drop (4 * k)).take 4).drop 1) 3 * 8 ^ k).tdiv 2 = (n + dAt (((l.drop (4 * k)).take 4).drop 1) 3 * 8 ^ k) / 2 := Int.tdiv_eq_ediv_of_nonneg (by omega)
                       have hee : (4 * (k : Int) + 4).toNat = 4 * k + 4 := by omega
                       refine awp_region_lit fun L117 hL117 => ?_
                       refine aops_orunN 1 _ _ ?_
                       simp only [qq, Nat.reduceBEq, reduceIte, Nat.reduceEqDiff, Nat.reduceAdd, Nat.reduceLeDiff, reduceCtorEq, Nat.reduceMul, Int.reduceToNat, s8t0, s8t5, s8t6, s8t7, hb13, hb19, s28t8, s28t22, s28f0, s28f5, s28f6, s28f7, s28f20, s28f21, hb32, hb50, hb51, hb103, hb114, sm2, sq2]
                       refine aops_val (v := ?v118) rfl ?h118 ?_
                       case h118 => simp only [qq, Nat.reduceBEq, reduceIte, Nat.reduceEqDiff, Nat.reduceAdd, Nat.reduceLeDiff, reduceCtorEq, Nat.reduceMul, Int.reduceToNat, s8t0, s8t5, s8t6, s8t7, hb13, hb19, s28t8, s28t22, s28f0, s28f5, s28f6, s28f7, s28f20, s28f21, hb32, hb50, hb51, hb103, hb114, sm2, sq2]; (rw [y_rem] <;> omega)
                       simp only [qq, Nat.reduceBEq, reduceIte, Nat.reduceEqDiff, Nat.reduceAdd, Nat.reduceLeDiff, reduceCtorEq, Nat.reduceMul, Int.reduceToNat, s8t0, s8t5, s8t6, s8t7, hb13, hb19, s28t8, s28t22, s28f0, s28f5, s28f6, s28f7, s28f20, s28f21, hb32, hb50, hb51, hb103, hb114, sm2, sq2]
                       refine aops_orunN 1 _ _ ?_
                       simp only [qq, Nat.reduceBEq, reduceIte, Nat.reduceEqDiff, Nat.reduceAdd, Nat.reduceLeDiff, reduceCtorEq, Nat.reduceMul, Int.reduceToNat, s8t0, s8t5, s8t6, s8t7, hb13, hb19, s28t8, s28t22, s28f0, s28f5, s28f6, s28f7, s28f20, s28f21, hb32, hb50, hb51, hb103, hb114, sm2, sq2]
                       refine aops_nil (hL117 _ ?_)
                       simp only [qq, Nat.reduceBEq, reduceIte, Nat.reduceEqDiff, Nat.reduceAdd, Nat.reduceLeDiff, reduceCtorEq, Nat.reduceMul, Int.reduceToNat, s8t0, s8t5, s8t6, s8t7, hb13, hb19, s28t8, s28t22, s28f0, s28f5, s28f6, s28f7, s28f20, s28f21, hb32, hb50, hb51, hb103, hb114, sm2, sq2]
                       try simp only [rk_state]
                       refine hK116 _ ?_
                       as_aux_lemma =>
                        refine awp_cond (t := ?t119) ?h119 (fun hb119 => ?a119) (fun hb119 => ?b119)
                        case h119 => simp only [qq, Nat.reduceBEq, reduceIte, Nat.reduceEqDiff, Nat.reduceAdd, Nat.reduceLeDiff, reduceCtorEq, Nat.reduceMul, Int.reduceToNat, s8t0, s8t5, s8t6, s8t7, hb13, hb19, s28t8, s28t22, s28f0, s28f5, s28f6, s28f7, s28f20, s28f21, hb32, hb50, hb51, hb103, hb114, sm2, sq2]; rfl
                        case a119 =>
                         have hp119 := hb119
                         try simp only [kb] at hp119
                         all_goals try exact absurd hb119 (by decide)
                         all_goals try (exfalso; omega)
                         all_goals
                          refine awp_seq_k fun K120 hK120 => ?_
                          refine awp_region_lit fun L121 hL121 => ?_
                          refine aops_orunN 1 _ _ ?_
                          simp only [qq, Nat.reduceBEq, reduceIte, Nat.reduceEqDiff, Nat.reduceAdd, Nat.reduceLeDiff, reduceCtorEq, Nat.reduceMul, Int.reduceToNat, s8t0, s8t5, s8t6, s8t7, hb13, hb19, s28t8, s28t22, s28f0, s28f5, s28f6, s28f7, s28f20, s28f21, hb32, hb50, hb51, hb103, hb114, sm2, sq2, hb119]
                          refine aops_val (v := ?v122) rfl ?h122 ?_
                          case h122 => simp only [qq, Nat.reduceBEq, reduceIte, Nat.reduceEqDiff, Nat.reduceAdd, Nat.reduceLeDiff, reduceCtorEq, Nat.reduceMul, Int.reduceToNat, s8t0, s8t5, s8t6, s8t7, hb13, hb19, s28t8, s28t22, s28f0, s28f5, s28f6, s28f7, s28f20, s28f21, hb32, hb50, hb51, hb103, hb114, sm2, sq2, hb119]; (rw [y_quo (by omega), sq2, wr_id] <;> omega)
                          simp only [qq, Nat.reduceBEq, reduceIte, Nat.reduceEqDiff, Nat.reduceAdd, Nat.reduceLeDiff, reduceCtorEq, Nat.reduceMul, Int.reduceToNat, s8t0, s8t5, s8t6, s8t7, hb13, hb19, s28t8, s28t22, s28f0, s28f5, s28f6, s28f7, s28f20, s28f21, hb32, hb50, hb51, hb103, hb114, sm2, sq2, hb119]
                          refine aops_orunN 4 _ _ ?_
                          simp only [qq, Nat.reduceBEq, reduceIte, Nat.reduceEqDiff, Nat.reduceAdd, Nat.reduceLeDiff, reduceCtorEq, Nat.reduceMul, Int.reduceToNat, s8t0, s8t5, s8t6, s8t7, hb13, hb19, s28t8, s28t22, s28f0, s28f5, s28f6, s28f7, s28f20, s28f21, hb32, hb50, hb51, hb103, hb114, sm2, sq2, hb119]
                          refine aops_nil (hL121 _ ?_)
                          simp only [qq, Nat.reduceBEq, reduceIte, Nat.reduceEqDiff, Nat.reduceAdd, Nat.reduceLeDiff, reduceCtorEq, Nat.reduceMul, Int.reduceToNat, s8t0, s8t5, s8t6, s8t7, hb13, hb19, s28t8, s28t22, s28f0, s28f5, s28f6, s28f7, s28f20, s28f21, hb32, hb50, hb51, hb103, hb114, sm2, sq2, hb119]
                          try simp only [rk_state]
                          refine hK120 _ ?_
                          refine awp_ret ?_
                          try simp only [rk_state]
                          refine ⟨_, 0, by simp only [qq, Nat.reduceBEq, reduceIte, Nat.reduceEqDiff, Nat.reduceAdd, Nat.reduceLeDiff, reduceCtorEq, Nat.reduceMul, Int.reduceToNat, resA, Try.results42, s8t0, s8t5, s8t6, s8t7, hb13, hb19, s28t8, s28t22, s28f0, s28f5, s28f6, s28f7, s28f20, s28f21, hb32, hb50, hb51, hb103, hb114, sm2, sq2, hb119]; rfl, ?_, fun l hl => absurd rfl hl, fun l hl => absurd rfl hl⟩
                          simp only [packA]
                          unfold ztakeR; first | (rw [← hq4_2, show 8 - k = 0 from by omega, zr_zero]; (repeat' (first | exact .nil | exact wkR_c | exact wkR_own | exact wkR_nils | refine wkR_int ?_ | refine wkR_bool ?_ | refine wkR_sl ?_ | refine wkR_osl ?_ | refine wkR_nsl ?_ | refine wkR_oo ?_ | refine wkR_no ?_ | refine .cons ?_ ?_ | refine wkR_agg ?_ | refine wkR_tup ?_)) <;> rfl) | (rw [← hq4_2, zr_torn (by omega) (by omega)]; (repeat' (first | exact .nil | exact wkR_c | exact wkR_own | exact wkR_nils | refine wkR_int ?_ | refine wkR_bool ?_ | refine wkR_sl ?_ | refine wkR_osl ?_ | refine wkR_nsl ?_ | refine wkR_oo ?_ | refine wkR_no ?_ | refine .cons ?_ ?_ | refine wkR_agg ?_ | refine wkR_tup ?_)) <;> rfl) | (rw [← hq4_2, zr_form (by omega) (by omega) (by omega) (by omega)]; (repeat' (first | exact .nil | exact wkR_c | exact wkR_own | exact wkR_nils | refine wkR_int ?_ | refine wkR_bool ?_ | refine wkR_sl ?_ | refine wkR_osl ?_ | refine wkR_nsl ?_ | refine wkR_oo ?_ | refine wkR_no ?_ | refine .cons ?_ ?_ | refine wkR_agg ?_ | refine wkR_tup ?_)) <;> rfl) | (rw [← hq4_2, zr_range (by omega) (by omega) hnf (by rw [hm8]; omega)]; (repeat' (first | exact .nil | exact wkR_c | exact wkR_own | exact wkR_nils | refine wkR_int ?_ | refine wkR_bool ?_ | refine wkR_sl ?_ | refine wkR_osl ?_ | refine wkR_nsl ?_ | refine wkR_oo ?_ | refine wkR_no ?_ | refine .cons ?_ ?_ | refine wkR_agg ?_ | refine wkR_tup ?_)) <;> rfl) | (rw [← hq4_2, hdn]; (repeat' (first | exact .nil | exact wkR_c | exact wkR_own | exact wkR_nils | refine wkR_int ?_ | refine wkR_bool ?_ | refine wkR_sl ?_ | refine wkR_osl ?_ | refine wkR_nsl ?_ | refine wkR_oo ?_ | refine wkR_no ?_ | refine .cons ?_ ?_ | refine wkR_agg ?_ | refine wkR_tup ?_)) <;> first | rfl | (dsimp only; omega) | (dsimp only; rw [if_pos rfl, hee, List.drop_drop]))
                        case b119 =>
                         have hp119 := hb119
                         try simp only [kb] at hp119
                         all_goals try exact absurd hb119 (by decide)
                         all_goals try (exfalso; omega)
                         all_goals
                          refine awp_skip ?_
                          try simp only [rk_state]
                          refine hK115 _ ?_
                          refine awp_seq_k fun K123 hK123 => ?_
                          refine awp_region_lit fun L124 hL124 => ?_
                          refine aops_orunN 1 _ _ ?_
                          simp only [qq, Nat.reduceBEq, reduceIte, Nat.reduceEqDiff, Nat.reduceAdd, Nat.reduceLeDiff, reduceCtorEq, Nat.reduceMul, Int.reduceToNat, s8t0, s8t5, s8t6, s8t7, hb13, hb19, s28t8, s28t22, s28f0, s28f5, s28f6, s28f7, s28f20, s28f21, hb32, hb50, hb51, hb103, hb114, sm2, sq2, hb119]
                          refine aops_val (v := ?v125) rfl ?h125 ?_
                          case h125 => simp only [qq, Nat.reduceBEq, reduceIte, Nat.reduceEqDiff, Nat.reduceAdd, Nat.reduceLeDiff, reduceCtorEq, Nat.reduceMul, Int.reduceToNat, s8t0, s8t5, s8t6, s8t7, hb13, hb19, s28t8, s28t22, s28f0, s28f5, s28f6, s28f7, s28f20, s28f21, hb32, hb50, hb51, hb103, hb114, sm2, sq2, hb119]; (rw [y_quo (by omega), sq2, wr_id] <;> omega)
                          simp only [qq, Nat.reduceBEq, reduceIte, Nat.reduceEqDiff, Nat.reduceAdd, Nat.reduceLeDiff, reduceCtorEq, Nat.reduceMul, Int.reduceToNat, s8t0, s8t5, s8t6, s8t7, hb13, hb19, s28t8, s28t22, s28f0, s28f5, s28f6, s28f7, s28f20, s28f21, hb32, hb50, hb51, hb103, hb114, sm2, sq2, hb119]
                          refine aops_val (v := ?v126) rfl ?h126 ?_
                          case h126 => simp only [qq, Nat.reduceBEq, reduceIte, Nat.reduceEqDiff, Nat.reduceAdd, Nat.reduceLeDiff, reduceCtorEq, Nat.reduceMul, Int.reduceToNat, s8t0, s8t5, s8t6, s8t7, hb13, hb19, s28t8, s28t22, s28f0, s28f5, s28f6, s28f7, s28f20, s28f21, hb32, hb50, hb51, hb103, hb114, sm2, sq2, hb119]; first | (rw [wr_id] <;> omega) | rfl
                          simp only [qq, Nat.reduceBEq, reduceIte, Nat.reduceEqDiff, Nat.reduceAdd, Nat.reduceLeDiff, reduceCtorEq, Nat.reduceMul, Int.reduceToNat, s8t0, s8t5, s8t6, s8t7, hb13, hb19, s28t8, s28t22, s28f0, s28f5, s28f6, s28f7, s28f20, s28f21, hb32, hb50, hb51, hb103, hb114, sm2, sq2, hb119]
                          refine aops_val (v := ?v127) rfl ?h127 ?_
                          case h127 => simp only [qq, Nat.reduceBEq, reduceIte, Nat.reduceEqDiff, Nat.reduceAdd, Nat.reduceLeDiff, reduceCtorEq, Nat.reduceMul, Int.reduceToNat, s8t0, s8t5, s8t6, s8t7, hb13, hb19, s28t8, s28t22, s28f0, s28f5, s28f6, s28f7, s28f20, s28f21, hb32, hb50, hb51, hb103, hb114, sm2, sq2, hb119]; first | (rw [wr_id] <;> omega) | rfl
                          simp only [qq, Nat.reduceBEq, reduceIte, Nat.reduceEqDiff, Nat.reduceAdd, Nat.reduceLeDiff, reduceCtorEq, Nat.reduceMul, Int.reduceToNat, s8t0, s8t5, s8t6, s8t7, hb13, hb19, s28t8, s28t22, s28f0, s28f5, s28f6, s28f7, s28f20, s28f21, hb32, hb50, hb51, hb103, hb114, sm2, sq2, hb119]
                          refine aops_orunN 4 _ _ ?_
                          simp only [qq, Nat.reduceBEq, reduceIte, Nat.reduceEqDiff, Nat.reduceAdd, Nat.reduceLeDiff, reduceCtorEq, Nat.reduceMul, Int.reduceToNat, s8t0, s8t5, s8t6, s8t7, hb13, hb19, s28t8, s28t22, s28f0, s28f5, s28f6, s28f7, s28f20, s28f21, hb32, hb50, hb51, hb103, hb114, sm2, sq2, hb119]
                          refine aops_nil (hL124 _ ?_)
                          simp only [qq, Nat.reduceBEq, reduceIte, Nat.reduceEqDiff, Nat.reduceAdd, Nat.reduceLeDiff, reduceCtorEq, Nat.reduceMul, Int.reduceToNat, s8t0, s8t5, s8t6, s8t7, hb13, hb19, s28t8, s28t22, s28f0, s28f5, s28f6, s28f7, s28f20, s28f21, hb32, hb50, hb51, hb103, hb114, sm2, sq2, hb119]
                          try simp only [rk_state]
                          refine hK123 _ ?_
                          refine awp_ret ?_
                          try simp only [rk_state]
                          refine ⟨_, 0, by simp only [qq, Nat.reduceBEq, reduceIte, Nat.reduceEqDiff, Nat.reduceAdd, Nat.reduceLeDiff, reduceCtorEq, Nat.reduceMul, Int.reduceToNat, resA, Try.results42, s8t0, s8t5, s8t6, s8t7, hb13, hb19, s28t8, s28t22, s28f0, s28f5, s28f6, s28f7, s28f20, s28f21, hb32, hb50, hb51, hb103, hb114, sm2, sq2, hb119]; rfl, ?_, fun l hl => absurd rfl hl, fun l hl => absurd rfl hl⟩
                          simp only [packA]
                          unfold ztakeR; first | (rw [← hq4_2, show 8 - k = 0 from by omega, zr_zero]; (repeat' (first | exact .nil | exact wkR_c | exact wkR_own | exact wkR_nils | refine wkR_int ?_ | refine wkR_bool ?_ | refine wkR_sl ?_ | refine wkR_osl ?_ | refine wkR_nsl ?_ | refine wkR_oo ?_ | refine wkR_no ?_ | refine .cons ?_ ?_ | refine wkR_agg ?_ | refine wkR_tup ?_)) <;> rfl) | (rw [← hq4_2, zr_torn (by omega) (by omega)]; (repeat' (first | exact .nil | exact wkR_c | exact wkR_own | exact wkR_nils | refine wkR_int ?_ | refine wkR_bool ?_ | refine wkR_sl ?_ | refine wkR_osl ?_ | refine wkR_nsl ?_ | refine wkR_oo ?_ | refine wkR_no ?_ | refine .cons ?_ ?_ | refine wkR_agg ?_ | refine wkR_tup ?_)) <;> rfl) | (rw [← hq4_2, zr_form (by omega) (by omega) (by omega) (by omega)]; (repeat' (first | exact .nil | exact wkR_c | exact wkR_own | exact wkR_nils | refine wkR_int ?_ | refine wkR_bool ?_ | refine wkR_sl ?_ | refine wkR_osl ?_ | refine wkR_nsl ?_ | refine wkR_oo ?_ | refine wkR_no ?_ | refine .cons ?_ ?_ | refine wkR_agg ?_ | refine wkR_tup ?_)) <;> rfl) | (rw [← hq4_2, zr_range (by omega) (by omega) hnf (by rw [hm8]; omega)]; (repeat' (first | exact .nil | exact wkR_c | exact wkR_own | exact wkR_nils | refine wkR_int ?_ | refine wkR_bool ?_ | refine wkR_sl ?_ | refine wkR_osl ?_ | refine wkR_nsl ?_ | refine wkR_oo ?_ | refine wkR_no ?_ | refine .cons ?_ ?_ | refine wkR_agg ?_ | refine wkR_tup ?_)) <;> rfl) | (rw [← hq4_2, hdn]; (repeat' (first | exact .nil | exact wkR_c | exact wkR_own | exact wkR_nils | refine wkR_int ?_ | refine wkR_bool ?_ | refine wkR_sl ?_ | refine wkR_osl ?_ | refine wkR_nsl ?_ | refine wkR_oo ?_ | refine wkR_no ?_ | refine .cons ?_ ?_ | refine wkR_agg ?_ | refine wkR_tup ?_)) <;> first | rfl | (dsimp only; omega) | (dsimp only; rw [if_pos rfl, hee, List.drop_drop]))
                     case b114 =>
                      have hp114 := hb114
                      try simp only [kb] at hp114
                      all_goals try exact absurd hb114 (by decide)
                      all_goals try (exfalso; omega)
                      all_goals
                       refine awp_skip ?_
                       try simp only [rk_state]
                       try simp only [rk_state]
                       refine hK9 _ ?_
                       refine awp_region_lit fun L128 hL128 => ?_
                       refine aops_orunN 1 _ _ ?_
                       simp only [qq, Nat.reduceBEq, reduceIte, Nat.reduceEqDiff, Nat.reduceAdd, Nat.reduceLeDiff, reduceCtorEq, Nat.reduceMul, Int.reduceToNat, s8t0, s8t5, s8t6, s8t7, hb13, hb19, s28t8, s28t22, s28f0, s28f5, s28f6, s28f7, s28f20, s28f21, hb32, hb50, hb51, hb103, hb114]
                       refine aops_val (v := ?v129) rfl ?h129 ?_
                       case h129 => simp only [qq, Nat.reduceBEq, reduceIte, Nat.reduceEqDiff, Nat.reduceAdd, Nat.reduceLeDiff, reduceCtorEq, Nat.reduceMul, Int.reduceToNat, s8t0, s8t5, s8t6, s8t7, hb13, hb19, s28t8, s28t22, s28f0, s28f5, s28f6, s28f7, s28f20, s28f21, hb32, hb50, hb51, hb103, hb114]; first | (rw [wr_id] <;> omega) | rfl
                       simp only [qq, Nat.reduceBEq, reduceIte, Nat.reduceEqDiff, Nat.reduceAdd, Nat.reduceLeDiff, reduceCtorEq, Nat.reduceMul, Int.reduceToNat, s8t0, s8t5, s8t6, s8t7, hb13, hb19, s28t8, s28t22, s28f0, s28f5, s28f6, s28f7, s28f20, s28f21, hb32, hb50, hb51, hb103, hb114]
                       refine aops_orunN 1 _ _ ?_
                       simp only [qq, Nat.reduceBEq, reduceIte, Nat.reduceEqDiff, Nat.reduceAdd, Nat.reduceLeDiff, reduceCtorEq, Nat.reduceMul, Int.reduceToNat, s8t0, s8t5, s8t6, s8t7, hb13, hb19, s28t8, s28t22, s28f0, s28f5, s28f6, s28f7, s28f20, s28f21, hb32, hb50, hb51, hb103, hb114]
                       refine aops_nil (hL128 _ ?_)
                       simp only [qq, Nat.reduceBEq, reduceIte, Nat.reduceEqDiff, Nat.reduceAdd, Nat.reduceLeDiff, reduceCtorEq, Nat.reduceMul, Int.reduceToNat, s8t0, s8t5, s8t6, s8t7, hb13, hb19, s28t8, s28t22, s28f0, s28f5, s28f6, s28f7, s28f20, s28f21, hb32, hb50, hb51, hb103, hb114]
                       try simp only [rk_state]
                       have hx := group_t (l := l.drop (4 * k)) (by omega) (by assumption)
                       have hnx := zr_next (f := 8 - k) (k := k) (n := n) (sc := 8 ^ k) (l := (l.drop (4 * k))) (by omega) (by omega) hnf (by rw [hm8]; omega) (by omega)
                       rw [List.drop_drop, hm8, show 4 * k + 4 = 4 * (k + 1) from by omega, show 8 - k - 1 = 8 - (k + 1) from by omega] at hnx
                       refine hK8 _ ((fun (k : Nat) (n : Int) => 9 - k) (k + 1) ((n + dAt (((l.drop (4 * k)).take 4).drop 1) 3 * 8 ^ k))) ?_ ⟨k + 1, (n + dAt (((l.drop (4 * k)).take 4).drop 1) 3 * 8 ^ k), rfl, ?_, ?_, ?_, ?_, ?_, ?_, ?_⟩
                       · (try simp only []); omega
                       · omega
                       · omega
                       · (rw [Int.pow_succ, ← hnx]; exact hq4_2)
                       · (try simp only [qq, Nat.reduceBEq, reduceIte, Nat.reduceEqDiff, Nat.reduceAdd, Nat.reduceLeDiff, reduceCtorEq, Nat.reduceMul, Int.reduceToNat, s8t0, s8t5, s8t6, s8t7, hb13, hb19, s28t8, s28t22, s28f0, s28f5, s28f6, s28f7, s28f20, s28f21, hb32, hb50, hb51, hb103, hb114])
                         all_goals (rw [List.drop_drop]; rfl)
                       · (try simp only [qq, Nat.reduceBEq, reduceIte, Nat.reduceEqDiff, Nat.reduceAdd, Nat.reduceLeDiff, reduceCtorEq, Nat.reduceMul, Int.reduceToNat, s8t0, s8t5, s8t6, s8t7, hb13, hb19, s28t8, s28t22, s28f0, s28f5, s28f6, s28f7, s28f20, s28f21, hb32, hb50, hb51, hb103, hb114])
                         all_goals (first | done | rfl | (simp only [AV.c.injEq, C.int.injEq, List.cons.injEq, and_true, true_and]; omega))
                       · (try simp only [qq, Nat.reduceBEq, reduceIte, Nat.reduceEqDiff, Nat.reduceAdd, Nat.reduceLeDiff, reduceCtorEq, Nat.reduceMul, Int.reduceToNat, s8t0, s8t5, s8t6, s8t7, hb13, hb19, s28t8, s28t22, s28f0, s28f5, s28f6, s28f7, s28f20, s28f21, hb32, hb50, hb51, hb103, hb114])
                         all_goals (rw [Int.pow_succ])
                       · (try simp only [qq, Nat.reduceBEq, reduceIte, Nat.reduceEqDiff, Nat.reduceAdd, Nat.reduceLeDiff, reduceCtorEq, Nat.reduceMul, Int.reduceToNat, s8t0, s8t5, s8t6, s8t7, hb13, hb19, s28t8, s28t22, s28f0, s28f5, s28f6, s28f7, s28f20, s28f21, hb32, hb50, hb51, hb103, hb114])
                         all_goals (first | done | rfl | (simp only [AV.c.injEq, C.int.injEq, List.cons.injEq, and_true, true_and]; omega))
             case b50 =>
              have hp50 := hb50
              try simp only [kb] at hp50
              all_goals try exact absurd hb50 (by decide)
              all_goals try (exfalso; omega)
              all_goals
               try simp only [hb50]
               refine aops_orunN 9 _ _ ?_
               simp only [qq, Nat.reduceBEq, reduceIte, Nat.reduceEqDiff, Nat.reduceAdd, Nat.reduceLeDiff, reduceCtorEq, Nat.reduceMul, Int.reduceToNat, s8t0, s8t5, s8t6, s8t7, hb13, hb19, s28t8, s28t22, s28f0, s28f5, s28f6, s28f7, s28f20, s28f21, hb32, hb50]
               refine aops_nil (hL49 _ ?_)
               simp only [qq, Nat.reduceBEq, reduceIte, Nat.reduceEqDiff, Nat.reduceAdd, Nat.reduceLeDiff, reduceCtorEq, Nat.reduceMul, Int.reduceToNat, s8t0, s8t5, s8t6, s8t7, hb13, hb19, s28t8, s28t22, s28f0, s28f5, s28f6, s28f7, s28f20, s28f21, hb32, hb50]
               try simp only [rk_state]
               refine hK48 _ ?_
               as_aux_lemma =>
                refine awp_cond (t := false) (by simp only [qq, Nat.reduceBEq, reduceIte, Nat.reduceEqDiff, Nat.reduceAdd, Nat.reduceLeDiff, reduceCtorEq, Nat.reduceMul, Int.reduceToNat, s8t0, s8t5, s8t6, s8t7, hb13, hb19, s28t8, s28t22, s28f0, s28f5, s28f6, s28f7, s28f20, s28f21, hb32, hb50]) (fun h => ?_) (fun _ => ?_)
                case refine_1 => cases h
                refine awp_skip ?_
                try simp only [rk_state]
                refine hK47 _ ?_
                refine awp_seq_k fun K130 hK130 => ?_
                have hnf : ¬ ((readR (l.drop (4 * k)) 4).1 = 0 ∧ 0 < k) := by first | omega | (have h9 := group_t (l := l.drop (4 * k)) (by omega) (by assumption); omega)
                refine awp_region_lit fun L131 hL131 => ?_
                refine aops_orunN 3 _ _ ?_
                simp only [qq, Nat.reduceBEq, reduceIte, Nat.reduceEqDiff, Nat.reduceAdd, Nat.reduceLeDiff, reduceCtorEq, Nat.reduceMul, Int.reduceToNat, s8t0, s8t5, s8t6, s8t7, hb13, hb19, s28t8, s28t22, s28f0, s28f5, s28f6, s28f7, s28f20, s28f21, hb32, hb50]
                refine aops_val (v := ?v132) rfl ?h132 ?_
                case h132 => simp only [qq, Nat.reduceBEq, reduceIte, Nat.reduceEqDiff, Nat.reduceAdd, Nat.reduceLeDiff, reduceCtorEq, Nat.reduceMul, Int.reduceToNat, s8t0, s8t5, s8t6, s8t7, hb13, hb19, s28t8, s28t22, s28f0, s28f5, s28f6, s28f7, s28f20, s28f21, hb32, hb50]; first | (rw [wr_id] <;> omega) | rfl
                simp only [qq, Nat.reduceBEq, reduceIte, Nat.reduceEqDiff, Nat.reduceAdd, Nat.reduceLeDiff, reduceCtorEq, Nat.reduceMul, Int.reduceToNat, s8t0, s8t5, s8t6, s8t7, hb13, hb19, s28t8, s28t22, s28f0, s28f5, s28f6, s28f7, s28f20, s28f21, hb32, hb50]
                refine aops_val (v := ?v133) rfl ?h133 ?_
                case h133 => simp only [qq, Nat.reduceBEq, reduceIte, Nat.reduceEqDiff, Nat.reduceAdd, Nat.reduceLeDiff, reduceCtorEq, Nat.reduceMul, Int.reduceToNat, s8t0, s8t5, s8t6, s8t7, hb13, hb19, s28t8, s28t22, s28f0, s28f5, s28f6, s28f7, s28f20, s28f21, hb32, hb50]; first | (rw [wr_id] <;> omega) | rfl
                simp only [qq, Nat.reduceBEq, reduceIte, Nat.reduceEqDiff, Nat.reduceAdd, Nat.reduceLeDiff, reduceCtorEq, Nat.reduceMul, Int.reduceToNat, s8t0, s8t5, s8t6, s8t7, hb13, hb19, s28t8, s28t22, s28f0, s28f5, s28f6, s28f7, s28f20, s28f21, hb32, hb50]
                refine aops_orunN 1 _ _ ?_
                simp only [qq, Nat.reduceBEq, reduceIte, Nat.reduceEqDiff, Nat.reduceAdd, Nat.reduceLeDiff, reduceCtorEq, Nat.reduceMul, Int.reduceToNat, s8t0, s8t5, s8t6, s8t7, hb13, hb19, s28t8, s28t22, s28f0, s28f5, s28f6, s28f7, s28f20, s28f21, hb32, hb50]
                refine aops_nil (hL131 _ ?_)
                simp only [qq, Nat.reduceBEq, reduceIte, Nat.reduceEqDiff, Nat.reduceAdd, Nat.reduceLeDiff, reduceCtorEq, Nat.reduceMul, Int.reduceToNat, s8t0, s8t5, s8t6, s8t7, hb13, hb19, s28t8, s28t22, s28f0, s28f5, s28f6, s28f7, s28f20, s28f21, hb32, hb50]
                try simp only [rk_state]
                refine hK130 _ ?_
                refine awp_seq_k fun K134 hK134 => ?_
                refine awp_region_lit fun L135 hL135 => ?_
                refine aops_orunN 1 _ _ ?_
                simp only [qq, Nat.reduceBEq, reduceIte, Nat.reduceEqDiff, Nat.reduceAdd, Nat.reduceLeDiff, reduceCtorEq, Nat.reduceMul, Int.reduceToNat, s8t0, s8t5, s8t6, s8t7, hb13, hb19, s28t8, s28t22, s28f0, s28f5, s28f6, s28f7, s28f20, s28f21, hb32, hb50]
                refine aops_val (v := ?v136) rfl ?h136 ?_
                case h136 => simp only [qq, Nat.reduceBEq, reduceIte, Nat.reduceEqDiff, Nat.reduceAdd, Nat.reduceLeDiff, reduceCtorEq, Nat.reduceMul, Int.reduceToNat, s8t0, s8t5, s8t6, s8t7, hb13, hb19, s28t8, s28t22, s28f0, s28f5, s28f6, s28f7, s28f20, s28f21, hb32, hb50]; first | (rw [wr_id] <;> omega) | rfl
                simp only [qq, Nat.reduceBEq, reduceIte, Nat.reduceEqDiff, Nat.reduceAdd, Nat.reduceLeDiff, reduceCtorEq, Nat.reduceMul, Int.reduceToNat, s8t0, s8t5, s8t6, s8t7, hb13, hb19, s28t8, s28t22, s28f0, s28f5, s28f6, s28f7, s28f20, s28f21, hb32, hb50]
                refine aops_orunN 1 _ _ ?_
                simp only [qq, Nat.reduceBEq, reduceIte, Nat.reduceEqDiff, Nat.reduceAdd, Nat.reduceLeDiff, reduceCtorEq, Nat.reduceMul, Int.reduceToNat, s8t0, s8t5, s8t6, s8t7, hb13, hb19, s28t8, s28t22, s28f0, s28f5, s28f6, s28f7, s28f20, s28f21, hb32, hb50]
                refine aops_nil (hL135 _ ?_)
                simp only [qq, Nat.reduceBEq, reduceIte, Nat.reduceEqDiff, Nat.reduceAdd, Nat.reduceLeDiff, reduceCtorEq, Nat.reduceMul, Int.reduceToNat, s8t0, s8t5, s8t6, s8t7, hb13, hb19, s28t8, s28t22, s28f0, s28f5, s28f6, s28f7, s28f20, s28f21, hb32, hb50]
                try simp only [rk_state]
                refine hK134 _ ?_
                refine awp_seq_k fun K137 hK137 => ?_
                refine awp_seq_k fun K138 hK138 => ?_
                refine awp_region_lit fun L139 hL139 => ?_
                refine aops_orunN 2 _ _ ?_
                simp only [qq, Nat.reduceBEq, reduceIte, Nat.reduceEqDiff, Nat.reduceAdd, Nat.reduceLeDiff, reduceCtorEq, Nat.reduceMul, Int.reduceToNat, s8t0, s8t5, s8t6, s8t7, hb13, hb19, s28t8, s28t22, s28f0, s28f5, s28f6, s28f7, s28f20, s28f21, hb32, hb50]
                refine aops_nil (hL139 _ ?_)
                simp only [qq, Nat.reduceBEq, reduceIte, Nat.reduceEqDiff, Nat.reduceAdd, Nat.reduceLeDiff, reduceCtorEq, Nat.reduceMul, Int.reduceToNat, s8t0, s8t5, s8t6, s8t7, hb13, hb19, s28t8, s28t22, s28f0, s28f5, s28f6, s28f7, s28f20, s28f21, hb32, hb50]
                try simp only [rk_state]
                refine hK138 _ ?_
                as_aux_lemma =>
                 refine awp_cond (t := ?t140) ?h140 (fun hb140 => ?a140) (fun hb140 => ?b140)
                 case h140 => simp only [qq, Nat.reduceBEq, reduceIte, Nat.reduceEqDiff, Nat.reduceAdd, Nat.reduceLeDiff, reduceCtorEq, Nat.reduceMul, Int.reduceToNat, s8t0, s8t5, s8t6, s8t7, hb13, hb19, s28t8, s28t22, s28f0, s28f5, s28f6, s28f7, s28f20, s28f21, hb32, hb50]; rfl
                 case a140 =>
                  have hp140 := hb140
                  try simp only [kb] at hp140
                  all_goals try exact absurd hb140 (by decide)
                  all_goals try (exfalso; omega)
                  all_goals
                   refine awp_seq_k fun K141 hK141 => ?_
                   refine awp_region_lit fun L142 hL142 => ?_
                   refine aops_orunN 3 _ _ ?_
                   simp only [qq, Nat.reduceBEq, reduceIte, Nat.reduceEqDiff, Nat.reduceAdd, Nat.reduceLeDiff, reduceCtorEq, Nat.reduceMul, Int.reduceToNat, s8t0, s8t5, s8t6, s8t7, hb13, hb19, s28t8, s28t22, s28f0, s28f5, s28f6, s28f7, s28f20, s28f21, hb32, hb50, hb140]
                   refine aops_nil (hL142 _ ?_)
                   simp only [qq, Nat.reduceBEq, reduceIte, Nat.reduceEqDiff, Nat.reduceAdd, Nat.reduceLeDiff, reduceCtorEq, Nat.reduceMul, Int.reduceToNat, s8t0, s8t5, s8t6, s8t7, hb13, hb19, s28t8, s28t22, s28f0, s28f5, s28f6, s28f7, s28f20, s28f21, hb32, hb50, hb140]
                   try simp only [rk_state]
                   refine hK141 _ ?_
                   refine awp_ret ?_
                   try simp only [rk_state]
                   refine ⟨_, 0, by simp only [qq, Nat.reduceBEq, reduceIte, Nat.reduceEqDiff, Nat.reduceAdd, Nat.reduceLeDiff, reduceCtorEq, Nat.reduceMul, Int.reduceToNat, resA, Try.results42, s8t0, s8t5, s8t6, s8t7, hb13, hb19, s28t8, s28t22, s28f0, s28f5, s28f6, s28f7, s28f20, s28f21, hb32, hb50, hb140]; rfl, ?_, fun l hl => absurd rfl hl, fun l hl => absurd rfl hl⟩
                   simp only [packA]
                   unfold ztakeR; first | (rw [← hq4_2, show 8 - k = 0 from by omega, zr_zero]; (repeat' (first | exact .nil | exact wkR_c | exact wkR_own | exact wkR_nils | refine wkR_int ?_ | refine wkR_bool ?_ | refine wkR_sl ?_ | refine wkR_osl ?_ | refine wkR_nsl ?_ | refine wkR_oo ?_ | refine wkR_no ?_ | refine .cons ?_ ?_ | refine wkR_agg ?_ | refine wkR_tup ?_)) <;> rfl) | (rw [← hq4_2, zr_torn (by omega) (by omega)]; (repeat' (first | exact .nil | exact wkR_c | exact wkR_own | exact wkR_nils | refine wkR_int ?_ | refine wkR_bool ?_ | refine wkR_sl ?_ | refine wkR_osl ?_ | refine wkR_nsl ?_ | refine wkR_oo ?_ | refine wkR_no ?_ | refine .cons ?_ ?_ | refine wkR_agg ?_ | refine wkR_tup ?_)) <;> rfl) | (rw [← hq4_2, zr_form (by omega) (by omega) (by omega) (by omega)]; (repeat' (first | exact .nil | exact wkR_c | exact wkR_own | exact wkR_nils | refine wkR_int ?_ | refine wkR_bool ?_ | refine wkR_sl ?_ | refine wkR_osl ?_ | refine wkR_nsl ?_ | refine wkR_oo ?_ | refine wkR_no ?_ | refine .cons ?_ ?_ | refine wkR_agg ?_ | refine wkR_tup ?_)) <;> rfl) | (rw [← hq4_2, zr_range (by omega) (by omega) hnf (by rw [hm8]; omega)]; (repeat' (first | exact .nil | exact wkR_c | exact wkR_own | exact wkR_nils | refine wkR_int ?_ | refine wkR_bool ?_ | refine wkR_sl ?_ | refine wkR_osl ?_ | refine wkR_nsl ?_ | refine wkR_oo ?_ | refine wkR_no ?_ | refine .cons ?_ ?_ | refine wkR_agg ?_ | refine wkR_tup ?_)) <;> rfl) | (rw [← hq4_2, hdn]; (repeat' (first | exact .nil | exact wkR_c | exact wkR_own | exact wkR_nils | refine wkR_int ?_ | refine wkR_bool ?_ | refine wkR_sl ?_ | refine wkR_osl ?_ | refine wkR_nsl ?_ | refine wkR_oo ?_ | refine wkR_no ?_ | refine .cons ?_ ?_ | refine wkR_agg ?_ | refine wkR_tup ?_)) <;> first | rfl | (dsimp only; omega) | (dsimp only; rw [if_pos rfl, hee, List.drop_drop]))
                 case b140 =>
                  have hp140 := hb140
                  try simp only [kb] at hp140
                  all_goals try exact absurd hb140 (by decide)
                  all_goals try (exfalso; omega)
                  all_goals
                   refine awp_skip ?_
                   try simp only [rk_state]
                   refine hK137 _ ?_
                   refine awp_seq_k fun K143 hK143 => ?_
                   refine awp_region_lit fun L144 hL144 => ?_
                   refine aops_orunN 1 _ _ ?_
                   simp only [qq, Nat.reduceBEq, reduceIte, Nat.reduceEqDiff, Nat.reduceAdd, Nat.reduceLeDiff, reduceCtorEq, Nat.reduceMul, Int.reduceToNat, s8t0, s8t5, s8t6, s8t7, hb13, hb19, s28t8, s28t22, s28f0, s28f5, s28f6, s28f7, s28f20, s28f21, hb32, hb50, hb140]
                   refine aops_val (v := ?v145) rfl ?h145 ?_
                   case h145 => simp only [qq, Nat.reduceBEq, reduceIte, Nat.reduceEqDiff, Nat.reduceAdd, Nat.reduceLeDiff, reduceCtorEq, Nat.reduceMul, Int.reduceToNat, s8t0, s8t5, s8t6, s8t7, hb13, hb19, s28t8, s28t22, s28f0, s28f5, s28f6, s28f7, s28f20, s28f21, hb32, hb50, hb140]; first | (rw [idx_c un36 if4] <;> omega) | (rw [idx_o un36 if4] <;> omega) | (rw [idx_a un36 if4] <;> omega)
                   simp only [qq, Nat.reduceBEq, reduceIte, Nat.reduceEqDiff, Nat.reduceAdd, Nat.reduceLeDiff, reduceCtorEq, Nat.reduceMul, Int.reduceToNat, s8t0, s8t5, s8t6, s8t7, hb13, hb19, s28t8, s28t22, s28f0, s28f5, s28f6, s28f7, s28f20, s28f21, hb32, hb50, hb140]
                   refine aops_orunN 2 _ _ ?_
                   simp only [qq, Nat.reduceBEq, reduceIte, Nat.reduceEqDiff, Nat.reduceAdd, Nat.reduceLeDiff, reduceCtorEq, Nat.reduceMul, Int.reduceToNat, s8t0, s8t5, s8t6, s8t7, hb13, hb19, s28t8, s28t22, s28f0, s28f5, s28f6, s28f7, s28f20, s28f21, hb32, hb50, hb140]
                   refine aops_nil (hL144 _ ?_)
                   simp only [qq, Nat.reduceBEq, reduceIte, Nat.reduceEqDiff, Nat.reduceAdd, Nat.reduceLeDiff, reduceCtorEq, Nat.reduceMul, Int.reduceToNat, s8t0, s8t5, s8t6, s8t7, hb13, hb19, s28t8, s28t22, s28f0, s28f5, s28f6, s28f7, s28f20, s28f21, hb32, hb50, hb140]
                   try simp only [rk_state]
                   refine hK143 _ ?_
                   refine awp_seq_k fun K146 hK146 => ?_
                   refine awp_region_lit fun L147 hL147 => ?_
                   refine aops_orunN 1 _ _ ?_
                   simp only [qq, Nat.reduceBEq, reduceIte, Nat.reduceEqDiff, Nat.reduceAdd, Nat.reduceLeDiff, reduceCtorEq, Nat.reduceMul, Int.reduceToNat, s8t0, s8t5, s8t6, s8t7, hb13, hb19, s28t8, s28t22, s28f0, s28f5, s28f6, s28f7, s28f20, s28f21, hb32, hb50, hb140]
                   refine aops_val (v := ?v148) rfl ?h148 ?_
                   case h148 => simp only [qq, Nat.reduceBEq, reduceIte, Nat.reduceEqDiff, Nat.reduceAdd, Nat.reduceLeDiff, reduceCtorEq, Nat.reduceMul, Int.reduceToNat, s8t0, s8t5, s8t6, s8t7, hb13, hb19, s28t8, s28t22, s28f0, s28f5, s28f6, s28f7, s28f20, s28f21, hb32, hb50, hb140]; first | (rw [slc_l un36 if4] <;> omega) | (rw [slc_lo un36 if4] <;> omega)
                   simp only [qq, Nat.reduceBEq, reduceIte, Nat.reduceEqDiff, Nat.reduceAdd, Nat.reduceLeDiff, reduceCtorEq, Nat.reduceMul, Int.reduceToNat, s8t0, s8t5, s8t6, s8t7, hb13, hb19, s28t8, s28t22, s28f0, s28f5, s28f6, s28f7, s28f20, s28f21, hb32, hb50, hb140]
                   refine aops_orunN 1 _ _ ?_
                   simp only [qq, Nat.reduceBEq, reduceIte, Nat.reduceEqDiff, Nat.reduceAdd, Nat.reduceLeDiff, reduceCtorEq, Nat.reduceMul, Int.reduceToNat, s8t0, s8t5, s8t6, s8t7, hb13, hb19, s28t8, s28t22, s28f0, s28f5, s28f6, s28f7, s28f20, s28f21, hb32, hb50, hb140]
                   refine aops_nil (hL147 _ ?_)
                   simp only [qq, Nat.reduceBEq, reduceIte, Nat.reduceEqDiff, Nat.reduceAdd, Nat.reduceLeDiff, reduceCtorEq, Nat.reduceMul, Int.reduceToNat, s8t0, s8t5, s8t6, s8t7, hb13, hb19, s28t8, s28t22, s28f0, s28f5, s28f6, s28f7, s28f20, s28f21, hb32, hb50, hb140]
                   try simp only [rk_state]
                   refine hK146 _ ?_
                   as_aux_lemma =>
                    refine awp_seq_k fun K149 hK149 => ?_
                    refine awp_region_lit fun L150 hL150 => ?_
                    refine aops_orunN 2 _ _ ?_
                    simp only [qq, Nat.reduceBEq, reduceIte, Nat.reduceEqDiff, Nat.reduceAdd, Nat.reduceLeDiff, reduceCtorEq, Nat.reduceMul, Int.reduceToNat, s8t0, s8t5, s8t6, s8t7, hb13, hb19, s28t8, s28t22, s28f0, s28f5, s28f6, s28f7, s28f20, s28f21, hb32, hb50, hb140]
                    refine aops_nil (hL150 _ ?_)
                    simp only [qq, Nat.reduceBEq, reduceIte, Nat.reduceEqDiff, Nat.reduceAdd, Nat.reduceLeDiff, reduceCtorEq, Nat.reduceMul, Int.reduceToNat, s8t0, s8t5, s8t6, s8t7, hb13, hb19, s28t8, s28t22, s28f0, s28f5, s28f6, s28f7, s28f20, s28f21, hb32, hb50, hb140]
                    try simp only [rk_state]
                    refine hK149 _ ?_
                    refine awp_cond (t := ?t151) ?h151 (fun hb151 => ?a151) (fun hb151 => ?b151)
                    case h151 => simp only [qq, Nat.reduceBEq, reduceIte, Nat.reduceEqDiff, Nat.reduceAdd, Nat.reduceLeDiff, reduceCtorEq, Nat.reduceMul, Int.reduceToNat, s8t0, s8t5, s8t6, s8t7, hb13, hb19, s28t8, s28t22, s28f0, s28f5, s28f6, s28f7, s28f20, s28f21, hb32, hb50, hb140]; rfl
                    case a151 =>
                     have hp151 := hb151
                     try simp only [kb] at hp151
                     all_goals try exact absurd hb151 (by decide)
                     all_goals try (exfalso; omega)
                     all_goals
                      refine awp_exit ?_
                      simp only [rk_state, reduceIte, Nat.reduceEqDiff]
                      try simp only [rk_state]
                      refine hK5 _ ?_
                      refine awp_seq_k fun K152 hK152 => ?_
                      refine awp_seq_k fun K153 hK153 => ?_
                      have hx := group_f (l := l.drop (4 * k)) (by omega) (by assumption)
                      have hdn := zr_done (f := 8 - k) (k := k) (n := n) (sc := 8 ^ k) (l := (l.drop (4 * k))) (by omega) (by omega) hnf (by rw [hm8]; omega) (by omega)
                      rw [hm8] at hdn
                      have hu := unf_or (n := (n + dAt (((l.drop (4 * k)).take 4).drop 1) 3 * 8 ^ k)) (by omega)
                      have sm2 : (n + dAt (((l.drop (4 * k)).take 4).drop 1) 3 * 8 ^ k).tmod 2 = (n + dAt (((l.drop (4 * k)).take 4).drop 1) 3 * 8 ^ k) % 2 := Int.tmod_eq_emod_of_nonneg (by omega)
                      have sq2 : (n + dAt (((l.drop (4 * k)).take 4).drop 1) 3 * 8 ^ k).tdiv 2 = (n + dAt (((l.drop (4 * k)).take 4).drop 1) 3 * 8 ^ k) / 2 := Int.tdiv_eq_ediv_of_nonneg (by omega)
                      have hee : (4 * (k : Int) + 4).toNat = 4 * k + 4 := by omega
                      refine awp_region_lit fun L154 hL154 => ?_
                      refine aops_orunN 1 _ _ ?_
                      simp only [qq, Nat.reduceBEq, reduceIte, Nat.reduceEqDiff, Nat.reduceAdd, Nat.reduceLeDiff, reduceCtorEq, Nat.reduceMul, Int.reduceToNat, s8t0, s8t5, s8t6, s8t7, hb13, hb19, s28t8, s28t22, s28f0, s28f5, s28f6, s28f7, s28f20, s28f21, hb32, hb50, hb140, hb151, sm2, sq2]
                      refine aops_val (v := ?v155) rfl ?h155 ?_
                      case h155 => simp only [qq, Nat.reduceBEq, reduceIte, Nat.reduceEqDiff, Nat.reduceAdd, Nat.reduceLeDiff, reduceCtorEq, Nat.reduceMul, Int.reduceToNat, s8t0, s8t5, s8t6, s8t7, hb13, hb19, s28t8, s28t22, s28f0, s28f5, s28f6, s28f7, s28f20, s28f21, hb32, hb50, hb140, hb151, sm2, sq2]; (rw [y_rem] <;> omega)
                      simp only [qq, Nat.reduceBEq, reduceIte, Nat.reduceEqDiff, Nat.reduceAdd, Nat.reduceLeDiff, reduceCtorEq, Nat.reduceMul, Int.reduceToNat, s8t0, s8t5, s8t6, s8t7, hb13, hb19, s28t8, s28t22, s28f0, s28f5, s28f6, s28f7, s28f20, s28f21, hb32, hb50, hb140, hb151, sm2, sq2]
                      refine aops_orunN 1 _ _ ?_
                      simp only [qq, Nat.reduceBEq, reduceIte, Nat.reduceEqDiff, Nat.reduceAdd, Nat.reduceLeDiff, reduceCtorEq, Nat.reduceMul, Int.reduceToNat, s8t0, s8t5, s8t6, s8t7, hb13, hb19, s28t8, s28t22, s28f0, s28f5, s28f6, s28f7, s28f20, s28f21, hb32, hb50, hb140, hb151, sm2, sq2]
                      refine aops_nil (hL154 _ ?_)
                      simp only [qq, Nat.reduceBEq, reduceIte, Nat.reduceEqDiff, Nat.reduceAdd, Nat.reduceLeDiff, reduceCtorEq, Nat.reduceMul, Int.reduceToNat, s8t0, s8t5, s8t6, s8t7, hb13, hb19, s28t8, s28t22, s28f0, s28f5, s28f6, s28f7, s28f20, s28f21, hb32, hb50, hb140, hb151, sm2, sq2]
                      try simp only [rk_state]
                      refine hK153 _ ?_
                      refine awp_cond (t := ?t156) ?h156 (fun hb156 => ?a156) (fun hb156 => ?b156)
                      case h156 => simp only [qq, Nat.reduceBEq, reduceIte, Nat.reduceEqDiff, Nat.reduceAdd, Nat.reduceLeDiff, reduceCtorEq, Nat.reduceMul, Int.reduceToNat, s8t0, s8t5, s8t6, s8t7, hb13, hb19, s28t8, s28t22, s28f0, s28f5, s28f6, s28f7, s28f20, s28f21, hb32, hb50, hb140, hb151, sm2, sq2]; rfl
                      case a156 =>
                       have hp156 := hb156
                       try simp only [kb] at hp156
                       all_goals try exact absurd hb156 (by decide)
                       all_goals try (exfalso; omega)
                       all_goals
                        refine awp_seq_k fun K157 hK157 => ?_
                        refine awp_region_lit fun L158 hL158 => ?_
                        refine aops_orunN 1 _ _ ?_
                        simp only [qq, Nat.reduceBEq, reduceIte, Nat.reduceEqDiff, Nat.reduceAdd, Nat.reduceLeDiff, reduceCtorEq, Nat.reduceMul, Int.reduceToNat, s8t0, s8t5, s8t6, s8t7, hb13, hb19, s28t8, s28t22, s28f0, s28f5, s28f6, s28f7, s28f20, s28f21, hb32, hb50, hb140, hb151, sm2, sq2, hb156]
                        refine aops_val (v := ?v159) rfl ?h159 ?_
                        case h159 => simp only [qq, Nat.reduceBEq, reduceIte, Nat.reduceEqDiff, Nat.reduceAdd, Nat.reduceLeDiff, reduceCtorEq, Nat.reduceMul, Int.reduceToNat, s8t0, s8t5, s8t6, s8t7, hb13, hb19, s28t8, s28t22, s28f0, s28f5, s28f6, s28f7, s28f20, s28f21, hb32, hb50, hb140, hb151, sm2, sq2, hb156]; (rw [y_quo (by omega), sq2, wr_id] <;> omega)
                        simp only [qq, Nat.reduceBEq, reduceIte, Nat.reduceEqDiff, Nat.reduceAdd, Nat.reduceLeDiff, reduceCtorEq, Nat.reduceMul, Int.reduceToNat, s8t0, s8t5, s8t6, s8t7, hb13, hb19, s28t8, s28t22, s28f0, s28f5, s28f6, s28f7, s28f20, s28f21, hb32, hb50, hb140, hb151, sm2, sq2, hb156]
                        refine aops_orunN 4 _ _ ?_
                        simp only [qq, Nat.reduceBEq, reduceIte, Nat.reduceEqDiff, Nat.reduceAdd, Nat.reduceLeDiff, reduceCtorEq, Nat.reduceMul, Int.reduceToNat, s8t0, s8t5, s8t6, s8t7, hb13, hb19, s28t8, s28t22, s28f0, s28f5, s28f6, s28f7, s28f20, s28f21, hb32, hb50, hb140, hb151, sm2, sq2, hb156]
                        refine aops_nil (hL158 _ ?_)
                        simp only [qq, Nat.reduceBEq, reduceIte, Nat.reduceEqDiff, Nat.reduceAdd, Nat.reduceLeDiff, reduceCtorEq, Nat.reduceMul, Int.reduceToNat, s8t0, s8t5, s8t6, s8t7, hb13, hb19, s28t8, s28t22, s28f0, s28f5, s28f6, s28f7, s28f20, s28f21, hb32, hb50, hb140, hb151, sm2, sq2, hb156]
                        try simp only [rk_state]
                        refine hK157 _ ?_
                        as_aux_lemma =>
                         refine awp_ret ?_
                         try simp only [rk_state]
                         refine ⟨_, 0, by simp only [qq, Nat.reduceBEq, reduceIte, Nat.reduceEqDiff, Nat.reduceAdd, Nat.reduceLeDiff, reduceCtorEq, Nat.reduceMul, Int.reduceToNat, resA, Try.results42, s8t0, s8t5, s8t6, s8t7, hb13, hb19, s28t8, s28t22, s28f0, s28f5, s28f6, s28f7, s28f20, s28f21, hb32, hb50, hb140, hb151, sm2, sq2, hb156]; rfl, ?_, fun l hl => absurd rfl hl, fun l hl => absurd rfl hl⟩
                         simp only [packA]
                         unfold ztakeR; first | (rw [← hq4_2, show 8 - k = 0 from by omega, zr_zero]; (repeat' (first | exact .nil | exact wkR_c | exact wkR_own | exact wkR_nils | refine wkR_int ?_ | refine wkR_bool ?_ | refine wkR_sl ?_ | refine wkR_osl ?_ | refine wkR_nsl ?_ | refine wkR_oo ?_ | refine wkR_no ?_ | refine .cons ?_ ?_ | refine wkR_agg ?_ | refine wkR_tup ?_)) <;> rfl) | (rw [← hq4_2, zr_torn (by omega) (by omega)]; (repeat' (first | exact .nil | exact wkR_c | exact wkR_own | exact wkR_nils | refine wkR_int ?_ | refine wkR_bool ?_ | refine wkR_sl ?_ | refine wkR_osl ?_ | refine wkR_nsl ?_ | refine wkR_oo ?_ | refine wkR_no ?_ | refine .cons ?_ ?_ | refine wkR_agg ?_ | refine wkR_tup ?_)) <;> rfl) | (rw [← hq4_2, zr_form (by omega) (by omega) (by omega) (by omega)]; (repeat' (first | exact .nil | exact wkR_c | exact wkR_own | exact wkR_nils | refine wkR_int ?_ | refine wkR_bool ?_ | refine wkR_sl ?_ | refine wkR_osl ?_ | refine wkR_nsl ?_ | refine wkR_oo ?_ | refine wkR_no ?_ | refine .cons ?_ ?_ | refine wkR_agg ?_ | refine wkR_tup ?_)) <;> rfl) | (rw [← hq4_2, zr_range (by omega) (by omega) hnf (by rw [hm8]; omega)]; (repeat' (first | exact .nil | exact wkR_c | exact wkR_own | exact wkR_nils | refine wkR_int ?_ | refine wkR_bool ?_ | refine wkR_sl ?_ | refine wkR_osl ?_ | refine wkR_nsl ?_ | refine wkR_oo ?_ | refine wkR_no ?_ | refine .cons ?_ ?_ | refine wkR_agg ?_ | refine wkR_tup ?_)) <;> rfl) | (rw [← hq4_2, hdn]; (repeat' (first | exact .nil | exact wkR_c | exact wkR_own | exact wkR_nils | refine wkR_int ?_ | refine wkR_bool ?_ | refine wkR_sl ?_ | refine wkR_osl ?_ | refine wkR_nsl ?_ | refine wkR_oo ?_ | refine wkR_no ?_ | refine .cons ?_ ?_ | refine wkR_agg ?_ | refine wkR_tup ?_)) <;> first | rfl | (dsimp only; omega) | (dsimp only; rw [if_pos rfl, hee, List.drop_drop]))
                      case b156 =>
                       have hp156 := hb156
                       try simp only [kb] at hp156
                       all_goals try exact absurd hb156 (by decide)
                       all_goals try (exfalso; omega)
                       all_goals
                        refine awp_skip ?_
                        try simp only [rk_state]
                        refine hK152 _ ?_
                        refine awp_seq_k fun K160 hK160 => ?_
                        refine awp_region_lit fun L161 hL161 => ?_
                        refine aops_orunN 1 _ _ ?_
                        simp only [qq, Nat.reduceBEq, reduceIte, Nat.reduceEqDiff, Nat.reduceAdd, Nat.reduceLeDiff, reduceCtorEq, Nat.reduceMul, Int.reduceToNat, s8t0, s8t5, s8t6, s8t7, hb13, hb19, s28t8, s28t22, s28f0, s28f5, s28f6, s28f7, s28f20, s28f21, hb32, hb50, hb140, hb151, sm2, sq2, hb156]
                        refine aops_val (v := ?v162) rfl ?h162 ?_
                        case h162 => simp only [qq, Nat.reduceBEq, reduceIte, Nat.reduceEqDiff, Nat.reduceAdd, Nat.reduceLeDiff, reduceCtorEq, Nat.reduceMul, Int.reduceToNat, s8t0, s8t5, s8t6, s8t7, hb13, hb19, s28t8, s28t22, s28f0, s28f5, s28f6, s28f7, s28f20, s28f21, hb32, hb50, hb140, hb151, sm2, sq2, hb156]; (rw [y_quo (by omega), sq2, wr_id] <;> omega)
                        simp only [qq, Nat.reduceBEq, reduceIte, Nat.reduceEqDiff, Nat.reduceAdd, Nat.reduceLeDiff, reduceCtorEq, Nat.reduceMul, Int.reduceToNat, s8t0, s8t5, s8t6, s8t7, hb13, hb19, s28t8, s28t22, s28f0, s28f5, s28f6, s28f7, s28f20, s28f21, hb32, hb50, hb140, hb151, sm2, sq2, hb156]
                        refine aops_val (v := ?v163) rfl ?h163 ?_
                        case h163 => simp only [qq, Nat.reduceBEq, reduceIte, Nat.reduceEqDiff, Nat.reduceAdd, Nat.reduceLeDiff, reduceCtorEq, Nat.reduceMul, Int.reduceToNat, s8t0, s8t5, s8t6, s8t7, hb13, hb19, s28t8, s28t22, s28f0, s28f5, s28f6, s28f7, s28f20, s28f21, hb32, hb50, hb140, hb151, sm2, sq2, hb156]; first | (rw [wr_id] <;> omega) | rfl
                        simp only [qq, Nat.reduceBEq, reduceIte, Nat.reduceEqDiff, Nat.reduceAdd, Nat.reduceLeDiff, reduceCtorEq, Nat.reduceMul, Int.reduceToNat, s8t0, s8t5, s8t6, s8t7, hb13, hb19, s28t8, s28t22, s28f0, s28f5, s28f6, s28f7, s28f20, s28f21, hb32, hb50, hb140, hb151, sm2, sq2, hb156]
                        refine aops_val (v := ?v164) rfl ?h164 ?_
                        case h164 => simp only [qq, Nat.reduceBEq, reduceIte, Nat.reduceEqDiff, Nat.reduceAdd, Nat.reduceLeDiff, reduceCtorEq, Nat.reduceMul, Int.reduceToNat, s8t0, s8t5, s8t6, s8t7, hb13, hb19, s28t8, s28t22, s28f0, s28f5, s28f6, s28f7, s28f20, s28f21, hb32, hb50, hb140, hb151, sm2, sq2, hb156]; first | (rw [wr_id] <;> omega) | rfl
                        simp only [qq, Nat.reduceBEq, reduceIte, Nat.reduceEqDiff, Nat.reduceAdd, Nat.reduceLeDiff, reduceCtorEq, Nat.reduceMul, Int.reduceToNat, s8t0, s8t5, s8t6, s8t7, hb13, hb19, s28t8, s28t22, s28f0, s28f5, s28f6, s28f7, s28f20, s28f21, hb32, hb50, hb140, hb151, sm2, sq2, hb156]
                        refine aops_orunN 4 _ _ ?_
                        simp only [qq, Nat.reduceBEq, reduceIte, Nat.reduceEqDiff, Nat.reduceAdd, Nat.reduceLeDiff, reduceCtorEq, Nat.reduceMul, Int.reduceToNat, s8t0, s8t5, s8t6, s8t7, hb13, hb19, s28t8, s28t22, s28f0, s28f5, s28f6, s28f7, s28f20, s28f21, hb32, hb50, hb140, hb151, sm2, sq2, hb156]
                        refine aops_nil (hL161 _ ?_)
                        simp only [qq, Nat.reduceBEq, reduceIte, Nat.reduceEqDiff, Nat.reduceAdd, Nat.reduceLeDiff, reduceCtorEq, Nat.reduceMul, Int.reduceToNat, s8t0, s8t5, s8t6, s8t7, hb13, hb19, s28t8, s28t22, s28f0, s28f5, s28f6, s28f7, s28f20, s28f21, hb32, hb50, hb140, hb151, sm2, sq2, hb156]
                        try simp only [rk_state]
                        refine hK160 _ ?_
                        refine awp_ret ?_
                        try simp only [rk_state]
                        refine ⟨_, 0, by simp only [qq, Nat.reduceBEq, reduceIte, Nat.reduceEqDiff, Nat.reduceAdd, Nat.reduceLeDiff, reduceCtorEq, Nat.reduceMul, Int.reduceToNat, resA, Try.results42, s8t0, s8t5, s8t6, s8t7, hb13, hb19, s28t8, s28t22, s28f0, s28f5, s28f6, s28f7, s28f20, s28f21, hb32, hb50, hb140, hb151, sm2, sq2, hb156]; rfl, ?_, fun l hl => absurd rfl hl, fun l hl => absurd rfl hl⟩
                        simp only [packA]
                        unfold ztakeR; first | (rw [← hq4_2, show 8 - k = 0 from by omega, zr_zero]; (repeat' (first | exact .nil | exact wkR_c | exact wkR_own | exact wkR_nils | refine wkR_int ?_ | refine wkR_bool ?_ | refine wkR_sl ?_ | refine wkR_osl ?_ | refine wkR_nsl ?_ | refine wkR_oo ?_ | refine wkR_no ?_ | refine .cons ?_ ?_ | refine wkR_agg ?_ | refine wkR_tup ?_)) <;> rfl) | (rw [← hq4_2, zr_torn (by omega) (by omega)]; (repeat' (first | exact .nil | exact wkR_c | exact wkR_own | exact wkR_nils | refine wkR_int ?_ | refine wkR_bool ?_ | refine wkR_sl ?_ | refine wkR_osl ?_ | refine wkR_nsl ?_ | refine wkR_oo ?_ | refine wkR_no ?_ | refine .cons ?_ ?_ | refine wkR_agg ?_ | refine wkR_tup ?_)) <;> rfl) | (rw [← hq4_2, zr_form (by omega) (by omega) (by omega) (by omega)]; (repeat' (first | exact .nil | exact wkR_c | exact wkR_own | exact wkR_nils | refine wkR_int ?_ | refine wkR_bool ?_ | refine wkR_sl ?_ | refine wkR_osl ?_ | refine wkR_nsl ?_ | refine wkR_oo ?_ | refine wkR_no ?_ | refine .cons ?_ ?_ | refine wkR_agg ?_ | refine wkR_tup ?_)) <;> rfl) | (rw [← hq4_2, zr_range (by omega) (by omega) hnf (by rw [hm8]; omega)]; (repeat' (first | exact .nil | exact wkR_c | exact wkR_own | exact wkR_nils | refine wkR_int ?_ | refine wkR_bool ?_ | refine wkR_sl ?_ | refine wkR_osl ?_ | refine wkR_nsl ?_ | refine wkR_oo ?_ | refine wkR_no ?_ | refine .cons ?_ ?_ | refine wkR_agg ?_ | refine wkR_tup ?_)) <;> rfl) | (rw [← hq4_2, hdn]; (repeat' (first | exact .nil | exact wkR_c | exact wkR_own | exact wkR_nils | refine wkR_int ?_ | refine wkR_bool ?_ | refine wkR_sl ?_ | refine wkR_osl ?_ | refine wkR_nsl ?_ | refine wkR_oo ?_ | refine wkR_no ?_ | refine .cons ?_ ?_ | refine wkR_agg ?_ | refine wkR_tup ?_)) <;> first | rfl | (dsimp only; omega) | (dsimp only; rw [if_pos rfl, hee, List.drop_drop]))
                    case b151 =>
                     have hp151 := hb151
                     try simp only [kb] at hp151
                     all_goals try exact absurd hb151 (by decide)
                     all_goals try (exfalso; omega)
                     all_goals
                      refine awp_skip ?_
                      try simp only [rk_state]
                      try simp only [rk_state]
                      refine hK9 _ ?_
                      refine awp_region_lit fun L165 hL165 => ?_
                      refine aops_orunN 1 _ _ ?_
                      simp only [qq, Nat.reduceBEq, reduceIte, Nat.reduceEqDiff, Nat.reduceAdd, Nat.reduceLeDiff, reduceCtorEq, Nat.reduceMul, Int.reduceToNat, s8t0, s8t5, s8t6, s8t7, hb13, hb19, s28t8, s28t22, s28f0, s28f5, s28f6, s28f7, s28f20, s28f21, hb32, hb50, hb140, hb151]
                      refine aops_val (v := ?v166) rfl ?h166 ?_
                      case h166 => simp only [qq, Nat.reduceBEq, reduceIte, Nat.reduceEqDiff, Nat.reduceAdd, Nat.reduceLeDiff, reduceCtorEq, Nat.reduceMul, Int.reduceToNat, s8t0, s8t5, s8t6, s8t7, hb13, hb19, s28t8, s28t22, s28f0, s28f5, s28f6, s28f7, s28f20, s28f21, hb32, hb50, hb140, hb151]; first | (rw [wr_id] <;> omega) | rfl
                      simp only [qq, Nat.reduceBEq, reduceIte, Nat.reduceEqDiff, Nat.reduceAdd, Nat.reduceLeDiff, reduceCtorEq, Nat.reduceMul, Int.reduceToNat, s8t0, s8t5, s8t6, s8t7, hb13, hb19, s28t8, s28t22, s28f0, s28f5, s28f6, s28f7, s28f20, s28f21, hb32, hb50, hb140, hb151]
                      refine aops_orunN 1 _ _ ?_
                      simp only [qq, Nat.reduceBEq, reduceIte, Nat.reduceEqDiff, Nat.reduceAdd, Nat.reduceLeDiff, reduceCtorEq, Nat.reduceMul, Int.reduceToNat, s8t0, s8t5, s8t6, s8t7, hb13, hb19, s28t8, s28t22, s28f0, s28f5, s28f6, s28f7, s28f20, s28f21, hb32, hb50, hb140, hb151]
                      refine aops_nil (hL165 _ ?_)
                      simp only [qq, Nat.reduceBEq, reduceIte, Nat.reduceEqDiff, Nat.reduceAdd, Nat.reduceLeDiff, reduceCtorEq, Nat.reduceMul, Int.reduceToNat, s8t0, s8t5, s8t6, s8t7, hb13, hb19, s28t8, s28t22, s28f0, s28f5, s28f6, s28f7, s28f20, s28f21, hb32, hb50, hb140, hb151]
                      try simp only [rk_state]
                      have hx := group_t (l := l.drop (4 * k)) (by omega) (by assumption)
                      have hnx := zr_next (f := 8 - k) (k := k) (n := n) (sc := 8 ^ k) (l := (l.drop (4 * k))) (by omega) (by omega) hnf (by rw [hm8]; omega) (by omega)
                      rw [List.drop_drop, hm8, show 4 * k + 4 = 4 * (k + 1) from by omega, show 8 - k - 1 = 8 - (k + 1) from by omega] at hnx
                      refine hK8 _ ((fun (k : Nat) (n : Int) => 9 - k) (k + 1) ((n + dAt (((l.drop (4 * k)).take 4).drop 1) 3 * 8 ^ k))) ?_ ⟨k + 1, (n + dAt (((l.drop (4 * k)).take 4).drop 1) 3 * 8 ^ k), rfl, ?_, ?_, ?_, ?_, ?_, ?_, ?_⟩
                      · (try simp only []); omega
                      · omega
                      · omega
                      · (rw [Int.pow_succ, ← hnx]; exact hq4_2)
                      · (try simp only [qq, Nat.reduceBEq, reduceIte, Nat.reduceEqDiff, Nat.reduceAdd, Nat.reduceLeDiff, reduceCtorEq, Nat.reduceMul, Int.reduceToNat, s8t0, s8t5, s8t6, s8t7, hb13, hb19, s28t8, s28t22, s28f0, s28f5, s28f6, s28f7, s28f20, s28f21, hb32, hb50, hb140, hb151])
                        all_goals (rw [List.drop_drop]; rfl)
                      · (try simp only [qq, Nat.reduceBEq, reduceIte, Nat.reduceEqDiff, Nat.reduceAdd, Nat.reduceLeDiff, reduceCtorEq, Nat.reduceMul, Int.reduceToNat, s8t0, s8t5, s8t6, s8t7, hb13, hb19, s28t8, s28t22, s28f0, s28f5, s28f6, s28f7, s28f20, s28f21, hb32, hb50, hb140, hb151])
                        all_goals (first | done | rfl | (simp only [AV.c.injEq, C.int.injEq, List.cons.injEq, and_true, true_and]; omega))
                      · (try simp only [qq, Nat.reduceBEq, reduceIte, Nat.reduceEqDiff, Nat.reduceAdd, Nat.reduceLeDiff, reduceCtorEq, Nat.reduceMul, Int.reduceToNat, s8t0, s8t5, s8t6, s8t7, hb13, hb19, s28t8, s28t22, s28f0, s28f5, s28f6, s28f7, s28f20, s28f21, hb32, hb50, hb140, hb151])
                        all_goals (rw [Int.pow_succ])
                      · (try simp only [qq, Nat.reduceBEq, reduceIte, Nat.reduceEqDiff, Nat.reduceAdd, Nat.reduceLeDiff, reduceCtorEq, Nat.reduceMul, Int.reduceToNat, s8t0, s8t5, s8t6, s8t7, hb13, hb19, s28t8, s28t22, s28f0, s28f5, s28f6, s28f7, s28f20, s28f21, hb32, hb50, hb140, hb151])
                        all_goals (first | done | rfl | (simp only [AV.c.injEq, C.int.injEq, List.cons.injEq, and_true, true_and]; omega))
set_option maxHeartbeats 4000000 in
set_option maxRecDepth 50000 in
theorem folded_fun  : Fun Try.prog 43 [] nomem (.c (.bool true)) nomem := by
 refine fun_of_awp Try.func43 rfl (by decide +kernel) (by decide +kernel) (Nat.le_of_ble_eq_true rfl) (fun _ _ => rfl) (fun _ _ => rfl) ?_
 refine awp_seq_k fun K1 hK1 => ?_
 refine awp_region_lit fun L2 hL2 => ?_
 refine aops_orunN 1 _ _ ?_
 simp only [qq, Nat.reduceBEq, reduceIte, Nat.reduceEqDiff, Nat.reduceAdd, Nat.reduceLeDiff, reduceCtorEq, Nat.reduceMul, Int.reduceToNat]
 refine aops_nil (hL2 _ ?_)
 simp only [qq, Nat.reduceBEq, reduceIte, Nat.reduceEqDiff, Nat.reduceAdd, Nat.reduceLeDiff, reduceCtorEq, Nat.reduceMul, Int.reduceToNat]
 try simp only [rk_state]
 refine hK1 _ ?_
 refine awp_seq_k fun K3 hK3 => ?_
 have s1 : zputR [] 3 = ([false, true, true, false], 0) := by decide +kernel
 refine awp_region_lit fun L4 hL4 => ?_
 refine aops_call_own (zput_fun [] 3 (by simp)) rfl rfl rfl rfl (by (try simp only [qq, Nat.reduceBEq, reduceIte, Nat.reduceEqDiff, Nat.reduceAdd, Nat.reduceLeDiff, reduceCtorEq, Nat.reduceMul, Int.reduceToNat, s1]); (repeat' (first | exact .nil | exact wk_c | exact wk_ownc | exact wk_nilsc | exact wk_nils | exact wk_fn | refine .cons ?_ ?_ | refine wk_agg ?_ | refine wk_fnL ?_))) rfl rfl rfl (by simp only [qq, Nat.reduceBEq, reduceIte, Nat.reduceEqDiff, Nat.reduceAdd, Nat.reduceLeDiff, reduceCtorEq, Nat.reduceMul, Int.reduceToNat, s1]) ?_
 simp only [qq, Nat.reduceBEq, reduceIte, Nat.reduceEqDiff, Nat.reduceAdd, Nat.reduceLeDiff, reduceCtorEq, Nat.reduceMul, Int.reduceToNat, AV.setOwn, AV.setOwn1, s1]
 refine aops_orunN 5 _ _ ?_
 simp only [qq, Nat.reduceBEq, reduceIte, Nat.reduceEqDiff, Nat.reduceAdd, Nat.reduceLeDiff, reduceCtorEq, Nat.reduceMul, Int.reduceToNat, s1]
 refine aops_nil (hL4 _ ?_)
 simp only [qq, Nat.reduceBEq, reduceIte, Nat.reduceEqDiff, Nat.reduceAdd, Nat.reduceLeDiff, reduceCtorEq, Nat.reduceMul, Int.reduceToNat, s1]
 try simp only [rk_state]
 refine hK3 _ ?_
 refine awp_seq_k fun K6 hK6 => ?_
 have s2 : zputR [] 4 = ([true, false, false, false, false, false, false, true], 0) := by decide +kernel
 refine awp_region_lit fun L7 hL7 => ?_
 refine aops_call_own (zput_fun [] 4 (by simp)) rfl rfl rfl rfl (by (try simp only [qq, Nat.reduceBEq, reduceIte, Nat.reduceEqDiff, Nat.reduceAdd, Nat.reduceLeDiff, reduceCtorEq, Nat.reduceMul, Int.reduceToNat, s1, s2]); (repeat' (first | exact .nil | exact wk_c | exact wk_ownc | exact wk_nilsc | exact wk_nils | exact wk_fn | refine .cons ?_ ?_ | refine wk_agg ?_ | refine wk_fnL ?_))) rfl rfl rfl (by simp only [qq, Nat.reduceBEq, reduceIte, Nat.reduceEqDiff, Nat.reduceAdd, Nat.reduceLeDiff, reduceCtorEq, Nat.reduceMul, Int.reduceToNat, s1, s2]) ?_
 simp only [qq, Nat.reduceBEq, reduceIte, Nat.reduceEqDiff, Nat.reduceAdd, Nat.reduceLeDiff, reduceCtorEq, Nat.reduceMul, Int.reduceToNat, AV.setOwn, AV.setOwn1, s1, s2]
 refine aops_orunN 5 _ _ ?_
 simp only [qq, Nat.reduceBEq, reduceIte, Nat.reduceEqDiff, Nat.reduceAdd, Nat.reduceLeDiff, reduceCtorEq, Nat.reduceMul, Int.reduceToNat, s1, s2]
 refine aops_nil (hL7 _ ?_)
 simp only [qq, Nat.reduceBEq, reduceIte, Nat.reduceEqDiff, Nat.reduceAdd, Nat.reduceLeDiff, reduceCtorEq, Nat.reduceMul, Int.reduceToNat, s1, s2]
 try simp only [rk_state]
 refine hK6 _ ?_
 as_aux_lemma =>
  refine awp_seq_k fun K9 hK9 => ?_
  have s3 : ztakeR [false, false, false, true, true] = (-1, [true], 0) := by decide +kernel
  refine awp_region_lit fun L10 hL10 => ?_
  refine aops_orunN 1 _ _ ?_
  simp only [qq, Nat.reduceBEq, reduceIte, Nat.reduceEqDiff, Nat.reduceAdd, Nat.reduceLeDiff, reduceCtorEq, Nat.reduceMul, Int.reduceToNat, s1, s2, s3]
  refine aops_call_own (ztake_fun [false, false, false, true, true] (by simp)) rfl rfl rfl rfl (by (try simp only [qq, Nat.reduceBEq, reduceIte, Nat.reduceEqDiff, Nat.reduceAdd, Nat.reduceLeDiff, reduceCtorEq, Nat.reduceMul, Int.reduceToNat, s1, s2, s3]); (repeat' (first | exact .nil | exact wk_c | exact wk_ownc | exact wk_nilsc | exact wk_nils | exact wk_fn | refine .cons ?_ ?_ | refine wk_agg ?_ | refine wk_fnL ?_))) rfl rfl rfl (by simp only [qq, Nat.reduceBEq, reduceIte, Nat.reduceEqDiff, Nat.reduceAdd, Nat.reduceLeDiff, reduceCtorEq, Nat.reduceMul, Int.reduceToNat, s1, s2, s3]) ?_
  simp only [qq, Nat.reduceBEq, reduceIte, Nat.reduceEqDiff, Nat.reduceAdd, Nat.reduceLeDiff, reduceCtorEq, Nat.reduceMul, Int.reduceToNat, AV.setOwn, AV.setOwn1, s1, s2, s3]
  refine aops_orunN 7 _ _ ?_
  simp only [qq, Nat.reduceBEq, reduceIte, Nat.reduceEqDiff, Nat.reduceAdd, Nat.reduceLeDiff, reduceCtorEq, Nat.reduceMul, Int.reduceToNat, s1, s2, s3]
  refine aops_nil (hL10 _ ?_)
  simp only [qq, Nat.reduceBEq, reduceIte, Nat.reduceEqDiff, Nat.reduceAdd, Nat.reduceLeDiff, reduceCtorEq, Nat.reduceMul, Int.reduceToNat, s1, s2, s3]
  try simp only [rk_state]
  refine hK9 _ ?_
  refine awp_seq_k fun K12 hK12 => ?_
  have s4 : ztakeR [true, false, false, false, false, false, false, false] = (0, [], 4) := by decide +kernel
  refine awp_region_lit fun L13 hL13 => ?_
  refine aops_orunN 1 _ _ ?_
  simp only [qq, Nat.reduceBEq, reduceIte, Nat.reduceEqDiff, Nat.reduceAdd, Nat.reduceLeDiff, reduceCtorEq, Nat.reduceMul, Int.reduceToNat, s1, s2, s3, s4]
  refine aops_call_own (ztake_fun [true, false, false, false, false, false, false, false] (by simp)) rfl rfl rfl rfl (by (try simp only [qq, Nat.reduceBEq, reduceIte, Nat.reduceEqDiff, Nat.reduceAdd, Nat.reduceLeDiff, reduceCtorEq, Nat.reduceMul, Int.reduceToNat, s1, s2, s3, s4]); (repeat' (first | exact .nil | exact wk_c | exact wk_ownc | exact wk_nilsc | exact wk_nils | exact wk_fn | refine .cons ?_ ?_ | refine wk_agg ?_ | refine wk_fnL ?_))) rfl rfl rfl (by simp only [qq, Nat.reduceBEq, reduceIte, Nat.reduceEqDiff, Nat.reduceAdd, Nat.reduceLeDiff, reduceCtorEq, Nat.reduceMul, Int.reduceToNat, s1, s2, s3, s4]) ?_
  simp only [qq, Nat.reduceBEq, reduceIte, Nat.reduceEqDiff, Nat.reduceAdd, Nat.reduceLeDiff, reduceCtorEq, Nat.reduceMul, Int.reduceToNat, AV.setOwn, AV.setOwn1, s1, s2, s3, s4]
  refine aops_orunN 7 _ _ ?_
  simp only [qq, Nat.reduceBEq, reduceIte, Nat.reduceEqDiff, Nat.reduceAdd, Nat.reduceLeDiff, reduceCtorEq, Nat.reduceMul, Int.reduceToNat, s1, s2, s3, s4]
  refine aops_nil (hL13 _ ?_)
  simp only [qq, Nat.reduceBEq, reduceIte, Nat.reduceEqDiff, Nat.reduceAdd, Nat.reduceLeDiff, reduceCtorEq, Nat.reduceMul, Int.reduceToNat, s1, s2, s3, s4]
  try simp only [rk_state]
  refine hK12 _ ?_
  refine awp_seq_k fun K15 hK15 => ?_
  refine awp_region_lit fun L16 hL16 => ?_
  refine aops_orunN 3 _ _ ?_
  simp only [qq, Nat.reduceBEq, reduceIte, Nat.reduceEqDiff, Nat.reduceAdd, Nat.reduceLeDiff, reduceCtorEq, Nat.reduceMul, Int.reduceToNat, s1, s2, s3, s4]
  refine aops_part (b := ?p17) 33 ?h17 (fun hb17 => ?a17) (fun hb17 => ?b17)
  case h17 => simp only [qq, Nat.reduceBEq, reduceIte, Nat.reduceEqDiff, Nat.reduceAdd, Nat.reduceLeDiff, reduceCtorEq, Nat.reduceMul, Int.reduceToNat, s1, s2, s3, s4]; rfl
  case a17 =>
   have hp17 := hb17
   try simp only [kb] at hp17
   all_goals try exact absurd hb17 (by decide)
   all_goals try (exfalso; omega)
   all_goals
    try simp only [hb17]
    refine aops_orunN 4 _ _ ?_
    simp only [qq, Nat.reduceBEq, reduceIte, Nat.reduceEqDiff, Nat.reduceAdd, Nat.reduceLeDiff, reduceCtorEq, Nat.reduceMul, Int.reduceToNat, s1, s2, s3, s4, hb17]
    refine aops_part (b := ?p18) 37 ?h18 (fun hb18 => ?a18) (fun hb18 => ?b18)
    case h18 => simp only [qq, Nat.reduceBEq, reduceIte, Nat.reduceEqDiff, Nat.reduceAdd, Nat.reduceLeDiff, reduceCtorEq, Nat.reduceMul, Int.reduceToNat, s1, s2, s3, s4, hb17]; rfl
    case a18 =>
     have hp18 := hb18
     try simp only [kb] at hp18
     all_goals try exact absurd hb18 (by decide)
     all_goals try (exfalso; omega)
     all_goals
      try simp only [hb18]
      refine aops_orunN 4 _ _ ?_
      simp only [qq, Nat.reduceBEq, reduceIte, Nat.reduceEqDiff, Nat.reduceAdd, Nat.reduceLeDiff, reduceCtorEq, Nat.reduceMul, Int.reduceToNat, s1, s2, s3, s4, hb17, hb18]
      refine aops_part (b := ?p19) 41 ?h19 (fun hb19 => ?a19) (fun hb19 => ?b19)
      case h19 => simp only [qq, Nat.reduceBEq, reduceIte, Nat.reduceEqDiff, Nat.reduceAdd, Nat.reduceLeDiff, reduceCtorEq, Nat.reduceMul, Int.reduceToNat, s1, s2, s3, s4, hb17, hb18]; rfl
      case a19 =>
       have hp19 := hb19
       try simp only [kb] at hp19
       all_goals try exact absurd hb19 (by decide)
       all_goals try (exfalso; omega)
       all_goals
        try simp only [hb19]
        refine aops_orunN 4 _ _ ?_
        simp only [qq, Nat.reduceBEq, reduceIte, Nat.reduceEqDiff, Nat.reduceAdd, Nat.reduceLeDiff, reduceCtorEq, Nat.reduceMul, Int.reduceToNat, s1, s2, s3, s4, hb17, hb18, hb19]
        refine aops_part (b := ?p20) 45 ?h20 (fun hb20 => ?a20) (fun hb20 => ?b20)
        case h20 => simp only [qq, Nat.reduceBEq, reduceIte, Nat.reduceEqDiff, Nat.reduceAdd, Nat.reduceLeDiff, reduceCtorEq, Nat.reduceMul, Int.reduceToNat, s1, s2, s3, s4, hb17, hb18, hb19]; rfl
        case a20 =>
         have hp20 := hb20
         try simp only [kb] at hp20
         all_goals try exact absurd hb20 (by decide)
         all_goals try (exfalso; omega)
         all_goals
          try simp only [hb20]
          refine aops_orunN 2 _ _ ?_
          simp only [qq, Nat.reduceBEq, reduceIte, Nat.reduceEqDiff, Nat.reduceAdd, Nat.reduceLeDiff, reduceCtorEq, Nat.reduceMul, Int.reduceToNat, s1, s2, s3, s4, hb17, hb18, hb19, hb20]
          refine aops_call (equal_bool_fun [false, true, true, false] [false, true, true, false] (by simp)) (by simp only [qq, Nat.reduceBEq, reduceIte, Nat.reduceEqDiff, Nat.reduceAdd, Nat.reduceLeDiff, reduceCtorEq, Nat.reduceMul, Int.reduceToNat, s1, s2, s3, s4, hb17, hb18, hb19, hb20]) rfl rfl rfl (by (try simp only [qq, Nat.reduceBEq, reduceIte, Nat.reduceEqDiff, Nat.reduceAdd, Nat.reduceLeDiff, reduceCtorEq, Nat.reduceMul, Int.reduceToNat, s1, s2, s3, s4, hb17, hb18, hb19, hb20]); (repeat' (first | exact .nil | exact wk_c | exact wk_ownc | exact wk_nilsc | exact wk_nils | exact wk_fn | refine .cons ?_ ?_ | refine wk_agg ?_ | refine wk_fnL ?_))) rfl rfl ?_
          simp only [qq, Nat.reduceBEq, reduceIte, Nat.reduceEqDiff, Nat.reduceAdd, Nat.reduceLeDiff, reduceCtorEq, Nat.reduceMul, Int.reduceToNat, s1, s2, s3, s4, hb17, hb18, hb19, hb20]
          refine aops_orunN 2 _ _ ?_
          simp only [qq, Nat.reduceBEq, reduceIte, Nat.reduceEqDiff, Nat.reduceAdd, Nat.reduceLeDiff, reduceCtorEq, Nat.reduceMul, Int.reduceToNat, s1, s2, s3, s4, hb17, hb18, hb19, hb20]
          refine aops_part (b := ?p22) 50 ?h22 (fun hb22 => ?a22) (fun hb22 => ?b22)
          case h22 => simp only [qq, Nat.reduceBEq, reduceIte, Nat.reduceEqDiff, Nat.reduceAdd, Nat.reduceLeDiff, reduceCtorEq, Nat.reduceMul, Int.reduceToNat, s1, s2, s3, s4, hb17, hb18, hb19, hb20]; rfl
          case a22 =>
           have hp22 := hb22
           try simp only [kb] at hp22
           all_goals try exact absurd hb22 (by decide)
           all_goals try (exfalso; omega)
           all_goals
            try simp only [hb22]
            refine aops_orunN 2 _ _ ?_
            simp only [qq, Nat.reduceBEq, reduceIte, Nat.reduceEqDiff, Nat.reduceAdd, Nat.reduceLeDiff, reduceCtorEq, Nat.reduceMul, Int.reduceToNat, s1, s2, s3, s4, hb17, hb18, hb19, hb20, hb22]
            refine aops_call (equal_bool_fun [true, false, false, false, false, false, false, true] [true, false, false, false, false, false, false, true] (by simp)) (by simp only [qq, Nat.reduceBEq, reduceIte, Nat.reduceEqDiff, Nat.reduceAdd, Nat.reduceLeDiff, reduceCtorEq, Nat.reduceMul, Int.reduceToNat, s1, s2, s3, s4, hb17, hb18, hb19, hb20, hb22]) rfl rfl rfl (by (try simp only [qq, Nat.reduceBEq, reduceIte, Nat.reduceEqDiff, Nat.reduceAdd, Nat.reduceLeDiff, reduceCtorEq, Nat.reduceMul, Int.reduceToNat, s1, s2, s3, s4, hb17, hb18, hb19, hb20, hb22]); (repeat' (first | exact .nil | exact wk_c | exact wk_ownc | exact wk_nilsc | exact wk_nils | exact wk_fn | refine .cons ?_ ?_ | refine wk_agg ?_ | refine wk_fnL ?_))) rfl rfl ?_
            simp only [qq, Nat.reduceBEq, reduceIte, Nat.reduceEqDiff, Nat.reduceAdd, Nat.reduceLeDiff, reduceCtorEq, Nat.reduceMul, Int.reduceToNat, s1, s2, s3, s4, hb17, hb18, hb19, hb20, hb22]
            refine aops_orunN 2 _ _ ?_
            simp only [qq, Nat.reduceBEq, reduceIte, Nat.reduceEqDiff, Nat.reduceAdd, Nat.reduceLeDiff, reduceCtorEq, Nat.reduceMul, Int.reduceToNat, s1, s2, s3, s4, hb17, hb18, hb19, hb20, hb22]
            refine aops_part (b := ?p24) 55 ?h24 (fun hb24 => ?a24) (fun hb24 => ?b24)
            case h24 => simp only [qq, Nat.reduceBEq, reduceIte, Nat.reduceEqDiff, Nat.reduceAdd, Nat.reduceLeDiff, reduceCtorEq, Nat.reduceMul, Int.reduceToNat, s1, s2, s3, s4, hb17, hb18, hb19, hb20, hb22]; rfl
            case a24 =>
             have hp24 := hb24
             try simp only [kb] at hp24
             all_goals try exact absurd hb24 (by decide)
             all_goals try (exfalso; omega)
             all_goals
              try simp only [hb24]
              refine aops_orunN 4 _ _ ?_
              simp only [qq, Nat.reduceBEq, reduceIte, Nat.reduceEqDiff, Nat.reduceAdd, Nat.reduceLeDiff, reduceCtorEq, Nat.reduceMul, Int.reduceToNat, s1, s2, s3, s4, hb17, hb18, hb19, hb20, hb22, hb24]
              refine aops_part (b := ?p25) 59 ?h25 (fun hb25 => ?a25) (fun hb25 => ?b25)
              case h25 => simp only [qq, Nat.reduceBEq, reduceIte, Nat.reduceEqDiff, Nat.reduceAdd, Nat.reduceLeDiff, reduceCtorEq, Nat.reduceMul, Int.reduceToNat, s1, s2, s3, s4, hb17, hb18, hb19, hb20, hb22, hb24]; rfl
              case a25 =>
               have hp25 := hb25
               try simp only [kb] at hp25
               all_goals try exact absurd hb25 (by decide)
               all_goals try (exfalso; omega)
               all_goals
                try simp only [hb25]
                refine aops_orunN 5 _ _ ?_
                simp only [qq, Nat.reduceBEq, reduceIte, Nat.reduceEqDiff, Nat.reduceAdd, Nat.reduceLeDiff, reduceCtorEq, Nat.reduceMul, Int.reduceToNat, s1, s2, s3, s4, hb17, hb18, hb19, hb20, hb22, hb24, hb25]
                refine aops_nil (hL16 _ ?_)
                simp only [qq, Nat.reduceBEq, reduceIte, Nat.reduceEqDiff, Nat.reduceAdd, Nat.reduceLeDiff, reduceCtorEq, Nat.reduceMul, Int.reduceToNat, s1, s2, s3, s4, hb17, hb18, hb19, hb20, hb22, hb24, hb25]
                try simp only [rk_state]
                refine hK15 _ ?_
                as_aux_lemma =>
                 refine awp_ret ?_
                 try simp only [rk_state]
                 refine ⟨_, 0, by simp only [qq, Nat.reduceBEq, reduceIte, Nat.reduceEqDiff, Nat.reduceAdd, Nat.reduceLeDiff, reduceCtorEq, Nat.reduceMul, Int.reduceToNat, resA, Try.results43, s1, s2, s3, s4, hb17, hb18, hb19, hb20, hb22, hb24, hb25]; rfl, ?_, fun l hl => absurd rfl hl, fun l hl => absurd rfl hl⟩
                 simp only [packA]
                 (repeat' (first | exact .nil | exact wkR_c | exact wkR_own | exact wkR_nils | refine wkR_int ?_ | refine wkR_bool ?_ | refine wkR_sl ?_ | refine wkR_osl ?_ | refine wkR_nsl ?_ | refine wkR_oo ?_ | refine wkR_no ?_ | refine .cons ?_ ?_ | refine wkR_agg ?_ | refine wkR_tup ?_))
              case b25 =>
               have hp25 := hb25
               try simp only [kb] at hp25
               all_goals try exact absurd hb25 (by decide)
               all_goals try (exfalso; omega)
               all_goals
                try simp only [hb25]
                refine aops_orunN 5 _ _ ?_
                simp only [qq, Nat.reduceBEq, reduceIte, Nat.reduceEqDiff, Nat.reduceAdd, Nat.reduceLeDiff, reduceCtorEq, Nat.reduceMul, Int.reduceToNat, s1, s2, s3, s4, hb17, hb18, hb19, hb20, hb22, hb24, hb25]
                refine aops_nil (hL16 _ ?_)
                simp only [qq, Nat.reduceBEq, reduceIte, Nat.reduceEqDiff, Nat.reduceAdd, Nat.reduceLeDiff, reduceCtorEq, Nat.reduceMul, Int.reduceToNat, s1, s2, s3, s4, hb17, hb18, hb19, hb20, hb22, hb24, hb25]
                try simp only [rk_state]
                refine hK15 _ ?_
                refine awp_ret ?_
                try simp only [rk_state]
                refine ⟨_, 0, by simp only [qq, Nat.reduceBEq, reduceIte, Nat.reduceEqDiff, Nat.reduceAdd, Nat.reduceLeDiff, reduceCtorEq, Nat.reduceMul, Int.reduceToNat, resA, Try.results43, s1, s2, s3, s4, hb17, hb18, hb19, hb20, hb22, hb24, hb25]; rfl, ?_, fun l hl => absurd rfl hl, fun l hl => absurd rfl hl⟩
                simp only [packA]
                (repeat' (first | exact .nil | exact wkR_c | exact wkR_own | exact wkR_nils | refine wkR_int ?_ | refine wkR_bool ?_ | refine wkR_sl ?_ | refine wkR_osl ?_ | refine wkR_nsl ?_ | refine wkR_oo ?_ | refine wkR_no ?_ | refine .cons ?_ ?_ | refine wkR_agg ?_ | refine wkR_tup ?_))
            case b24 =>
             have hp24 := hb24
             try simp only [kb] at hp24
             all_goals try exact absurd hb24 (by decide)
             all_goals try (exfalso; omega)
             all_goals
              try simp only [hb24]
              refine aops_orunN 9 _ _ ?_
              simp only [qq, Nat.reduceBEq, reduceIte, Nat.reduceEqDiff, Nat.reduceAdd, Nat.reduceLeDiff, reduceCtorEq, Nat.reduceMul, Int.reduceToNat, s1, s2, s3, s4, hb17, hb18, hb19, hb20, hb22, hb24]
              refine aops_nil (hL16 _ ?_)
              simp only [qq, Nat.reduceBEq, reduceIte, Nat.reduceEqDiff, Nat.reduceAdd, Nat.reduceLeDiff, reduceCtorEq, Nat.reduceMul, Int.reduceToNat, s1, s2, s3, s4, hb17, hb18, hb19, hb20, hb22, hb24]
              try simp only [rk_state]
              refine hK15 _ ?_
              refine awp_ret ?_
              try simp only [rk_state]
              refine ⟨_, 0, by simp only [qq, Nat.reduceBEq, reduceIte, Nat.reduceEqDiff, Nat.reduceAdd, Nat.reduceLeDiff, reduceCtorEq, Nat.reduceMul, Int.reduceToNat, resA, Try.results43, s1, s2, s3, s4, hb17, hb18, hb19, hb20, hb22, hb24]; rfl, ?_, fun l hl => absurd rfl hl, fun l hl => absurd rfl hl⟩
              simp only [packA]
              (repeat' (first | exact .nil | exact wkR_c | exact wkR_own | exact wkR_nils | refine wkR_int ?_ | refine wkR_bool ?_ | refine wkR_sl ?_ | refine wkR_osl ?_ | refine wkR_nsl ?_ | refine wkR_oo ?_ | refine wkR_no ?_ | refine .cons ?_ ?_ | refine wkR_agg ?_ | refine wkR_tup ?_))
          case b22 =>
           have hp22 := hb22
           try simp only [kb] at hp22
           all_goals try exact absurd hb22 (by decide)
           all_goals try (exfalso; omega)
           all_goals
            try simp only [hb22]
            refine aops_orunN 14 _ _ ?_
            simp only [qq, Nat.reduceBEq, reduceIte, Nat.reduceEqDiff, Nat.reduceAdd, Nat.reduceLeDiff, reduceCtorEq, Nat.reduceMul, Int.reduceToNat, s1, s2, s3, s4, hb17, hb18, hb19, hb20, hb22]
            refine aops_nil (hL16 _ ?_)
            simp only [qq, Nat.reduceBEq, reduceIte, Nat.reduceEqDiff, Nat.reduceAdd, Nat.reduceLeDiff, reduceCtorEq, Nat.reduceMul, Int.reduceToNat, s1, s2, s3, s4, hb17, hb18, hb19, hb20, hb22]
            try simp only [rk_state]
            refine hK15 _ ?_
            refine awp_ret ?_
            try simp only [rk_state]
            refine ⟨_, 0, by simp only [qq, Nat.reduceBEq, reduceIte, Nat.reduceEqDiff, Nat.reduceAdd, Nat.reduceLeDiff, reduceCtorEq, Nat.reduceMul, Int.reduceToNat, resA, Try.results43, s1, s2, s3, s4, hb17, hb18, hb19, hb20, hb22]; rfl, ?_, fun l hl => absurd rfl hl, fun l hl => absurd rfl hl⟩
            simp only [packA]
            (repeat' (first | exact .nil | exact wkR_c | exact wkR_own | exact wkR_nils | refine wkR_int ?_ | refine wkR_bool ?_ | refine wkR_sl ?_ | refine wkR_osl ?_ | refine wkR_nsl ?_ | refine wkR_oo ?_ | refine wkR_no ?_ | refine .cons ?_ ?_ | refine wkR_agg ?_ | refine wkR_tup ?_))
        case b20 =>
         have hp20 := hb20
         try simp only [kb] at hp20
         all_goals try exact absurd hb20 (by decide)
         all_goals try (exfalso; omega)
         all_goals
          try simp only [hb20]
          refine aops_orunN 19 _ _ ?_
          simp only [qq, Nat.reduceBEq, reduceIte, Nat.reduceEqDiff, Nat.reduceAdd, Nat.reduceLeDiff, reduceCtorEq, Nat.reduceMul, Int.reduceToNat, s1, s2, s3, s4, hb17, hb18, hb19, hb20]
          refine aops_nil (hL16 _ ?_)
          simp only [qq, Nat.reduceBEq, reduceIte, Nat.reduceEqDiff, Nat.reduceAdd, Nat.reduceLeDiff, reduceCtorEq, Nat.reduceMul, Int.reduceToNat, s1, s2, s3, s4, hb17, hb18, hb19, hb20]
          try simp only [rk_state]
          refine hK15 _ ?_
          refine awp_ret ?_
          try simp only [rk_state]
          refine ⟨_, 0, by simp only [qq, Nat.reduceBEq, reduceIte, Nat.reduceEqDiff, Nat.reduceAdd, Nat.reduceLeDiff, reduceCtorEq, Nat.reduceMul, Int.reduceToNat, resA, Try.results43, s1, s2, s3, s4, hb17, hb18, hb19, hb20]; rfl, ?_, fun l hl => absurd rfl hl, fun l hl => absurd rfl hl⟩
          simp only [packA]
          (repeat' (first | exact .nil | exact wkR_c | exact wkR_own | exact wkR_nils | refine wkR_int ?_ | refine wkR_bool ?_ | refine wkR_sl ?_ | refine wkR_osl ?_ | refine wkR_nsl ?_ | refine wkR_oo ?_ | refine wkR_no ?_ | refine .cons ?_ ?_ | refine wkR_agg ?_ | refine wkR_tup ?_))
      case b19 =>
       have hp19 := hb19
       try simp only [kb] at hp19
       all_goals try exact absurd hb19 (by decide)
       all_goals try (exfalso; omega)
       all_goals
        try simp only [hb19]
        refine aops_orunN 23 _ _ ?_
        simp only [qq, Nat.reduceBEq, reduceIte, Nat.reduceEqDiff, Nat.reduceAdd, Nat.reduceLeDiff, reduceCtorEq, Nat.reduceMul, Int.reduceToNat, s1, s2, s3, s4, hb17, hb18, hb19]
        refine aops_nil (hL16 _ ?_)
        simp only [qq, Nat.reduceBEq, reduceIte, Nat.reduceEqDiff, Nat.reduceAdd, Nat.reduceLeDiff, reduceCtorEq, Nat.reduceMul, Int.reduceToNat, s1, s2, s3, s4, hb17, hb18, hb19]
        try simp only [rk_state]
        refine hK15 _ ?_
        refine awp_ret ?_
        try simp only [rk_state]
        refine ⟨_, 0, by simp only [qq, Nat.reduceBEq, reduceIte, Nat.reduceEqDiff, Nat.reduceAdd, Nat.reduceLeDiff, reduceCtorEq, Nat.reduceMul, Int.reduceToNat, resA, Try.results43, s1, s2, s3, s4, hb17, hb18, hb19]; rfl, ?_, fun l hl => absurd rfl hl, fun l hl => absurd rfl hl⟩
        simp only [packA]
        (repeat' (first | exact .nil | exact wkR_c | exact wkR_own | exact wkR_nils | refine wkR_int ?_ | refine wkR_bool ?_ | refine wkR_sl ?_ | refine wkR_osl ?_ | refine wkR_nsl ?_ | refine wkR_oo ?_ | refine wkR_no ?_ | refine .cons ?_ ?_ | refine wkR_agg ?_ | refine wkR_tup ?_))
    case b18 =>
     have hp18 := hb18
     try simp only [kb] at hp18
     all_goals try exact absurd hb18 (by decide)
     all_goals try (exfalso; omega)
     all_goals
      try simp only [hb18]
      refine aops_orunN 27 _ _ ?_
      simp only [qq, Nat.reduceBEq, reduceIte, Nat.reduceEqDiff, Nat.reduceAdd, Nat.reduceLeDiff, reduceCtorEq, Nat.reduceMul, Int.reduceToNat, s1, s2, s3, s4, hb17, hb18]
      refine aops_nil (hL16 _ ?_)
      simp only [qq, Nat.reduceBEq, reduceIte, Nat.reduceEqDiff, Nat.reduceAdd, Nat.reduceLeDiff, reduceCtorEq, Nat.reduceMul, Int.reduceToNat, s1, s2, s3, s4, hb17, hb18]
      try simp only [rk_state]
      refine hK15 _ ?_
      refine awp_ret ?_
      try simp only [rk_state]
      refine ⟨_, 0, by simp only [qq, Nat.reduceBEq, reduceIte, Nat.reduceEqDiff, Nat.reduceAdd, Nat.reduceLeDiff, reduceCtorEq, Nat.reduceMul, Int.reduceToNat, resA, Try.results43, s1, s2, s3, s4, hb17, hb18]; rfl, ?_, fun l hl => absurd rfl hl, fun l hl => absurd rfl hl⟩
      simp only [packA]
      (repeat' (first | exact .nil | exact wkR_c | exact wkR_own | exact wkR_nils | refine wkR_int ?_ | refine wkR_bool ?_ | refine wkR_sl ?_ | refine wkR_osl ?_ | refine wkR_nsl ?_ | refine wkR_oo ?_ | refine wkR_no ?_ | refine .cons ?_ ?_ | refine wkR_agg ?_ | refine wkR_tup ?_))
  case b17 =>
   have hp17 := hb17
   try simp only [kb] at hp17
   all_goals try exact absurd hb17 (by decide)
   all_goals try (exfalso; omega)
   all_goals
    try simp only [hb17]
    refine aops_orunN 31 _ _ ?_
    simp only [qq, Nat.reduceBEq, reduceIte, Nat.reduceEqDiff, Nat.reduceAdd, Nat.reduceLeDiff, reduceCtorEq, Nat.reduceMul, Int.reduceToNat, s1, s2, s3, s4, hb17]
    refine aops_nil (hL16 _ ?_)
    simp only [qq, Nat.reduceBEq, reduceIte, Nat.reduceEqDiff, Nat.reduceAdd, Nat.reduceLeDiff, reduceCtorEq, Nat.reduceMul, Int.reduceToNat, s1, s2, s3, s4, hb17]
    try simp only [rk_state]
    refine hK15 _ ?_
    refine awp_ret ?_
    try simp only [rk_state]
    refine ⟨_, 0, by simp only [qq, Nat.reduceBEq, reduceIte, Nat.reduceEqDiff, Nat.reduceAdd, Nat.reduceLeDiff, reduceCtorEq, Nat.reduceMul, Int.reduceToNat, resA, Try.results43, s1, s2, s3, s4, hb17]; rfl, ?_, fun l hl => absurd rfl hl, fun l hl => absurd rfl hl⟩
    simp only [packA]
    (repeat' (first | exact .nil | exact wkR_c | exact wkR_own | exact wkR_nils | refine wkR_int ?_ | refine wkR_bool ?_ | refine wkR_sl ?_ | refine wkR_osl ?_ | refine wkR_nsl ?_ | refine wkR_oo ?_ | refine wkR_no ?_ | refine .cons ?_ ?_ | refine wkR_agg ?_ | refine wkR_tup ?_))
set_option maxHeartbeats 4000000 in
set_option maxRecDepth 50000 in
theorem zigSays_fun (l : List Bool) (v : Int) (hl : l.length ≤ 140737488355200) : Fun Try.prog 8 [.c (.sl 4 (Rw boC l)), .c (.int .i64 v)] nomem (.c (.bool true)) nomem := by
 refine fun_of_awp Try.func8 rfl (by decide +kernel) (by decide +kernel) (Nat.le_of_ble_eq_true rfl) (fun _ _ => rfl) (fun _ _ => rfl) ?_
 refine awp_seq_k fun K1 hK1 => ?_
 refine awp_region_lit fun L2 hL2 => ?_
 refine aops_orunN 1 _ _ ?_
 simp only [qq, Nat.reduceBEq, reduceIte, Nat.reduceEqDiff, Nat.reduceAdd, Nat.reduceLeDiff, reduceCtorEq, Nat.reduceMul, Int.reduceToNat]
 refine aops_nil (hL2 _ ?_)
 simp only [qq, Nat.reduceBEq, reduceIte, Nat.reduceEqDiff, Nat.reduceAdd, Nat.reduceLeDiff, reduceCtorEq, Nat.reduceMul, Int.reduceToNat]
 try simp only [rk_state]
 refine hK1 _ ?_
 refine awp_seq_k fun K3 hK3 => ?_
 refine awp_region_lit fun L4 hL4 => ?_
 refine aops_orunN 2 _ _ ?_
 simp only [qq, Nat.reduceBEq, reduceIte, Nat.reduceEqDiff, Nat.reduceAdd, Nat.reduceLeDiff, reduceCtorEq, Nat.reduceMul, Int.reduceToNat]
 refine aops_call_own (zput_fun _ _ ?s5_0) rfl rfl rfl rfl (by (try simp only [qq, Nat.reduceBEq, reduceIte, Nat.reduceEqDiff, Nat.reduceAdd, Nat.reduceLeDiff, reduceCtorEq, Nat.reduceMul, Int.reduceToNat]); (repeat' (first | exact .nil | exact wk_c | exact wk_ownc | exact wk_nilsc | exact wk_nils | exact wk_fn | refine .cons ?_ ?_ | refine wk_agg ?_ | refine wk_fnL ?_))) rfl rfl rfl (by simp only [qq, Nat.reduceBEq, reduceIte, Nat.reduceEqDiff, Nat.reduceAdd, Nat.reduceLeDiff, reduceCtorEq, Nat.reduceMul, Int.reduceToNat]) ?m5
 case s5_0 => first | assumption | omega | decide +kernel | (simp only [List.length_take, List.length_drop]; omega)
 simp only [qq, Nat.reduceBEq, reduceIte, Nat.reduceEqDiff, Nat.reduceAdd, Nat.reduceLeDiff, reduceCtorEq, Nat.reduceMul, Int.reduceToNat, AV.setOwn, AV.setOwn1]
 refine aops_orunN 5 _ _ ?_
 simp only [qq, Nat.reduceBEq, reduceIte, Nat.reduceEqDiff, Nat.reduceAdd, Nat.reduceLeDiff, reduceCtorEq, Nat.reduceMul, Int.reduceToNat]
 refine aops_nil (hL4 _ ?_)
 simp only [qq, Nat.reduceBEq, reduceIte, Nat.reduceEqDiff, Nat.reduceAdd, Nat.reduceLeDiff, reduceCtorEq, Nat.reduceMul, Int.reduceToNat]
 try simp only [rk_state]
 refine hK3 _ ?_
 refine awp_seq_k fun K6 hK6 => ?_
 refine awp_region_lit fun L7 hL7 => ?_
 refine aops_orunN 1 _ _ ?_
 simp only [qq, Nat.reduceBEq, reduceIte, Nat.reduceEqDiff, Nat.reduceAdd, Nat.reduceLeDiff, reduceCtorEq, Nat.reduceMul, Int.reduceToNat]
 refine aops_call_own (ztake_fun _ ?s8_0) rfl rfl rfl rfl (by (try simp only [qq, Nat.reduceBEq, reduceIte, Nat.reduceEqDiff, Nat.reduceAdd, Nat.reduceLeDiff, reduceCtorEq, Nat.reduceMul, Int.reduceToNat]); (repeat' (first | exact .nil | exact wk_c | exact wk_ownc | exact wk_nilsc | exact wk_nils | exact wk_fn | refine .cons ?_ ?_ | refine wk_agg ?_ | refine wk_fnL ?_))) rfl rfl rfl (by simp only [qq, Nat.reduceBEq, reduceIte, Nat.reduceEqDiff, Nat.reduceAdd, Nat.reduceLeDiff, reduceCtorEq, Nat.reduceMul, Int.reduceToNat]) ?m8
 case s8_0 => first | assumption | omega | decide +kernel | (simp only [List.length_take, List.length_drop]; omega)
 simp only [qq, Nat.reduceBEq, reduceIte, Nat.reduceEqDiff, Nat.reduceAdd, Nat.reduceLeDiff, reduceCtorEq, Nat.reduceMul, Int.reduceToNat, AV.setOwn, AV.setOwn1]
 refine aops_orunN 7 _ _ ?_
 simp only [qq, Nat.reduceBEq, reduceIte, Nat.reduceEqDiff, Nat.reduceAdd, Nat.reduceLeDiff, reduceCtorEq, Nat.reduceMul, Int.reduceToNat]
 refine aops_nil (hL7 _ ?_)
 simp only [qq, Nat.reduceBEq, reduceIte, Nat.reduceEqDiff, Nat.reduceAdd, Nat.reduceLeDiff, reduceCtorEq, Nat.reduceMul, Int.reduceToNat]
 try simp only [rk_state]
 refine hK6 _ ?_
 as_aux_lemma =>
  refine awp_seq_k fun K9 hK9 => ?_
  refine awp_region_lit fun L10 hL10 => ?_
  refine aops_orunN 2 _ _ ?_
  simp only [qq, Nat.reduceBEq, reduceIte, Nat.reduceEqDiff, Nat.reduceAdd, Nat.reduceLeDiff, reduceCtorEq, Nat.reduceMul, Int.reduceToNat]
  refine aops_call_own (coded_fun _ _ ?s11_0) rfl rfl rfl rfl (by (try simp only [qq, Nat.reduceBEq, reduceIte, Nat.reduceEqDiff, Nat.reduceAdd, Nat.reduceLeDiff, reduceCtorEq, Nat.reduceMul, Int.reduceToNat]); (repeat' (first | exact .nil | exact wk_c | exact wk_ownc | exact wk_nilsc | exact wk_nils | exact wk_fn | refine .cons ?_ ?_ | refine wk_agg ?_ | refine wk_fnL ?_))) rfl rfl rfl (by simp only [qq, Nat.reduceBEq, reduceIte, Nat.reduceEqDiff, Nat.reduceAdd, Nat.reduceLeDiff, reduceCtorEq, Nat.reduceMul, Int.reduceToNat]) ?m11
  case s11_0 => first | assumption | omega | decide +kernel | (simp only [List.length_take, List.length_drop]; omega)
  simp only [qq, Nat.reduceBEq, reduceIte, Nat.reduceEqDiff, Nat.reduceAdd, Nat.reduceLeDiff, reduceCtorEq, Nat.reduceMul, Int.reduceToNat, AV.setOwn, AV.setOwn1]
  refine aops_orunN 5 _ _ ?_
  simp only [qq, Nat.reduceBEq, reduceIte, Nat.reduceEqDiff, Nat.reduceAdd, Nat.reduceLeDiff, reduceCtorEq, Nat.reduceMul, Int.reduceToNat]
  refine aops_nil (hL10 _ ?_)
  simp only [qq, Nat.reduceBEq, reduceIte, Nat.reduceEqDiff, Nat.reduceAdd, Nat.reduceLeDiff, reduceCtorEq, Nat.reduceMul, Int.reduceToNat]
  try simp only [rk_state]
  refine hK9 _ ?_
  refine awp_seq_k fun K12 hK12 => ?_
  refine awp_region_lit fun L13 hL13 => ?_
  refine aops_orunN 1 _ _ ?_
  simp only [qq, Nat.reduceBEq, reduceIte, Nat.reduceEqDiff, Nat.reduceAdd, Nat.reduceLeDiff, reduceCtorEq, Nat.reduceMul, Int.reduceToNat]
  refine aops_call (decoded_fun _ ?s14_0) rfl rfl rfl rfl (by (try simp only [qq, Nat.reduceBEq, reduceIte, Nat.reduceEqDiff, Nat.reduceAdd, Nat.reduceLeDiff, reduceCtorEq, Nat.reduceMul, Int.reduceToNat]); (repeat' (first | exact .nil | exact wk_c | exact wk_ownc | exact wk_nilsc | exact wk_nils | exact wk_fn | refine .cons ?_ ?_ | refine wk_agg ?_ | refine wk_fnL ?_))) rfl rfl ?m14
  case s14_0 => first | assumption | omega | decide +kernel | (simp only [List.length_take, List.length_drop]; omega)
  simp only [qq, Nat.reduceBEq, reduceIte, Nat.reduceEqDiff, Nat.reduceAdd, Nat.reduceLeDiff, reduceCtorEq, Nat.reduceMul, Int.reduceToNat]
  refine aops_orunN 7 _ _ ?_
  simp only [qq, Nat.reduceBEq, reduceIte, Nat.reduceEqDiff, Nat.reduceAdd, Nat.reduceLeDiff, reduceCtorEq, Nat.reduceMul, Int.reduceToNat]
  refine aops_nil (hL13 _ ?_)
  simp only [qq, Nat.reduceBEq, reduceIte, Nat.reduceEqDiff, Nat.reduceAdd, Nat.reduceLeDiff, reduceCtorEq, Nat.reduceMul, Int.reduceToNat]
  try simp only [rk_state]
  refine hK12 _ ?_
  refine awp_seq_k fun K15 hK15 => ?_
  have hb1 : (zputR l v).1.length < 4611686018427387904 := by have := zputR_len l v; omega
  have hb2 : (ztakeR l).2.1.length < 4611686018427387904 := by have := ztakeR_len l; omega
  refine awp_region_lit fun L16 hL16 => ?_
  refine aops_call folded_fun rfl rfl rfl rfl (by (try simp only [qq, Nat.reduceBEq, reduceIte, Nat.reduceEqDiff, Nat.reduceAdd, Nat.reduceLeDiff, reduceCtorEq, Nat.reduceMul, Int.reduceToNat]); (repeat' (first | exact .nil | exact wk_c | exact wk_ownc | exact wk_nilsc | exact wk_nils | exact wk_fn | refine .cons ?_ ?_ | refine wk_agg ?_ | refine wk_fnL ?_))) rfl rfl ?_
  simp only [qq, Nat.reduceBEq, reduceIte, Nat.reduceEqDiff, Nat.reduceAdd, Nat.reduceLeDiff, reduceCtorEq, Nat.reduceMul, Int.reduceToNat]
  refine aops_orunN 1 _ _ ?_
  simp only [qq, Nat.reduceBEq, reduceIte, Nat.reduceEqDiff, Nat.reduceAdd, Nat.reduceLeDiff, reduceCtorEq, Nat.reduceMul, Int.reduceToNat]
  refine aops_part (b := ?p18) 40 ?h18 (fun hb18 => ?a18) (fun hb18 => ?b18)
  case h18 => simp only [qq, Nat.reduceBEq, reduceIte, Nat.reduceEqDiff, Nat.reduceAdd, Nat.reduceLeDiff, reduceCtorEq, Nat.reduceMul, Int.reduceToNat]; rfl
  case a18 =>
   have hp18 := hb18
   try simp only [kb] at hp18
   all_goals try exact absurd hb18 (by decide)
   all_goals try (exfalso; omega)
   all_goals
    try simp only [hb18]
    refine aops_orunN 5 _ _ ?_
    simp only [qq, Nat.reduceBEq, reduceIte, Nat.reduceEqDiff, Nat.reduceAdd, Nat.reduceLeDiff, reduceCtorEq, Nat.reduceMul, Int.reduceToNat, hb18]
    refine aops_part (b := ?p19) 45 ?h19 (fun hb19 => ?a19) (fun hb19 => ?b19)
    case h19 => simp only [qq, Nat.reduceBEq, reduceIte, Nat.reduceEqDiff, Nat.reduceAdd, Nat.reduceLeDiff, reduceCtorEq, Nat.reduceMul, Int.reduceToNat, hb18]; rfl
    case a19 =>
     have hp19 := hb19
     try simp only [kb] at hp19
     all_goals try exact absurd hb19 (by decide)
     all_goals try (exfalso; omega)
     all_goals
      try simp only [hb19]
      refine aops_orunN 2 _ _ ?_
      simp only [qq, Nat.reduceBEq, reduceIte, Nat.reduceEqDiff, Nat.reduceAdd, Nat.reduceLeDiff, reduceCtorEq, Nat.reduceMul, Int.reduceToNat, hb18, hb19]
      refine aops_call (equal_bool_fun _ _ ?s20_0) (by simp only [qq, Nat.reduceBEq, reduceIte, Nat.reduceEqDiff, Nat.reduceAdd, Nat.reduceLeDiff, reduceCtorEq, Nat.reduceMul, Int.reduceToNat, hb18, hb19]) rfl rfl rfl (by (try simp only [qq, Nat.reduceBEq, reduceIte, Nat.reduceEqDiff, Nat.reduceAdd, Nat.reduceLeDiff, reduceCtorEq, Nat.reduceMul, Int.reduceToNat, hb18, hb19]); (repeat' (first | exact .nil | exact wk_c | exact wk_ownc | exact wk_nilsc | exact wk_nils | exact wk_fn | refine .cons ?_ ?_ | refine wk_agg ?_ | refine wk_fnL ?_))) rfl rfl ?m20
      case s20_0 => first | assumption | omega | decide +kernel | (simp only [List.length_take, List.length_drop]; omega)
      simp only [qq, Nat.reduceBEq, reduceIte, Nat.reduceEqDiff, Nat.reduceAdd, Nat.reduceLeDiff, reduceCtorEq, Nat.reduceMul, Int.reduceToNat, hb18, hb19]
      refine aops_orunN 2 _ _ ?_
      simp only [qq, Nat.reduceBEq, reduceIte, Nat.reduceEqDiff, Nat.reduceAdd, Nat.reduceLeDiff, reduceCtorEq, Nat.reduceMul, Int.reduceToNat, hb18, hb19]
      refine aops_part (b := ?p21) 50 ?h21 (fun hb21 => ?a21) (fun hb21 => ?b21)
      case h21 => simp only [qq, Nat.reduceBEq, reduceIte, Nat.reduceEqDiff, Nat.reduceAdd, Nat.reduceLeDiff, reduceCtorEq, Nat.reduceMul, Int.reduceToNat, hb18, hb19]; rfl
      case a21 =>
       have hp21 := hb21
       try simp only [kb] at hp21
       all_goals try exact absurd hb21 (by decide)
       all_goals try (exfalso; omega)
       all_goals
        try simp only [hb21]
        refine aops_orunN 5 _ _ ?_
        simp only [qq, Nat.reduceBEq, reduceIte, Nat.reduceEqDiff, Nat.reduceAdd, Nat.reduceLeDiff, reduceCtorEq, Nat.reduceMul, Int.reduceToNat, hb18, hb19, hb21]
        refine aops_part (b := ?p22) 55 ?h22 (fun hb22 => ?a22) (fun hb22 => ?b22)
        case h22 => simp only [qq, Nat.reduceBEq, reduceIte, Nat.reduceEqDiff, Nat.reduceAdd, Nat.reduceLeDiff, reduceCtorEq, Nat.reduceMul, Int.reduceToNat, hb18, hb19, hb21]; rfl
        case a22 =>
         have hp22 := hb22
         try simp only [kb] at hp22
         all_goals try exact absurd hb22 (by decide)
         all_goals try (exfalso; omega)
         all_goals
          try simp only [hb22]
          refine aops_orunN 5 _ _ ?_
          simp only [qq, Nat.reduceBEq, reduceIte, Nat.reduceEqDiff, Nat.reduceAdd, Nat.reduceLeDiff, reduceCtorEq, Nat.reduceMul, Int.reduceToNat, hb18, hb19, hb21, hb22]
          refine aops_part (b := ?p23) 60 ?h23 (fun hb23 => ?a23) (fun hb23 => ?b23)
          case h23 => simp only [qq, Nat.reduceBEq, reduceIte, Nat.reduceEqDiff, Nat.reduceAdd, Nat.reduceLeDiff, reduceCtorEq, Nat.reduceMul, Int.reduceToNat, hb18, hb19, hb21, hb22]; rfl
          case a23 =>
           have hp23 := hb23
           try simp only [kb] at hp23
           all_goals try exact absurd hb23 (by decide)
           all_goals try (exfalso; omega)
           all_goals
            try simp only [hb23]
            refine aops_orunN 2 _ _ ?_
            simp only [qq, Nat.reduceBEq, reduceIte, Nat.reduceEqDiff, Nat.reduceAdd, Nat.reduceLeDiff, reduceCtorEq, Nat.reduceMul, Int.reduceToNat, hb18, hb19, hb21, hb22, hb23]
            refine aops_call (equal_bool_fun _ _ ?s24_0) (by simp only [qq, Nat.reduceBEq, reduceIte, Nat.reduceEqDiff, Nat.reduceAdd, Nat.reduceLeDiff, reduceCtorEq, Nat.reduceMul, Int.reduceToNat, hb18, hb19, hb21, hb22, hb23]) rfl rfl rfl (by (try simp only [qq, Nat.reduceBEq, reduceIte, Nat.reduceEqDiff, Nat.reduceAdd, Nat.reduceLeDiff, reduceCtorEq, Nat.reduceMul, Int.reduceToNat, hb18, hb19, hb21, hb22, hb23]); (repeat' (first | exact .nil | exact wk_c | exact wk_ownc | exact wk_nilsc | exact wk_nils | exact wk_fn | refine .cons ?_ ?_ | refine wk_agg ?_ | refine wk_fnL ?_))) rfl rfl ?m24
            case s24_0 => first | assumption | omega | decide +kernel | (simp only [List.length_take, List.length_drop]; omega)
            simp only [qq, Nat.reduceBEq, reduceIte, Nat.reduceEqDiff, Nat.reduceAdd, Nat.reduceLeDiff, reduceCtorEq, Nat.reduceMul, Int.reduceToNat, hb18, hb19, hb21, hb22, hb23]
            refine aops_orunN 2 _ _ ?_
            simp only [qq, Nat.reduceBEq, reduceIte, Nat.reduceEqDiff, Nat.reduceAdd, Nat.reduceLeDiff, reduceCtorEq, Nat.reduceMul, Int.reduceToNat, hb18, hb19, hb21, hb22, hb23]
            refine aops_nil (hL16 _ ?_)
            simp only [qq, Nat.reduceBEq, reduceIte, Nat.reduceEqDiff, Nat.reduceAdd, Nat.reduceLeDiff, reduceCtorEq, Nat.reduceMul, Int.reduceToNat, hb18, hb19, hb21, hb22, hb23]
            try simp only [rk_state]
            refine hK15 _ ?_
            as_aux_lemma =>
             refine awp_ret ?_
             try simp only [rk_state]
             refine ⟨_, 0, by simp only [qq, Nat.reduceBEq, reduceIte, Nat.reduceEqDiff, Nat.reduceAdd, Nat.reduceLeDiff, reduceCtorEq, Nat.reduceMul, Int.reduceToNat, resA, Try.results8, hb18, hb19, hb21, hb22, hb23]; rfl, ?_, fun l hl => absurd rfl hl, fun l hl => absurd rfl hl⟩
             simp only [packA]
             (repeat' (first | exact .nil | exact wkR_c | exact wkR_own | exact wkR_nils | refine wkR_int ?_ | refine wkR_bool ?_ | refine wkR_sl ?_ | refine wkR_osl ?_ | refine wkR_nsl ?_ | refine wkR_oo ?_ | refine wkR_no ?_ | refine .cons ?_ ?_ | refine wkR_agg ?_ | refine wkR_tup ?_))
          case b23 =>
           have hp23 := hb23
           try simp only [kb] at hp23
           all_goals try exact absurd hb23 (by decide)
           all_goals try (exfalso; omega)
           all_goals
            try simp only [hb23]
            refine aops_orunN 5 _ _ ?_
            simp only [qq, Nat.reduceBEq, reduceIte, Nat.reduceEqDiff, Nat.reduceAdd, Nat.reduceLeDiff, reduceCtorEq, Nat.reduceMul, Int.reduceToNat, hb18, hb19, hb21, hb22, hb23]
            refine aops_nil (hL16 _ ?_)
            simp only [qq, Nat.reduceBEq, reduceIte, Nat.reduceEqDiff, Nat.reduceAdd, Nat.reduceLeDiff, reduceCtorEq, Nat.reduceMul, Int.reduceToNat, hb18, hb19, hb21, hb22, hb23]
            try simp only [rk_state]
            refine hK15 _ ?_
            refine awp_ret ?_
            try simp only [rk_state]
            refine ⟨_, 0, by simp only [qq, Nat.reduceBEq, reduceIte, Nat.reduceEqDiff, Nat.reduceAdd, Nat.reduceLeDiff, reduceCtorEq, Nat.reduceMul, Int.reduceToNat, resA, Try.results8, hb18, hb19, hb21, hb22, hb23]; rfl, ?_, fun l hl => absurd rfl hl, fun l hl => absurd rfl hl⟩
            simp only [packA]
            (repeat' (first | exact .nil | exact wkR_c | exact wkR_own | exact wkR_nils | refine wkR_int ?_ | refine wkR_bool ?_ | refine wkR_sl ?_ | refine wkR_osl ?_ | refine wkR_nsl ?_ | refine wkR_oo ?_ | refine wkR_no ?_ | refine .cons ?_ ?_ | refine wkR_agg ?_ | refine wkR_tup ?_))
        case b22 =>
         have hp22 := hb22
         try simp only [kb] at hp22
         all_goals try exact absurd hb22 (by decide)
         all_goals try (exfalso; omega)
         all_goals
          try simp only [hb22]
          refine aops_orunN 10 _ _ ?_
          simp only [qq, Nat.reduceBEq, reduceIte, Nat.reduceEqDiff, Nat.reduceAdd, Nat.reduceLeDiff, reduceCtorEq, Nat.reduceMul, Int.reduceToNat, hb18, hb19, hb21, hb22]
          refine aops_nil (hL16 _ ?_)
          simp only [qq, Nat.reduceBEq, reduceIte, Nat.reduceEqDiff, Nat.reduceAdd, Nat.reduceLeDiff, reduceCtorEq, Nat.reduceMul, Int.reduceToNat, hb18, hb19, hb21, hb22]
          try simp only [rk_state]
          refine hK15 _ ?_
          refine awp_ret ?_
          try simp only [rk_state]
          refine ⟨_, 0, by simp only [qq, Nat.reduceBEq, reduceIte, Nat.reduceEqDiff, Nat.reduceAdd, Nat.reduceLeDiff, reduceCtorEq, Nat.reduceMul, Int.reduceToNat, resA, Try.results8, hb18, hb19, hb21, hb22]; rfl, ?_, fun l hl => absurd rfl hl, fun l hl => absurd rfl hl⟩
          simp only [packA]
          (repeat' (first | exact .nil | exact wkR_c | exact wkR_own | exact wkR_nils | refine wkR_int ?_ | refine wkR_bool ?_ | refine wkR_sl ?_ | refine wkR_osl ?_ | refine wkR_nsl ?_ | refine wkR_oo ?_ | refine wkR_no ?_ | refine .cons ?_ ?_ | refine wkR_agg ?_ | refine wkR_tup ?_))
      case b21 =>
       have hp21 := hb21
       try simp only [kb] at hp21
       all_goals try exact absurd hb21 (by decide)
       all_goals try (exfalso; omega)
       all_goals
        try simp only [hb21]
        refine aops_orunN 15 _ _ ?_
        simp only [qq, Nat.reduceBEq, reduceIte, Nat.reduceEqDiff, Nat.reduceAdd, Nat.reduceLeDiff, reduceCtorEq, Nat.reduceMul, Int.reduceToNat, hb18, hb19, hb21]
        refine aops_nil (hL16 _ ?_)
        simp only [qq, Nat.reduceBEq, reduceIte, Nat.reduceEqDiff, Nat.reduceAdd, Nat.reduceLeDiff, reduceCtorEq, Nat.reduceMul, Int.reduceToNat, hb18, hb19, hb21]
        try simp only [rk_state]
        refine hK15 _ ?_
        refine awp_ret ?_
        try simp only [rk_state]
        refine ⟨_, 0, by simp only [qq, Nat.reduceBEq, reduceIte, Nat.reduceEqDiff, Nat.reduceAdd, Nat.reduceLeDiff, reduceCtorEq, Nat.reduceMul, Int.reduceToNat, resA, Try.results8, hb18, hb19, hb21]; rfl, ?_, fun l hl => absurd rfl hl, fun l hl => absurd rfl hl⟩
        simp only [packA]
        (repeat' (first | exact .nil | exact wkR_c | exact wkR_own | exact wkR_nils | refine wkR_int ?_ | refine wkR_bool ?_ | refine wkR_sl ?_ | refine wkR_osl ?_ | refine wkR_nsl ?_ | refine wkR_oo ?_ | refine wkR_no ?_ | refine .cons ?_ ?_ | refine wkR_agg ?_ | refine wkR_tup ?_))
    case b19 =>
     have hp19 := hb19
     try simp only [kb] at hp19
     all_goals try exact absurd hb19 (by decide)
     all_goals try (exfalso; omega)
     all_goals
      try simp only [hb19]
      refine aops_orunN 20 _ _ ?_
      simp only [qq, Nat.reduceBEq, reduceIte, Nat.reduceEqDiff, Nat.reduceAdd, Nat.reduceLeDiff, reduceCtorEq, Nat.reduceMul, Int.reduceToNat, hb18, hb19]
      refine aops_nil (hL16 _ ?_)
      simp only [qq, Nat.reduceBEq, reduceIte, Nat.reduceEqDiff, Nat.reduceAdd, Nat.reduceLeDiff, reduceCtorEq, Nat.reduceMul, Int.reduceToNat, hb18, hb19]
      try simp only [rk_state]
      refine hK15 _ ?_
      refine awp_ret ?_
      try simp only [rk_state]
      refine ⟨_, 0, by simp only [qq, Nat.reduceBEq, reduceIte, Nat.reduceEqDiff, Nat.reduceAdd, Nat.reduceLeDiff, reduceCtorEq, Nat.reduceMul, Int.reduceToNat, resA, Try.results8, hb18, hb19]; rfl, ?_, fun l hl => absurd rfl hl, fun l hl => absurd rfl hl⟩
      simp only [packA]
      (repeat' (first | exact .nil | exact wkR_c | exact wkR_own | exact wkR_nils | refine wkR_int ?_ | refine wkR_bool ?_ | refine wkR_sl ?_ | refine wkR_osl ?_ | refine wkR_nsl ?_ | refine wkR_oo ?_ | refine wkR_no ?_ | refine .cons ?_ ?_ | refine wkR_agg ?_ | refine wkR_tup ?_))
  case b18 =>
   have hp18 := hb18
   try simp only [kb] at hp18
   all_goals try exact absurd hb18 (by decide)
   all_goals try (exfalso; omega)
   all_goals
    try simp only [hb18]
    refine aops_orunN 25 _ _ ?_
    simp only [qq, Nat.reduceBEq, reduceIte, Nat.reduceEqDiff, Nat.reduceAdd, Nat.reduceLeDiff, reduceCtorEq, Nat.reduceMul, Int.reduceToNat, hb18]
    refine aops_nil (hL16 _ ?_)
    simp only [qq, Nat.reduceBEq, reduceIte, Nat.reduceEqDiff, Nat.reduceAdd, Nat.reduceLeDiff, reduceCtorEq, Nat.reduceMul, Int.reduceToNat, hb18]
    try simp only [rk_state]
    refine hK15 _ ?_
    refine awp_ret ?_
    try simp only [rk_state]
    refine ⟨_, 0, by simp only [qq, Nat.reduceBEq, reduceIte, Nat.reduceEqDiff, Nat.reduceAdd, Nat.reduceLeDiff, reduceCtorEq, Nat.reduceMul, Int.reduceToNat, resA, Try.results8, hb18]; rfl, ?_, fun l hl => absurd rfl hl, fun l hl => absurd rfl hl⟩
    simp only [packA]
    (repeat' (first | exact .nil | exact wkR_c | exact wkR_own | exact wkR_nils | refine wkR_int ?_ | refine wkR_bool ?_ | refine wkR_sl ?_ | refine wkR_osl ?_ | refine wkR_nsl ?_ | refine wkR_oo ?_ | refine wkR_no ?_ | refine .cons ?_ ?_ | refine wkR_agg ?_ | refine wkR_tup ?_))
end Go.Proofs.Y
