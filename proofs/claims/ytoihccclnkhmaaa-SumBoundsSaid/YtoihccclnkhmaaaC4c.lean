/-
  What is proved: bounds of sums: what SumBounds computes. Conditions: none.
-/
import Derived.Test.YtoihccclnkhmaaaC4
import Derived.Test.YtoihccclnkhmaaaCK
import Derived.Test.YtoihccclnkhmaaaP4c
set_option linter.unusedVariables false
set_option linter.unusedSimpArgs false
set_option maxRecDepth 4000
namespace Go.Proofs.Y
open Go.Rb
set_option maxHeartbeats 4000000 in
theorem sumBounds_fun (ps : List Pt) (hn : ps.length < 4611686018427387904) : Fun Try.prog 5 [.c (.sl 34 (Rw Pt.cs ps))] nomem (.c (.bool true)) nomem := by
  refine fun_of_awp Try.func5 rfl (by decide +kernel) (by decide +kernel) (Nat.le_of_ble_eq_true rfl) (fun _ _ => rfl) ?_
  refine awp_seq_k fun K1 hK1 => ?_
  refine awp_region_lit fun L2 hL2 => ?_
  refine aops_orunN 1 _ _ ?_
  simp only [q0, kz, kv, rwR, enR, csR, tyf, Nat.reduceBEq, reduceIte, Nat.reduceEqDiff, Nat.reduceAdd, Nat.reduceLeDiff, reduceCtorEq, Nat.reduceMul, Int.reduceToNat, Nat.reduceShiftRight, Nat.reduceMod, Nat.reducePow, Nat.reduceOr, Nat.reduceAnd]
  refine aops_nil (hL2 _ ?_)
  simp only [q0, kz, kv, rwR, enR, csR, tyf, Nat.reduceBEq, reduceIte, Nat.reduceEqDiff, Nat.reduceAdd, Nat.reduceLeDiff, reduceCtorEq, Nat.reduceMul, Int.reduceToNat, Nat.reduceShiftRight, Nat.reduceMod, Nat.reducePow, Nat.reduceOr, Nat.reduceAnd]
  try simp only [rk_state]
  refine hK1 _ ?_
  refine awp_seq_k fun K3 hK3 => ?_
  refine awp_seq_k fun K4 hK4 => ?_
  refine awp_region_lit fun L5 hL5 => ?_
  refine aops_call added_fun rfl rfl rfl rfl (by (try simp only [q0, kz, kv, rwR, enR, csR, tyf, Nat.reduceBEq, reduceIte, Nat.reduceEqDiff, Nat.reduceAdd, Nat.reduceLeDiff, reduceCtorEq, Nat.reduceMul, Int.reduceToNat, Nat.reduceShiftRight, Nat.reduceMod, Nat.reducePow, Nat.reduceOr, Nat.reduceAnd]); (repeat' (first | exact .nil | exact wk_c | exact wk_ownc | exact wk_nilsc | exact wk_nils | exact wk_fn | refine .cons ?_ ?_ | refine wk_agg ?_ | refine wk_fnL ?_))) rfl rfl ?_
  simp only [q0, kz, kv, rwR, enR, csR, tyf, Nat.reduceBEq, reduceIte, Nat.reduceEqDiff, Nat.reduceAdd, Nat.reduceLeDiff, reduceCtorEq, Nat.reduceMul, Int.reduceToNat, Nat.reduceShiftRight, Nat.reduceMod, Nat.reducePow, Nat.reduceOr, Nat.reduceAnd]
  refine aops_orunN 2 _ _ ?_
  simp only [q0, kz, kv, rwR, enR, csR, tyf, Nat.reduceBEq, reduceIte, Nat.reduceEqDiff, Nat.reduceAdd, Nat.reduceLeDiff, reduceCtorEq, Nat.reduceMul, Int.reduceToNat, Nat.reduceShiftRight, Nat.reduceMod, Nat.reducePow, Nat.reduceOr, Nat.reduceAnd]
  refine aops_part (b := ?p7) 10 ?h7 (fun hb7 => ?a7) (fun hb7 => ?b7)
  case h7 => simp only [q0, kz, kv, rwR, enR, csR, tyf, Nat.reduceBEq, reduceIte, Nat.reduceEqDiff, Nat.reduceAdd, Nat.reduceLeDiff, reduceCtorEq, Nat.reduceMul, Int.reduceToNat, Nat.reduceShiftRight, Nat.reduceMod, Nat.reducePow, Nat.reduceOr, Nat.reduceAnd]; rfl
  case a7 =>
    have hp7 := hb7
    try simp only [kb] at hp7
    all_goals try exact absurd hb7 (by decide)
    all_goals try (exfalso; omega)
    all_goals
      try simp only [hb7]
      refine aops_orunN 4 _ _ ?_
      simp only [q0, kz, kv, rwR, enR, csR, tyf, Nat.reduceBEq, reduceIte, Nat.reduceEqDiff, Nat.reduceAdd, Nat.reduceLeDiff, reduceCtorEq, Nat.reduceMul, Int.reduceToNat, Nat.reduceShiftRight, Nat.reduceMod, Nat.reducePow, Nat.reduceOr, Nat.reduceAnd, hb7]
      try simp (disch := omega) only [dec_t, dec_f, beq_t, beq_f, bne_t, bne_f]
      try simp only [q0, kz, kv, rwR, enR, csR, tyf, Nat.reduceBEq, reduceIte, Nat.reduceEqDiff, Nat.reduceAdd, Nat.reduceLeDiff, reduceCtorEq, Nat.reduceMul, Int.reduceToNat, Nat.reduceShiftRight, Nat.reduceMod, Nat.reducePow, Nat.reduceOr, Nat.reduceAnd, hb7]
      refine aops_nil (hL5 _ ?_)
      simp only [q0, kz, kv, rwR, enR, csR, tyf, Nat.reduceBEq, reduceIte, Nat.reduceEqDiff, Nat.reduceAdd, Nat.reduceLeDiff, reduceCtorEq, Nat.reduceMul, Int.reduceToNat, Nat.reduceShiftRight, Nat.reduceMod, Nat.reducePow, Nat.reduceOr, Nat.reduceAnd, hb7]
      try simp only [rk_state]
      refine hK4 _ ?_
      refine awp_cond (t := true) (by simp only [q0, kz, kv, rwR, enR, csR, tyf, Nat.reduceBEq, reduceIte, Nat.reduceEqDiff, Nat.reduceAdd, Nat.reduceLeDiff, reduceCtorEq, Nat.reduceMul, Int.reduceToNat, Nat.reduceShiftRight, Nat.reduceMod, Nat.reducePow, Nat.reduceOr, Nat.reduceAnd, hb7]) (fun _ => ?_) (fun h => ?_)
      case refine_2 => cases h
      refine awp_seq_k fun K8 hK8 => ?_
      refine awp_region_lit fun L9 hL9 => ?_
      refine aops_call added_fun rfl rfl rfl rfl (by (try simp only [q0, kz, kv, rwR, enR, csR, tyf, Nat.reduceBEq, reduceIte, Nat.reduceEqDiff, Nat.reduceAdd, Nat.reduceLeDiff, reduceCtorEq, Nat.reduceMul, Int.reduceToNat, Nat.reduceShiftRight, Nat.reduceMod, Nat.reducePow, Nat.reduceOr, Nat.reduceAnd, hb7]); (repeat' (first | exact .nil | exact wk_c | exact wk_ownc | exact wk_nilsc | exact wk_nils | exact wk_fn | refine .cons ?_ ?_ | refine wk_agg ?_ | refine wk_fnL ?_))) rfl rfl ?_
      simp only [q0, kz, kv, rwR, enR, csR, tyf, Nat.reduceBEq, reduceIte, Nat.reduceEqDiff, Nat.reduceAdd, Nat.reduceLeDiff, reduceCtorEq, Nat.reduceMul, Int.reduceToNat, Nat.reduceShiftRight, Nat.reduceMod, Nat.reducePow, Nat.reduceOr, Nat.reduceAnd, hb7]
      refine aops_orunN 1 _ _ ?_
      simp only [q0, kz, kv, rwR, enR, csR, tyf, Nat.reduceBEq, reduceIte, Nat.reduceEqDiff, Nat.reduceAdd, Nat.reduceLeDiff, reduceCtorEq, Nat.reduceMul, Int.reduceToNat, Nat.reduceShiftRight, Nat.reduceMod, Nat.reducePow, Nat.reduceOr, Nat.reduceAnd, hb7]
      refine aops_nil (hL9 _ ?_)
      simp only [q0, kz, kv, rwR, enR, csR, tyf, Nat.reduceBEq, reduceIte, Nat.reduceEqDiff, Nat.reduceAdd, Nat.reduceLeDiff, reduceCtorEq, Nat.reduceMul, Int.reduceToNat, Nat.reduceShiftRight, Nat.reduceMod, Nat.reducePow, Nat.reduceOr, Nat.reduceAnd, hb7]
      try simp only [rk_state]
      refine hK8 _ ?_
      refine awp_ret ?_
      try simp only [rk_state]
      refine ⟨_, 0, by simp only [q0, kz, kv, rwR, enR, csR, tyf, Nat.reduceBEq, reduceIte, Nat.reduceEqDiff, Nat.reduceAdd, Nat.reduceLeDiff, reduceCtorEq, Nat.reduceMul, Int.reduceToNat, Nat.reduceShiftRight, Nat.reduceMod, Nat.reducePow, Nat.reduceOr, Nat.reduceAnd, resA, Try.results5, hb7]; rfl, ?_, fun l hl => absurd rfl hl⟩
      simp only [packA]
      (repeat' (first | exact .nil | exact wkR_c | exact wkR_own | exact wkR_nils | refine wkR_int ?_ | refine wkR_bool ?_ | refine wkR_sl ?_ | refine wkR_osl ?_ | refine wkR_nsl ?_ | refine wkR_oo ?_ | refine wkR_no ?_ | refine .cons ?_ ?_ | refine wkR_agg ?_ | refine wkR_tup ?_))
  case b7 =>
    have hp7 := hb7
    try simp only [kb] at hp7
    all_goals try exact absurd hb7 (by decide)
    all_goals try (exfalso; omega)
    all_goals
      try simp only [hb7]
      refine aops_orunN 1 _ _ ?_
      simp only [q0, kz, kv, rwR, enR, csR, tyf, Nat.reduceBEq, reduceIte, Nat.reduceEqDiff, Nat.reduceAdd, Nat.reduceLeDiff, reduceCtorEq, Nat.reduceMul, Int.reduceToNat, Nat.reduceShiftRight, Nat.reduceMod, Nat.reducePow, Nat.reduceOr, Nat.reduceAnd, hb7]
      refine aops_call (check_fun _) (by simp only [q0, kz, kv, rwR, enR, csR, tyf, Nat.reduceBEq, reduceIte, Nat.reduceEqDiff, Nat.reduceAdd, Nat.reduceLeDiff, reduceCtorEq, Nat.reduceMul, Int.reduceToNat, Nat.reduceShiftRight, Nat.reduceMod, Nat.reducePow, Nat.reduceOr, Nat.reduceAnd, hb7]) rfl rfl rfl (by (try simp only [q0, kz, kv, rwR, enR, csR, tyf, Nat.reduceBEq, reduceIte, Nat.reduceEqDiff, Nat.reduceAdd, Nat.reduceLeDiff, reduceCtorEq, Nat.reduceMul, Int.reduceToNat, Nat.reduceShiftRight, Nat.reduceMod, Nat.reducePow, Nat.reduceOr, Nat.reduceAnd, hb7]); (repeat' (first | exact .nil | exact wk_c | exact wk_ownc | exact wk_nilsc | exact wk_nils | exact wk_fn | refine .cons ?_ ?_ | refine wk_agg ?_ | refine wk_fnL ?_))) rfl rfl ?_
      simp only [q0, kz, kv, rwR, enR, csR, tyf, Nat.reduceBEq, reduceIte, Nat.reduceEqDiff, Nat.reduceAdd, Nat.reduceLeDiff, reduceCtorEq, Nat.reduceMul, Int.reduceToNat, Nat.reduceShiftRight, Nat.reduceMod, Nat.reducePow, Nat.reduceOr, Nat.reduceAnd, hb7]
      refine aops_orunN 2 _ _ ?_
      simp only [q0, kz, kv, rwR, enR, csR, tyf, Nat.reduceBEq, reduceIte, Nat.reduceEqDiff, Nat.reduceAdd, Nat.reduceLeDiff, reduceCtorEq, Nat.reduceMul, Int.reduceToNat, Nat.reduceShiftRight, Nat.reduceMod, Nat.reducePow, Nat.reduceOr, Nat.reduceAnd, hb7]
      try simp (disch := omega) only [dec_t, dec_f, beq_t, beq_f, bne_t, bne_f]
      try simp only [q0, kz, kv, rwR, enR, csR, tyf, Nat.reduceBEq, reduceIte, Nat.reduceEqDiff, Nat.reduceAdd, Nat.reduceLeDiff, reduceCtorEq, Nat.reduceMul, Int.reduceToNat, Nat.reduceShiftRight, Nat.reduceMod, Nat.reducePow, Nat.reduceOr, Nat.reduceAnd, hb7]
      refine aops_nil (hL5 _ ?_)
      simp only [q0, kz, kv, rwR, enR, csR, tyf, Nat.reduceBEq, reduceIte, Nat.reduceEqDiff, Nat.reduceAdd, Nat.reduceLeDiff, reduceCtorEq, Nat.reduceMul, Int.reduceToNat, Nat.reduceShiftRight, Nat.reduceMod, Nat.reducePow, Nat.reduceOr, Nat.reduceAnd, hb7]
      try simp only [rk_state]
      refine hK4 _ ?_
      refine awp_cond (t := ?t12) ?h12 (fun hb12 => ?a12) (fun hb12 => ?b12)
      case h12 => simp only [q0, kz, kv, rwR, enR, csR, tyf, Nat.reduceBEq, reduceIte, Nat.reduceEqDiff, Nat.reduceAdd, Nat.reduceLeDiff, reduceCtorEq, Nat.reduceMul, Int.reduceToNat, Nat.reduceShiftRight, Nat.reduceMod, Nat.reducePow, Nat.reduceOr, Nat.reduceAnd, hb7]; rfl
      case a12 =>
        have hp12 := hb12
        try simp only [kb] at hp12
        all_goals try exact absurd hb12 (by decide)
        all_goals try (exfalso; omega)
        all_goals
          refine awp_seq_k fun K13 hK13 => ?_
          refine awp_region_lit fun L14 hL14 => ?_
          refine aops_call added_fun rfl rfl rfl rfl (by (try simp only [q0, kz, kv, rwR, enR, csR, tyf, Nat.reduceBEq, reduceIte, Nat.reduceEqDiff, Nat.reduceAdd, Nat.reduceLeDiff, reduceCtorEq, Nat.reduceMul, Int.reduceToNat, Nat.reduceShiftRight, Nat.reduceMod, Nat.reducePow, Nat.reduceOr, Nat.reduceAnd, hb7, hb12]); (repeat' (first | exact .nil | exact wk_c | exact wk_ownc | exact wk_nilsc | exact wk_nils | exact wk_fn | refine .cons ?_ ?_ | refine wk_agg ?_ | refine wk_fnL ?_))) rfl rfl ?_
          simp only [q0, kz, kv, rwR, enR, csR, tyf, Nat.reduceBEq, reduceIte, Nat.reduceEqDiff, Nat.reduceAdd, Nat.reduceLeDiff, reduceCtorEq, Nat.reduceMul, Int.reduceToNat, Nat.reduceShiftRight, Nat.reduceMod, Nat.reducePow, Nat.reduceOr, Nat.reduceAnd, hb7, hb12]
          refine aops_orunN 1 _ _ ?_
          simp only [q0, kz, kv, rwR, enR, csR, tyf, Nat.reduceBEq, reduceIte, Nat.reduceEqDiff, Nat.reduceAdd, Nat.reduceLeDiff, reduceCtorEq, Nat.reduceMul, Int.reduceToNat, Nat.reduceShiftRight, Nat.reduceMod, Nat.reducePow, Nat.reduceOr, Nat.reduceAnd, hb7, hb12]
          refine aops_nil (hL14 _ ?_)
          simp only [q0, kz, kv, rwR, enR, csR, tyf, Nat.reduceBEq, reduceIte, Nat.reduceEqDiff, Nat.reduceAdd, Nat.reduceLeDiff, reduceCtorEq, Nat.reduceMul, Int.reduceToNat, Nat.reduceShiftRight, Nat.reduceMod, Nat.reducePow, Nat.reduceOr, Nat.reduceAnd, hb7, hb12]
          try simp only [rk_state]
          refine hK13 _ ?_
          refine awp_ret ?_
          try simp only [rk_state]
          refine ⟨_, 0, by simp only [q0, kz, kv, rwR, enR, csR, tyf, Nat.reduceBEq, reduceIte, Nat.reduceEqDiff, Nat.reduceAdd, Nat.reduceLeDiff, reduceCtorEq, Nat.reduceMul, Int.reduceToNat, Nat.reduceShiftRight, Nat.reduceMod, Nat.reducePow, Nat.reduceOr, Nat.reduceAnd, resA, Try.results5, hb7, hb12]; rfl, ?_, fun l hl => absurd rfl hl⟩
          simp only [packA]
          (repeat' (first | exact .nil | exact wkR_c | exact wkR_own | exact wkR_nils | refine wkR_int ?_ | refine wkR_bool ?_ | refine wkR_sl ?_ | refine wkR_osl ?_ | refine wkR_nsl ?_ | refine wkR_oo ?_ | refine wkR_no ?_ | refine .cons ?_ ?_ | refine wkR_agg ?_ | refine wkR_tup ?_))
      case b12 =>
        have hp12 := hb12
        try simp only [kb] at hp12
        all_goals try exact absurd hb12 (by decide)
        all_goals try (exfalso; omega)
        all_goals
          refine awp_skip ?_
          try simp only [rk_state]
          refine hK3 _ ?_
          refine awp_seq_k fun K16 hK16 => ?_
          have hck : checkL ps = 0 := by first | assumption | omega
          have hB := sumB_of hck
          refine awp_region_lit fun L17 hL17 => ?_
          refine aops_orunN 1 _ _ ?_
          simp only [q0, kz, kv, rwR, enR, csR, tyf, Nat.reduceBEq, reduceIte, Nat.reduceEqDiff, Nat.reduceAdd, Nat.reduceLeDiff, reduceCtorEq, Nat.reduceMul, Int.reduceToNat, Nat.reduceShiftRight, Nat.reduceMod, Nat.reducePow, Nat.reduceOr, Nat.reduceAnd, hb7, hb12]
          refine aops_call (of_fun _ ?s18_0) rfl rfl rfl rfl (by (try simp only [q0, kz, kv, rwR, enR, csR, tyf, Nat.reduceBEq, reduceIte, Nat.reduceEqDiff, Nat.reduceAdd, Nat.reduceLeDiff, reduceCtorEq, Nat.reduceMul, Int.reduceToNat, Nat.reduceShiftRight, Nat.reduceMod, Nat.reducePow, Nat.reduceOr, Nat.reduceAnd, hb7, hb12]); (repeat' (first | exact .nil | exact wk_c | exact wk_ownc | exact wk_nilsc | exact wk_nils | exact wk_fn | refine .cons ?_ ?_ | refine wk_agg ?_ | refine wk_fnL ?_))) rfl rfl ?m18
          case s18_0 => first | assumption | decide +kernel | (simp only [List.length_take, List.length_drop]; omega)
          simp only [q0, kz, kv, rwR, enR, csR, tyf, Nat.reduceBEq, reduceIte, Nat.reduceEqDiff, Nat.reduceAdd, Nat.reduceLeDiff, reduceCtorEq, Nat.reduceMul, Int.reduceToNat, Nat.reduceShiftRight, Nat.reduceMod, Nat.reducePow, Nat.reduceOr, Nat.reduceAnd, avR, hb7, hb12]
          refine aops_orunN 2 _ _ ?_
          simp only [q0, kz, kv, rwR, enR, csR, tyf, Nat.reduceBEq, reduceIte, Nat.reduceEqDiff, Nat.reduceAdd, Nat.reduceLeDiff, reduceCtorEq, Nat.reduceMul, Int.reduceToNat, Nat.reduceShiftRight, Nat.reduceMod, Nat.reducePow, Nat.reduceOr, Nat.reduceAnd, hb7, hb12]
          refine aops_nil (hL17 _ ?_)
          simp only [q0, kz, kv, rwR, enR, csR, tyf, Nat.reduceBEq, reduceIte, Nat.reduceEqDiff, Nat.reduceAdd, Nat.reduceLeDiff, reduceCtorEq, Nat.reduceMul, Int.reduceToNat, Nat.reduceShiftRight, Nat.reduceMod, Nat.reducePow, Nat.reduceOr, Nat.reduceAnd, hb7, hb12]
          try simp only [rk_state]
          refine hK16 _ ?_
          refine awp_seq_k fun K19 hK19 => ?_
          refine awp_region_dr (by decide +kernel) fun L20 hL20 => ?_
          refine aops_orunN 8 _ _ ?_
          simp only [q0, kz, kv, rwR, enR, csR, tyf, Nat.reduceBEq, reduceIte, Nat.reduceEqDiff, Nat.reduceAdd, Nat.reduceLeDiff, reduceCtorEq, Nat.reduceMul, Int.reduceToNat, Nat.reduceShiftRight, Nat.reduceMod, Nat.reducePow, Nat.reduceOr, Nat.reduceAnd, hb7, hb12]
          try simp (disch := omega) only [dec_t, dec_f, beq_t, beq_f, bne_t, bne_f]
          try simp only [q0, kz, kv, rwR, enR, csR, tyf, Nat.reduceBEq, reduceIte, Nat.reduceEqDiff, Nat.reduceAdd, Nat.reduceLeDiff, reduceCtorEq, Nat.reduceMul, Int.reduceToNat, Nat.reduceShiftRight, Nat.reduceMod, Nat.reducePow, Nat.reduceOr, Nat.reduceAnd, hb7, hb12]
          refine aops_nil (hL20 _ ?_)
          simp only [q0, kz, kv, rwR, enR, csR, tyf, Nat.reduceBEq, reduceIte, Nat.reduceEqDiff, Nat.reduceAdd, Nat.reduceLeDiff, reduceCtorEq, Nat.reduceMul, Int.reduceToNat, Nat.reduceShiftRight, Nat.reduceMod, Nat.reducePow, Nat.reduceOr, Nat.reduceAnd, hb7, hb12]
          try simp only [rk_state]
          refine hK19 _ ?_
          refine awp_seq_k fun K21 hK21 => ?_
          refine awp_seq_k fun K22 hK22 => ?_
          refine awp_region_lit fun L23 hL23 => ?_
          refine aops_orunN 3 _ _ ?_
          simp only [q0, kz, kv, rwR, enR, csR, tyf, Nat.reduceBEq, reduceIte, Nat.reduceEqDiff, Nat.reduceAdd, Nat.reduceLeDiff, reduceCtorEq, Nat.reduceMul, Int.reduceToNat, Nat.reduceShiftRight, Nat.reduceMod, Nat.reducePow, Nat.reduceOr, Nat.reduceAnd, hb7, hb12]
          refine aops_nil (hL23 _ ?_)
          simp only [q0, kz, kv, rwR, enR, csR, tyf, Nat.reduceBEq, reduceIte, Nat.reduceEqDiff, Nat.reduceAdd, Nat.reduceLeDiff, reduceCtorEq, Nat.reduceMul, Int.reduceToNat, Nat.reduceShiftRight, Nat.reduceMod, Nat.reducePow, Nat.reduceOr, Nat.reduceAnd, hb7, hb12]
          try simp only [rk_state]
          refine hK22 _ ?_
          refine awp_block ?_
          refine awp_loopW (W := [27, 28, 29, 7, 30, 31, 32, 33, 34, 35, 36, 37, 38, 39, 40, 41, 2, 42, 43, 44, 45, 46, 47, 48, 49, 50, 51, 52, 53, 54, 55, 56, 57, 4, 5, 58, 26]) (M := [7]) rfl rfl (fun k s => ∃ (i : Nat), k = ps.length - i ∧ (i ≤ ps.length) ∧ s.t 4 = .c (.bool (leastAt ps i)) ∧ s.t 5 = .c (.bool (mostAt ps i)) ∧ s.t 26 = .c (.int .i64 (i : Int)) ∧ s.m 3 = [.c (.int .i64 (sumOf ps).n), .c (.int .i64 (sumOf ps).mn), .c (.int .i64 (sumOf ps).mx), .c (.int .i64 (sumOf ps).tot)] ∧ s.m 7 = []) ((fun (i : Nat) => ps.length - i) (0)) ?i24 ?r24
          case i24 =>
            refine ⟨0, rfl, ?_, ?_, ?_, ?_, ?_, ?_⟩
            · first | omega | simp
            · (try simp only [q0, kz, kv, rwR, enR, csR, tyf, Nat.reduceBEq, reduceIte, Nat.reduceEqDiff, Nat.reduceAdd, Nat.reduceLeDiff, reduceCtorEq, Nat.reduceMul, Int.reduceToNat, Nat.reduceShiftRight, Nat.reduceMod, Nat.reducePow, Nat.reduceOr, Nat.reduceAnd, hb7, hb12])
              all_goals first | done | (simp [leastAt])
            · (try simp only [q0, kz, kv, rwR, enR, csR, tyf, Nat.reduceBEq, reduceIte, Nat.reduceEqDiff, Nat.reduceAdd, Nat.reduceLeDiff, reduceCtorEq, Nat.reduceMul, Int.reduceToNat, Nat.reduceShiftRight, Nat.reduceMod, Nat.reducePow, Nat.reduceOr, Nat.reduceAnd, hb7, hb12])
              all_goals first | done | (simp [mostAt])
            · (try simp only [q0, kz, kv, rwR, enR, csR, tyf, Nat.reduceBEq, reduceIte, Nat.reduceEqDiff, Nat.reduceAdd, Nat.reduceLeDiff, reduceCtorEq, Nat.reduceMul, Int.reduceToNat, Nat.reduceShiftRight, Nat.reduceMod, Nat.reducePow, Nat.reduceOr, Nat.reduceAnd, hb7, hb12])
              all_goals (first | done | rfl | (simp only [AV.c.injEq, C.int.injEq, List.cons.injEq, and_true, true_and]; omega))
            · (try simp only [q0, kz, kv, rwR, enR, csR, tyf, Nat.reduceBEq, reduceIte, Nat.reduceEqDiff, Nat.reduceAdd, Nat.reduceLeDiff, reduceCtorEq, Nat.reduceMul, Int.reduceToNat, Nat.reduceShiftRight, Nat.reduceMod, Nat.reducePow, Nat.reduceOr, Nat.reduceAnd, hb7, hb12])
              all_goals (first | done | rfl | (simp only [AV.c.injEq, C.int.injEq, List.cons.injEq, and_true, true_and]; omega))
            · (try simp only [q0, kz, kv, rwR, enR, csR, tyf, Nat.reduceBEq, reduceIte, Nat.reduceEqDiff, Nat.reduceAdd, Nat.reduceLeDiff, reduceCtorEq, Nat.reduceMul, Int.reduceToNat, Nat.reduceShiftRight, Nat.reduceMod, Nat.reducePow, Nat.reduceOr, Nat.reduceAnd, hb7, hb12])
              all_goals (first | done | rfl | (simp only [AV.c.injEq, C.int.injEq, List.cons.injEq, and_true, true_and]; omega))
          case r24 =>
            rintro k s hf ⟨i, rfl, hq6_0, s24t4, s24t5, s24t26, s24m3, s24z7⟩ K24 hK24
            have s24f0 := hf 0 rfl
            simp only [q0, kz, kv, rwR, enR, csR, tyf, Nat.reduceBEq, reduceIte, Nat.reduceEqDiff, Nat.reduceAdd, Nat.reduceLeDiff, reduceCtorEq, Nat.reduceMul, Int.reduceToNat, Nat.reduceShiftRight, Nat.reduceMod, Nat.reducePow, Nat.reduceOr, Nat.reduceAnd, hb7, hb12] at s24f0
            have s24f3 := hf 3 rfl
            simp only [q0, kz, kv, rwR, enR, csR, tyf, Nat.reduceBEq, reduceIte, Nat.reduceEqDiff, Nat.reduceAdd, Nat.reduceLeDiff, reduceCtorEq, Nat.reduceMul, Int.reduceToNat, Nat.reduceShiftRight, Nat.reduceMod, Nat.reducePow, Nat.reduceOr, Nat.reduceAnd, hb7, hb12] at s24f3
            have s24f24 := hf 24 rfl
            simp only [q0, kz, kv, rwR, enR, csR, tyf, Nat.reduceBEq, reduceIte, Nat.reduceEqDiff, Nat.reduceAdd, Nat.reduceLeDiff, reduceCtorEq, Nat.reduceMul, Int.reduceToNat, Nat.reduceShiftRight, Nat.reduceMod, Nat.reducePow, Nat.reduceOr, Nat.reduceAnd, hb7, hb12] at s24f24
            have s24f25 := hf 25 rfl
            simp only [q0, kz, kv, rwR, enR, csR, tyf, Nat.reduceBEq, reduceIte, Nat.reduceEqDiff, Nat.reduceAdd, Nat.reduceLeDiff, reduceCtorEq, Nat.reduceMul, Int.reduceToNat, Nat.reduceShiftRight, Nat.reduceMod, Nat.reducePow, Nat.reduceOr, Nat.reduceAnd, hb7, hb12] at s24f25
            clear hf
            refine awp_seq_k fun K25 hK25 => ?_
            refine awp_region_lit fun L26 hL26 => ?_
            refine aops_orunN 1 _ _ ?_
            simp only [q0, kz, kv, rwR, enR, csR, tyf, Nat.reduceBEq, reduceIte, Nat.reduceEqDiff, Nat.reduceAdd, Nat.reduceLeDiff, reduceCtorEq, Nat.reduceMul, Int.reduceToNat, Nat.reduceShiftRight, Nat.reduceMod, Nat.reducePow, Nat.reduceOr, Nat.reduceAnd, hb7, hb12, s24t4, s24t5, s24t26, s24m3, s24z7, s24f0, s24f3, s24f24, s24f25]
            try simp (disch := omega) only [dec_t, dec_f, beq_t, beq_f, bne_t, bne_f]
            try simp only [q0, kz, kv, rwR, enR, csR, tyf, Nat.reduceBEq, reduceIte, Nat.reduceEqDiff, Nat.reduceAdd, Nat.reduceLeDiff, reduceCtorEq, Nat.reduceMul, Int.reduceToNat, Nat.reduceShiftRight, Nat.reduceMod, Nat.reducePow, Nat.reduceOr, Nat.reduceAnd, hb7, hb12, s24t4, s24t5, s24t26, s24m3, s24z7, s24f0, s24f3, s24f24, s24f25]
            refine aops_nil (hL26 _ ?_)
            simp only [q0, kz, kv, rwR, enR, csR, tyf, Nat.reduceBEq, reduceIte, Nat.reduceEqDiff, Nat.reduceAdd, Nat.reduceLeDiff, reduceCtorEq, Nat.reduceMul, Int.reduceToNat, Nat.reduceShiftRight, Nat.reduceMod, Nat.reducePow, Nat.reduceOr, Nat.reduceAnd, hb7, hb12, s24t4, s24t5, s24t26, s24m3, s24z7, s24f0, s24f3, s24f24, s24f25]
            try simp only [rk_state]
            refine hK25 _ ?_
            refine awp_seq_k fun K27 hK27 => ?_
            refine awp_cond (t := ?t28) ?h28 (fun hb28 => ?a28) (fun hb28 => ?b28)
            case h28 => simp only [q0, kz, kv, rwR, enR, csR, tyf, Nat.reduceBEq, reduceIte, Nat.reduceEqDiff, Nat.reduceAdd, Nat.reduceLeDiff, reduceCtorEq, Nat.reduceMul, Int.reduceToNat, Nat.reduceShiftRight, Nat.reduceMod, Nat.reducePow, Nat.reduceOr, Nat.reduceAnd, hb7, hb12, s24t4, s24t5, s24t26, s24m3, s24z7, s24f0, s24f3, s24f24, s24f25]; rfl
            case a28 =>
              have hp28 := hb28
              try simp only [kb] at hp28
              all_goals try exact absurd hb28 (by decide)
              all_goals try (exfalso; omega)
              all_goals
                refine awp_skip ?_
                try simp only [rk_state]
                refine hK27 _ ?_
                refine awp_seq_k fun K29 hK29 => ?_
                refine awp_block ?_
                refine awp_seq_k fun K30 hK30 => ?_
                have hlo := hB.lo _ (getD_mem (l := ps) (i := i) (by omega))
                have hhi := hB.hi _ (getD_mem (l := ps) (i := i) (by omega))
                refine awp_region_lit fun L31 hL31 => ?_
                refine aops_val (v := ?v32) rfl ?h32 ?_
                case h32 => simp only [q0, kz, kv, rwR, enR, csR, tyf, Nat.reduceBEq, reduceIte, Nat.reduceEqDiff, Nat.reduceAdd, Nat.reduceLeDiff, reduceCtorEq, Nat.reduceMul, Int.reduceToNat, Nat.reduceShiftRight, Nat.reduceMod, Nat.reducePow, Nat.reduceOr, Nat.reduceAnd, hb7, hb12, s24t4, s24t5, s24t26, s24m3, s24z7, s24f0, s24f3, s24f24, s24f25, hb28]; first | (rw [idx_c un22 if34] <;> omega) | (rw [idx_o un22 if34] <;> omega)
                simp only [q0, kz, kv, rwR, enR, csR, tyf, Nat.reduceBEq, reduceIte, Nat.reduceEqDiff, Nat.reduceAdd, Nat.reduceLeDiff, reduceCtorEq, Nat.reduceMul, Int.reduceToNat, Nat.reduceShiftRight, Nat.reduceMod, Nat.reducePow, Nat.reduceOr, Nat.reduceAnd, hb7, hb12, s24t4, s24t5, s24t26, s24m3, s24z7, s24f0, s24f3, s24f24, s24f25, hb28]
                refine aops_orunN 3 _ _ ?_
                simp only [q0, kz, kv, rwR, enR, csR, tyf, Nat.reduceBEq, reduceIte, Nat.reduceEqDiff, Nat.reduceAdd, Nat.reduceLeDiff, reduceCtorEq, Nat.reduceMul, Int.reduceToNat, Nat.reduceShiftRight, Nat.reduceMod, Nat.reducePow, Nat.reduceOr, Nat.reduceAnd, hb7, hb12, s24t4, s24t5, s24t26, s24m3, s24z7, s24f0, s24f3, s24f24, s24f25, hb28]
                refine aops_nil (hL31 _ ?_)
                simp only [q0, kz, kv, rwR, enR, csR, tyf, Nat.reduceBEq, reduceIte, Nat.reduceEqDiff, Nat.reduceAdd, Nat.reduceLeDiff, reduceCtorEq, Nat.reduceMul, Int.reduceToNat, Nat.reduceShiftRight, Nat.reduceMod, Nat.reducePow, Nat.reduceOr, Nat.reduceAnd, hb7, hb12, s24t4, s24t5, s24t26, s24m3, s24z7, s24f0, s24f3, s24f24, s24f25, hb28]
                try simp only [rk_state]
                refine hK30 _ ?_
                refine awp_seq_k fun K33 hK33 => ?_
                refine awp_seq_k fun K34 hK34 => ?_
                refine awp_region_lit fun L35 hL35 => ?_
                refine aops_orunN 6 _ _ ?_
                simp only [q0, kz, kv, rwR, enR, csR, tyf, Nat.reduceBEq, reduceIte, Nat.reduceEqDiff, Nat.reduceAdd, Nat.reduceLeDiff, reduceCtorEq, Nat.reduceMul, Int.reduceToNat, Nat.reduceShiftRight, Nat.reduceMod, Nat.reducePow, Nat.reduceOr, Nat.reduceAnd, hb7, hb12, s24t4, s24t5, s24t26, s24m3, s24z7, s24f0, s24f3, s24f24, s24f25, hb28]
                try simp (disch := omega) only [dec_t, dec_f, beq_t, beq_f, bne_t, bne_f]
                try simp only [q0, kz, kv, rwR, enR, csR, tyf, Nat.reduceBEq, reduceIte, Nat.reduceEqDiff, Nat.reduceAdd, Nat.reduceLeDiff, reduceCtorEq, Nat.reduceMul, Int.reduceToNat, Nat.reduceShiftRight, Nat.reduceMod, Nat.reducePow, Nat.reduceOr, Nat.reduceAnd, hb7, hb12, s24t4, s24t5, s24t26, s24m3, s24z7, s24f0, s24f3, s24f24, s24f25, hb28]
                refine aops_part (b := ?p36) 35 ?h36 (fun hb36 => ?a36) (fun hb36 => ?b36)
                case h36 => simp only [q0, kz, kv, rwR, enR, csR, tyf, Nat.reduceBEq, reduceIte, Nat.reduceEqDiff, Nat.reduceAdd, Nat.reduceLeDiff, reduceCtorEq, Nat.reduceMul, Int.reduceToNat, Nat.reduceShiftRight, Nat.reduceMod, Nat.reducePow, Nat.reduceOr, Nat.reduceAnd, hb7, hb12, s24t4, s24t5, s24t26, s24m3, s24z7, s24f0, s24f3, s24f24, s24f25, hb28]; rfl
                case a36 =>
                  have hp36 := hb36
                  try simp only [kb] at hp36
                  all_goals try exact absurd hb36 (by decide)
                  all_goals try (exfalso; omega)
                  all_goals
                    try simp only [hb36]
                    refine aops_orunN 6 _ _ ?_
                    simp only [q0, kz, kv, rwR, enR, csR, tyf, Nat.reduceBEq, reduceIte, Nat.reduceEqDiff, Nat.reduceAdd, Nat.reduceLeDiff, reduceCtorEq, Nat.reduceMul, Int.reduceToNat, Nat.reduceShiftRight, Nat.reduceMod, Nat.reducePow, Nat.reduceOr, Nat.reduceAnd, hb7, hb12, s24t4, s24t5, s24t26, s24m3, s24z7, s24f0, s24f3, s24f24, s24f25, hb28, hb36]
                    try simp (disch := omega) only [dec_t, dec_f, beq_t, beq_f, bne_t, bne_f]
                    try simp only [q0, kz, kv, rwR, enR, csR, tyf, Nat.reduceBEq, reduceIte, Nat.reduceEqDiff, Nat.reduceAdd, Nat.reduceLeDiff, reduceCtorEq, Nat.reduceMul, Int.reduceToNat, Nat.reduceShiftRight, Nat.reduceMod, Nat.reducePow, Nat.reduceOr, Nat.reduceAnd, hb7, hb12, s24t4, s24t5, s24t26, s24m3, s24z7, s24f0, s24f3, s24f24, s24f25, hb28, hb36]
                    refine aops_nil (hL35 _ ?_)
                    simp only [q0, kz, kv, rwR, enR, csR, tyf, Nat.reduceBEq, reduceIte, Nat.reduceEqDiff, Nat.reduceAdd, Nat.reduceLeDiff, reduceCtorEq, Nat.reduceMul, Int.reduceToNat, Nat.reduceShiftRight, Nat.reduceMod, Nat.reducePow, Nat.reduceOr, Nat.reduceAnd, hb7, hb12, s24t4, s24t5, s24t26, s24m3, s24z7, s24f0, s24f3, s24f24, s24f25, hb28, hb36]
                    try simp only [rk_state]
                    refine hK34 _ ?_
                    refine awp_cond (t := true) (by simp only [q0, kz, kv, rwR, enR, csR, tyf, Nat.reduceBEq, reduceIte, Nat.reduceEqDiff, Nat.reduceAdd, Nat.reduceLeDiff, reduceCtorEq, Nat.reduceMul, Int.reduceToNat, Nat.reduceShiftRight, Nat.reduceMod, Nat.reducePow, Nat.reduceOr, Nat.reduceAnd, hb7, hb12, s24t4, s24t5, s24t26, s24m3, s24z7, s24f0, s24f3, s24f24, s24f25, hb28, hb36]) (fun _ => ?_) (fun h => ?_)
                    case refine_2 => cases h
                    refine awp_seq_k fun K37 hK37 => ?_
                    refine awp_region_lit fun L38 hL38 => ?_
                    refine aops_orunN 1 _ _ ?_
                    simp only [q0, kz, kv, rwR, enR, csR, tyf, Nat.reduceBEq, reduceIte, Nat.reduceEqDiff, Nat.reduceAdd, Nat.reduceLeDiff, reduceCtorEq, Nat.reduceMul, Int.reduceToNat, Nat.reduceShiftRight, Nat.reduceMod, Nat.reducePow, Nat.reduceOr, Nat.reduceAnd, hb7, hb12, s24t4, s24t5, s24t26, s24m3, s24z7, s24f0, s24f3, s24f24, s24f25, hb28, hb36]
                    refine aops_nil (hL38 _ ?_)
                    simp only [q0, kz, kv, rwR, enR, csR, tyf, Nat.reduceBEq, reduceIte, Nat.reduceEqDiff, Nat.reduceAdd, Nat.reduceLeDiff, reduceCtorEq, Nat.reduceMul, Int.reduceToNat, Nat.reduceShiftRight, Nat.reduceMod, Nat.reducePow, Nat.reduceOr, Nat.reduceAnd, hb7, hb12, s24t4, s24t5, s24t26, s24m3, s24z7, s24f0, s24f3, s24f24, s24f25, hb28, hb36]
                    try simp only [rk_state]
                    refine hK37 _ ?_
                    refine awp_ret ?_
                    try simp only [rk_state]
                    refine ⟨_, 0, by simp only [q0, kz, kv, rwR, enR, csR, tyf, Nat.reduceBEq, reduceIte, Nat.reduceEqDiff, Nat.reduceAdd, Nat.reduceLeDiff, reduceCtorEq, Nat.reduceMul, Int.reduceToNat, Nat.reduceShiftRight, Nat.reduceMod, Nat.reducePow, Nat.reduceOr, Nat.reduceAnd, resA, Try.results5, hb7, hb12, s24t4, s24t5, s24t26, s24m3, s24z7, s24f0, s24f3, s24f24, s24f25, hb28, hb36]; rfl, ?_, fun l hl => absurd rfl hl⟩
                    simp only [packA]
                    (repeat' (first | exact .nil | exact wkR_c | exact wkR_own | exact wkR_nils | refine wkR_int ?_ | refine wkR_bool ?_ | refine wkR_sl ?_ | refine wkR_osl ?_ | refine wkR_nsl ?_ | refine wkR_oo ?_ | refine wkR_no ?_ | refine .cons ?_ ?_ | refine wkR_agg ?_ | refine wkR_tup ?_))
                case b36 =>
                  have hp36 := hb36
                  try simp only [kb] at hp36
                  all_goals try exact absurd hb36 (by decide)
                  all_goals try (exfalso; omega)
                  all_goals
                    try simp only [hb36]
                    refine aops_orunN 6 _ _ ?_
                    simp only [q0, kz, kv, rwR, enR, csR, tyf, Nat.reduceBEq, reduceIte, Nat.reduceEqDiff, Nat.reduceAdd, Nat.reduceLeDiff, reduceCtorEq, Nat.reduceMul, Int.reduceToNat, Nat.reduceShiftRight, Nat.reduceMod, Nat.reducePow, Nat.reduceOr, Nat.reduceAnd, hb7, hb12, s24t4, s24t5, s24t26, s24m3, s24z7, s24f0, s24f3, s24f24, s24f25, hb28, hb36]
                    try simp (disch := omega) only [dec_t, dec_f, beq_t, beq_f, bne_t, bne_f]
                    try simp only [q0, kz, kv, rwR, enR, csR, tyf, Nat.reduceBEq, reduceIte, Nat.reduceEqDiff, Nat.reduceAdd, Nat.reduceLeDiff, reduceCtorEq, Nat.reduceMul, Int.reduceToNat, Nat.reduceShiftRight, Nat.reduceMod, Nat.reducePow, Nat.reduceOr, Nat.reduceAnd, hb7, hb12, s24t4, s24t5, s24t26, s24m3, s24z7, s24f0, s24f3, s24f24, s24f25, hb28, hb36]
                    refine aops_nil (hL35 _ ?_)
                    simp only [q0, kz, kv, rwR, enR, csR, tyf, Nat.reduceBEq, reduceIte, Nat.reduceEqDiff, Nat.reduceAdd, Nat.reduceLeDiff, reduceCtorEq, Nat.reduceMul, Int.reduceToNat, Nat.reduceShiftRight, Nat.reduceMod, Nat.reducePow, Nat.reduceOr, Nat.reduceAnd, hb7, hb12, s24t4, s24t5, s24t26, s24m3, s24z7, s24f0, s24f3, s24f24, s24f25, hb28, hb36]
                    try simp only [rk_state]
                    refine hK34 _ ?_
                    refine awp_cond (t := ?t39) ?h39 (fun hb39 => ?a39) (fun hb39 => ?b39)
                    case h39 => simp only [q0, kz, kv, rwR, enR, csR, tyf, Nat.reduceBEq, reduceIte, Nat.reduceEqDiff, Nat.reduceAdd, Nat.reduceLeDiff, reduceCtorEq, Nat.reduceMul, Int.reduceToNat, Nat.reduceShiftRight, Nat.reduceMod, Nat.reducePow, Nat.reduceOr, Nat.reduceAnd, hb7, hb12, s24t4, s24t5, s24t26, s24m3, s24z7, s24f0, s24f3, s24f24, s24f25, hb28, hb36]; rfl
                    case a39 =>
                      have hp39 := hb39
                      try simp only [kb] at hp39
                      all_goals try exact absurd hb39 (by decide)
                      all_goals try (exfalso; omega)
                      all_goals
                        refine awp_seq_k fun K40 hK40 => ?_
                        refine awp_region_lit fun L41 hL41 => ?_
                        refine aops_orunN 1 _ _ ?_
                        simp only [q0, kz, kv, rwR, enR, csR, tyf, Nat.reduceBEq, reduceIte, Nat.reduceEqDiff, Nat.reduceAdd, Nat.reduceLeDiff, reduceCtorEq, Nat.reduceMul, Int.reduceToNat, Nat.reduceShiftRight, Nat.reduceMod, Nat.reducePow, Nat.reduceOr, Nat.reduceAnd, hb7, hb12, s24t4, s24t5, s24t26, s24m3, s24z7, s24f0, s24f3, s24f24, s24f25, hb28, hb36, hb39]
                        refine aops_nil (hL41 _ ?_)
                        simp only [q0, kz, kv, rwR, enR, csR, tyf, Nat.reduceBEq, reduceIte, Nat.reduceEqDiff, Nat.reduceAdd, Nat.reduceLeDiff, reduceCtorEq, Nat.reduceMul, Int.reduceToNat, Nat.reduceShiftRight, Nat.reduceMod, Nat.reducePow, Nat.reduceOr, Nat.reduceAnd, hb7, hb12, s24t4, s24t5, s24t26, s24m3, s24z7, s24f0, s24f3, s24f24, s24f25, hb28, hb36, hb39]
                        try simp only [rk_state]
                        refine hK40 _ ?_
                        refine awp_ret ?_
                        try simp only [rk_state]
                        refine ⟨_, 0, by simp only [q0, kz, kv, rwR, enR, csR, tyf, Nat.reduceBEq, reduceIte, Nat.reduceEqDiff, Nat.reduceAdd, Nat.reduceLeDiff, reduceCtorEq, Nat.reduceMul, Int.reduceToNat, Nat.reduceShiftRight, Nat.reduceMod, Nat.reducePow, Nat.reduceOr, Nat.reduceAnd, resA, Try.results5, hb7, hb12, s24t4, s24t5, s24t26, s24m3, s24z7, s24f0, s24f3, s24f24, s24f25, hb28, hb36, hb39]; rfl, ?_, fun l hl => absurd rfl hl⟩
                        simp only [packA]
                        (repeat' (first | exact .nil | exact wkR_c | exact wkR_own | exact wkR_nils | refine wkR_int ?_ | refine wkR_bool ?_ | refine wkR_sl ?_ | refine wkR_osl ?_ | refine wkR_nsl ?_ | refine wkR_oo ?_ | refine wkR_no ?_ | refine .cons ?_ ?_ | refine wkR_agg ?_ | refine wkR_tup ?_))
                    case b39 =>
                      have hp39 := hb39
                      try simp only [kb] at hp39
                      all_goals try exact absurd hb39 (by decide)
                      all_goals try (exfalso; omega)
                      all_goals
                        refine awp_skip ?_
                        try simp only [rk_state]
                        refine hK33 _ ?_
                        refine awp_region_dr (by decide +kernel) fun L42 hL42 => ?_
                        refine aops_orunN 2 _ _ ?_
                        simp only [q0, kz, kv, rwR, enR, csR, tyf, Nat.reduceBEq, reduceIte, Nat.reduceEqDiff, Nat.reduceAdd, Nat.reduceLeDiff, reduceCtorEq, Nat.reduceMul, Int.reduceToNat, Nat.reduceShiftRight, Nat.reduceMod, Nat.reducePow, Nat.reduceOr, Nat.reduceAnd, hb7, hb12, s24t4, s24t5, s24t26, s24m3, s24z7, s24f0, s24f3, s24f24, s24f25, hb28, hb36, hb39]
                        refine aops_part (b := ?p43) 43 ?h43 (fun hb43 => ?a43) (fun hb43 => ?b43)
                        case h43 => simp only [q0, kz, kv, rwR, enR, csR, tyf, Nat.reduceBEq, reduceIte, Nat.reduceEqDiff, Nat.reduceAdd, Nat.reduceLeDiff, reduceCtorEq, Nat.reduceMul, Int.reduceToNat, Nat.reduceShiftRight, Nat.reduceMod, Nat.reducePow, Nat.reduceOr, Nat.reduceAnd, hb7, hb12, s24t4, s24t5, s24t26, s24m3, s24z7, s24f0, s24f3, s24f24, s24f25, hb28, hb36, hb39]; rfl
                        case a43 =>
                          have hp43 := hb43
                          try simp only [kb] at hp43
                          all_goals try exact absurd hb43 (by decide)
                          all_goals try (exfalso; omega)
                          all_goals
                            try simp only [hb43]
                            refine aops_orunN 8 _ _ ?_
                            simp only [q0, kz, kv, rwR, enR, csR, tyf, Nat.reduceBEq, reduceIte, Nat.reduceEqDiff, Nat.reduceAdd, Nat.reduceLeDiff, reduceCtorEq, Nat.reduceMul, Int.reduceToNat, Nat.reduceShiftRight, Nat.reduceMod, Nat.reducePow, Nat.reduceOr, Nat.reduceAnd, hb7, hb12, s24t4, s24t5, s24t26, s24m3, s24z7, s24f0, s24f3, s24f24, s24f25, hb28, hb36, hb39, hb43]
                            try simp (disch := omega) only [dec_t, dec_f, beq_t, beq_f, bne_t, bne_f]
                            try simp only [q0, kz, kv, rwR, enR, csR, tyf, Nat.reduceBEq, reduceIte, Nat.reduceEqDiff, Nat.reduceAdd, Nat.reduceLeDiff, reduceCtorEq, Nat.reduceMul, Int.reduceToNat, Nat.reduceShiftRight, Nat.reduceMod, Nat.reducePow, Nat.reduceOr, Nat.reduceAnd, hb7, hb12, s24t4, s24t5, s24t26, s24m3, s24z7, s24f0, s24f3, s24f24, s24f25, hb28, hb36, hb39, hb43]
                            refine aops_part (b := ?p44) 51 ?h44 (fun hb44 => ?a44) (fun hb44 => ?b44)
                            case h44 => simp only [q0, kz, kv, rwR, enR, csR, tyf, Nat.reduceBEq, reduceIte, Nat.reduceEqDiff, Nat.reduceAdd, Nat.reduceLeDiff, reduceCtorEq, Nat.reduceMul, Int.reduceToNat, Nat.reduceShiftRight, Nat.reduceMod, Nat.reducePow, Nat.reduceOr, Nat.reduceAnd, hb7, hb12, s24t4, s24t5, s24t26, s24m3, s24z7, s24f0, s24f3, s24f24, s24f25, hb28, hb36, hb39, hb43]; rfl
                            case a44 =>
                              have hp44 := hb44
                              try simp only [kb] at hp44
                              all_goals try exact absurd hb44 (by decide)
                              all_goals try (exfalso; omega)
                              all_goals
                                try simp only [hb44]
                                refine aops_orunN 8 _ _ ?_
                                simp only [q0, kz, kv, rwR, enR, csR, tyf, Nat.reduceBEq, reduceIte, Nat.reduceEqDiff, Nat.reduceAdd, Nat.reduceLeDiff, reduceCtorEq, Nat.reduceMul, Int.reduceToNat, Nat.reduceShiftRight, Nat.reduceMod, Nat.reducePow, Nat.reduceOr, Nat.reduceAnd, hb7, hb12, s24t4, s24t5, s24t26, s24m3, s24z7, s24f0, s24f3, s24f24, s24f25, hb28, hb36, hb39, hb43, hb44]
                                try simp (disch := omega) only [dec_t, dec_f, beq_t, beq_f, bne_t, bne_f]
                                try simp only [q0, kz, kv, rwR, enR, csR, tyf, Nat.reduceBEq, reduceIte, Nat.reduceEqDiff, Nat.reduceAdd, Nat.reduceLeDiff, reduceCtorEq, Nat.reduceMul, Int.reduceToNat, Nat.reduceShiftRight, Nat.reduceMod, Nat.reducePow, Nat.reduceOr, Nat.reduceAnd, hb7, hb12, s24t4, s24t5, s24t26, s24m3, s24z7, s24f0, s24f3, s24f24, s24f25, hb28, hb36, hb39, hb43, hb44]
                                refine aops_nil (hL42 _ ?_)
                                simp only [q0, kz, kv, rwR, enR, csR, tyf, Nat.reduceBEq, reduceIte, Nat.reduceEqDiff, Nat.reduceAdd, Nat.reduceLeDiff, reduceCtorEq, Nat.reduceMul, Int.reduceToNat, Nat.reduceShiftRight, Nat.reduceMod, Nat.reducePow, Nat.reduceOr, Nat.reduceAnd, hb7, hb12, s24t4, s24t5, s24t26, s24m3, s24z7, s24f0, s24f3, s24f24, s24f25, hb28, hb36, hb39, hb43, hb44]
                                try simp only [rk_state]
                                try simp only [rk_state]
                                refine hK29 _ ?_
                                refine awp_region_lit fun L45 hL45 => ?_
                                refine aops_orunN 2 _ _ ?_
                                simp only [q0, kz, kv, rwR, enR, csR, tyf, Nat.reduceBEq, reduceIte, Nat.reduceEqDiff, Nat.reduceAdd, Nat.reduceLeDiff, reduceCtorEq, Nat.reduceMul, Int.reduceToNat, Nat.reduceShiftRight, Nat.reduceMod, Nat.reducePow, Nat.reduceOr, Nat.reduceAnd, hb7, hb12, s24t4, s24t5, s24t26, s24m3, s24z7, s24f0, s24f3, s24f24, s24f25, hb28, hb36, hb39, hb43, hb44]
                                try simp (disch := omega) only [wr_id]
                                refine aops_nil (hL45 _ ?_)
                                simp only [q0, kz, kv, rwR, enR, csR, tyf, Nat.reduceBEq, reduceIte, Nat.reduceEqDiff, Nat.reduceAdd, Nat.reduceLeDiff, reduceCtorEq, Nat.reduceMul, Int.reduceToNat, Nat.reduceShiftRight, Nat.reduceMod, Nat.reducePow, Nat.reduceOr, Nat.reduceAnd, hb7, hb12, s24t4, s24t5, s24t26, s24m3, s24z7, s24f0, s24f3, s24f24, s24f25, hb28, hb36, hb39, hb43, hb44]
                                try simp only [rk_state]
                                refine hK24 _ ((fun (i : Nat) => ps.length - i) (i + 1)) ?_ ⟨i + 1, rfl, ?_, ?_, ?_, ?_, ?_, ?_⟩
                                · (try simp only []); omega
                                · first | omega | simp
                                · (try simp only [q0, kz, kv, rwR, enR, csR, tyf, Nat.reduceBEq, reduceIte, Nat.reduceEqDiff, Nat.reduceAdd, Nat.reduceLeDiff, reduceCtorEq, Nat.reduceMul, Int.reduceToNat, Nat.reduceShiftRight, Nat.reduceMod, Nat.reducePow, Nat.reduceOr, Nat.reduceAnd, hb7, hb12, s24t4, s24t5, s24t26, s24m3, s24z7, s24f0, s24f3, s24f24, s24f25, hb28, hb36, hb39, hb43, hb44])
                                  all_goals first | done | (rw [leastAt_next (by omega)]; simp_all)
                                · (try simp only [q0, kz, kv, rwR, enR, csR, tyf, Nat.reduceBEq, reduceIte, Nat.reduceEqDiff, Nat.reduceAdd, Nat.reduceLeDiff, reduceCtorEq, Nat.reduceMul, Int.reduceToNat, Nat.reduceShiftRight, Nat.reduceMod, Nat.reducePow, Nat.reduceOr, Nat.reduceAnd, hb7, hb12, s24t4, s24t5, s24t26, s24m3, s24z7, s24f0, s24f3, s24f24, s24f25, hb28, hb36, hb39, hb43, hb44])
                                  all_goals first | done | (rw [mostAt_next (by omega)]; simp_all)
                                · (try simp only [q0, kz, kv, rwR, enR, csR, tyf, Nat.reduceBEq, reduceIte, Nat.reduceEqDiff, Nat.reduceAdd, Nat.reduceLeDiff, reduceCtorEq, Nat.reduceMul, Int.reduceToNat, Nat.reduceShiftRight, Nat.reduceMod, Nat.reducePow, Nat.reduceOr, Nat.reduceAnd, hb7, hb12, s24t4, s24t5, s24t26, s24m3, s24z7, s24f0, s24f3, s24f24, s24f25, hb28, hb36, hb39, hb43, hb44])
                                  all_goals (first | done | rfl | (simp only [AV.c.injEq, C.int.injEq, List.cons.injEq, and_true, true_and]; omega))
                                · (try simp only [q0, kz, kv, rwR, enR, csR, tyf, Nat.reduceBEq, reduceIte, Nat.reduceEqDiff, Nat.reduceAdd, Nat.reduceLeDiff, reduceCtorEq, Nat.reduceMul, Int.reduceToNat, Nat.reduceShiftRight, Nat.reduceMod, Nat.reducePow, Nat.reduceOr, Nat.reduceAnd, hb7, hb12, s24t4, s24t5, s24t26, s24m3, s24z7, s24f0, s24f3, s24f24, s24f25, hb28, hb36, hb39, hb43, hb44])
                                  all_goals (first | done | rfl | (simp only [AV.c.injEq, C.int.injEq, List.cons.injEq, and_true, true_and]; omega))
                                · (try simp only [q0, kz, kv, rwR, enR, csR, tyf, Nat.reduceBEq, reduceIte, Nat.reduceEqDiff, Nat.reduceAdd, Nat.reduceLeDiff, reduceCtorEq, Nat.reduceMul, Int.reduceToNat, Nat.reduceShiftRight, Nat.reduceMod, Nat.reducePow, Nat.reduceOr, Nat.reduceAnd, hb7, hb12, s24t4, s24t5, s24t26, s24m3, s24z7, s24f0, s24f3, s24f24, s24f25, hb28, hb36, hb39, hb43, hb44])
                                  all_goals (first | done | rfl | (simp only [AV.c.injEq, C.int.injEq, List.cons.injEq, and_true, true_and]; omega))
                            case b44 =>
                              have hp44 := hb44
                              try simp only [kb] at hp44
                              all_goals try exact absurd hb44 (by decide)
                              all_goals try (exfalso; omega)
                              all_goals
                                try simp only [hb44]
                                refine aops_orunN 8 _ _ ?_
                                simp only [q0, kz, kv, rwR, enR, csR, tyf, Nat.reduceBEq, reduceIte, Nat.reduceEqDiff, Nat.reduceAdd, Nat.reduceLeDiff, reduceCtorEq, Nat.reduceMul, Int.reduceToNat, Nat.reduceShiftRight, Nat.reduceMod, Nat.reducePow, Nat.reduceOr, Nat.reduceAnd, hb7, hb12, s24t4, s24t5, s24t26, s24m3, s24z7, s24f0, s24f3, s24f24, s24f25, hb28, hb36, hb39, hb43, hb44]
                                try simp (disch := omega) only [dec_t, dec_f, beq_t, beq_f, bne_t, bne_f]
                                try simp only [q0, kz, kv, rwR, enR, csR, tyf, Nat.reduceBEq, reduceIte, Nat.reduceEqDiff, Nat.reduceAdd, Nat.reduceLeDiff, reduceCtorEq, Nat.reduceMul, Int.reduceToNat, Nat.reduceShiftRight, Nat.reduceMod, Nat.reducePow, Nat.reduceOr, Nat.reduceAnd, hb7, hb12, s24t4, s24t5, s24t26, s24m3, s24z7, s24f0, s24f3, s24f24, s24f25, hb28, hb36, hb39, hb43, hb44]
                                refine aops_nil (hL42 _ ?_)
                                simp only [q0, kz, kv, rwR, enR, csR, tyf, Nat.reduceBEq, reduceIte, Nat.reduceEqDiff, Nat.reduceAdd, Nat.reduceLeDiff, reduceCtorEq, Nat.reduceMul, Int.reduceToNat, Nat.reduceShiftRight, Nat.reduceMod, Nat.reducePow, Nat.reduceOr, Nat.reduceAnd, hb7, hb12, s24t4, s24t5, s24t26, s24m3, s24z7, s24f0, s24f3, s24f24, s24f25, hb28, hb36, hb39, hb43, hb44]
                                try simp only [rk_state]
                                try simp only [rk_state]
                                refine hK29 _ ?_
                                refine awp_region_lit fun L46 hL46 => ?_
                                refine aops_orunN 2 _ _ ?_
                                simp only [q0, kz, kv, rwR, enR, csR, tyf, Nat.reduceBEq, reduceIte, Nat.reduceEqDiff, Nat.reduceAdd, Nat.reduceLeDiff, reduceCtorEq, Nat.reduceMul, Int.reduceToNat, Nat.reduceShiftRight, Nat.reduceMod, Nat.reducePow, Nat.reduceOr, Nat.reduceAnd, hb7, hb12, s24t4, s24t5, s24t26, s24m3, s24z7, s24f0, s24f3, s24f24, s24f25, hb28, hb36, hb39, hb43, hb44]
                                try simp (disch := omega) only [wr_id]
                                refine aops_nil (hL46 _ ?_)
                                simp only [q0, kz, kv, rwR, enR, csR, tyf, Nat.reduceBEq, reduceIte, Nat.reduceEqDiff, Nat.reduceAdd, Nat.reduceLeDiff, reduceCtorEq, Nat.reduceMul, Int.reduceToNat, Nat.reduceShiftRight, Nat.reduceMod, Nat.reducePow, Nat.reduceOr, Nat.reduceAnd, hb7, hb12, s24t4, s24t5, s24t26, s24m3, s24z7, s24f0, s24f3, s24f24, s24f25, hb28, hb36, hb39, hb43, hb44]
                                try simp only [rk_state]
                                refine hK24 _ ((fun (i : Nat) => ps.length - i) (i + 1)) ?_ ⟨i + 1, rfl, ?_, ?_, ?_, ?_, ?_, ?_⟩
                                · (try simp only []); omega
                                · first | omega | simp
                                · (try simp only [q0, kz, kv, rwR, enR, csR, tyf, Nat.reduceBEq, reduceIte, Nat.reduceEqDiff, Nat.reduceAdd, Nat.reduceLeDiff, reduceCtorEq, Nat.reduceMul, Int.reduceToNat, Nat.reduceShiftRight, Nat.reduceMod, Nat.reducePow, Nat.reduceOr, Nat.reduceAnd, hb7, hb12, s24t4, s24t5, s24t26, s24m3, s24z7, s24f0, s24f3, s24f24, s24f25, hb28, hb36, hb39, hb43, hb44])
                                  all_goals first | done | (rw [leastAt_next (by omega)]; simp_all)
                                · (try simp only [q0, kz, kv, rwR, enR, csR, tyf, Nat.reduceBEq, reduceIte, Nat.reduceEqDiff, Nat.reduceAdd, Nat.reduceLeDiff, reduceCtorEq, Nat.reduceMul, Int.reduceToNat, Nat.reduceShiftRight, Nat.reduceMod, Nat.reducePow, Nat.reduceOr, Nat.reduceAnd, hb7, hb12, s24t4, s24t5, s24t26, s24m3, s24z7, s24f0, s24f3, s24f24, s24f25, hb28, hb36, hb39, hb43, hb44])
                                  all_goals first | done | (rw [mostAt_next (by omega)]; simp_all)
                                · (try simp only [q0, kz, kv, rwR, enR, csR, tyf, Nat.reduceBEq, reduceIte, Nat.reduceEqDiff, Nat.reduceAdd, Nat.reduceLeDiff, reduceCtorEq, Nat.reduceMul, Int.reduceToNat, Nat.reduceShiftRight, Nat.reduceMod, Nat.reducePow, Nat.reduceOr, Nat.reduceAnd, hb7, hb12, s24t4, s24t5, s24t26, s24m3, s24z7, s24f0, s24f3, s24f24, s24f25, hb28, hb36, hb39, hb43, hb44])
                                  all_goals (first | done | rfl | (simp only [AV.c.injEq, C.int.injEq, List.cons.injEq, and_true, true_and]; omega))
                                · (try simp only [q0, kz, kv, rwR, enR, csR, tyf, Nat.reduceBEq, reduceIte, Nat.reduceEqDiff, Nat.reduceAdd, Nat.reduceLeDiff, reduceCtorEq, Nat.reduceMul, Int.reduceToNat, Nat.reduceShiftRight, Nat.reduceMod, Nat.reducePow, Nat.reduceOr, Nat.reduceAnd, hb7, hb12, s24t4, s24t5, s24t26, s24m3, s24z7, s24f0, s24f3, s24f24, s24f25, hb28, hb36, hb39, hb43, hb44])
                                  all_goals (first | done | rfl | (simp only [AV.c.injEq, C.int.injEq, List.cons.injEq, and_true, true_and]; omega))
                                · (try simp only [q0, kz, kv, rwR, enR, csR, tyf, Nat.reduceBEq, reduceIte, Nat.reduceEqDiff, Nat.reduceAdd, Nat.reduceLeDiff, reduceCtorEq, Nat.reduceMul, Int.reduceToNat, Nat.reduceShiftRight, Nat.reduceMod, Nat.reducePow, Nat.reduceOr, Nat.reduceAnd, hb7, hb12, s24t4, s24t5, s24t26, s24m3, s24z7, s24f0, s24f3, s24f24, s24f25, hb28, hb36, hb39, hb43, hb44])
                                  all_goals (first | done | rfl | (simp only [AV.c.injEq, C.int.injEq, List.cons.injEq, and_true, true_and]; omega))
                        case b43 =>
                          have hp43 := hb43
                          try simp only [kb] at hp43
                          all_goals try exact absurd hb43 (by decide)
                          all_goals try (exfalso; omega)
                          all_goals
                            try simp only [hb43]
                            refine aops_orunN 8 _ _ ?_
                            simp only [q0, kz, kv, rwR, enR, csR, tyf, Nat.reduceBEq, reduceIte, Nat.reduceEqDiff, Nat.reduceAdd, Nat.reduceLeDiff, reduceCtorEq, Nat.reduceMul, Int.reduceToNat, Nat.reduceShiftRight, Nat.reduceMod, Nat.reducePow, Nat.reduceOr, Nat.reduceAnd, hb7, hb12, s24t4, s24t5, s24t26, s24m3, s24z7, s24f0, s24f3, s24f24, s24f25, hb28, hb36, hb39, hb43]
                            try simp (disch := omega) only [dec_t, dec_f, beq_t, beq_f, bne_t, bne_f]
                            try simp only [q0, kz, kv, rwR, enR, csR, tyf, Nat.reduceBEq, reduceIte, Nat.reduceEqDiff, Nat.reduceAdd, Nat.reduceLeDiff, reduceCtorEq, Nat.reduceMul, Int.reduceToNat, Nat.reduceShiftRight, Nat.reduceMod, Nat.reducePow, Nat.reduceOr, Nat.reduceAnd, hb7, hb12, s24t4, s24t5, s24t26, s24m3, s24z7, s24f0, s24f3, s24f24, s24f25, hb28, hb36, hb39, hb43]
                            refine aops_part (b := ?p47) 51 ?h47 (fun hb47 => ?a47) (fun hb47 => ?b47)
                            case h47 => simp only [q0, kz, kv, rwR, enR, csR, tyf, Nat.reduceBEq, reduceIte, Nat.reduceEqDiff, Nat.reduceAdd, Nat.reduceLeDiff, reduceCtorEq, Nat.reduceMul, Int.reduceToNat, Nat.reduceShiftRight, Nat.reduceMod, Nat.reducePow, Nat.reduceOr, Nat.reduceAnd, hb7, hb12, s24t4, s24t5, s24t26, s24m3, s24z7, s24f0, s24f3, s24f24, s24f25, hb28, hb36, hb39, hb43]; rfl
                            case a47 =>
                              have hp47 := hb47
                              try simp only [kb] at hp47
                              all_goals try exact absurd hb47 (by decide)
                              all_goals try (exfalso; omega)
                              all_goals
                                try simp only [hb47]
                                refine aops_orunN 8 _ _ ?_
                                simp only [q0, kz, kv, rwR, enR, csR, tyf, Nat.reduceBEq, reduceIte, Nat.reduceEqDiff, Nat.reduceAdd, Nat.reduceLeDiff, reduceCtorEq, Nat.reduceMul, Int.reduceToNat, Nat.reduceShiftRight, Nat.reduceMod, Nat.reducePow, Nat.reduceOr, Nat.reduceAnd, hb7, hb12, s24t4, s24t5, s24t26, s24m3, s24z7, s24f0, s24f3, s24f24, s24f25, hb28, hb36, hb39, hb43, hb47]
                                try simp (disch := omega) only [dec_t, dec_f, beq_t, beq_f, bne_t, bne_f]
                                try simp only [q0, kz, kv, rwR, enR, csR, tyf, Nat.reduceBEq, reduceIte, Nat.reduceEqDiff, Nat.reduceAdd, Nat.reduceLeDiff, reduceCtorEq, Nat.reduceMul, Int.reduceToNat, Nat.reduceShiftRight, Nat.reduceMod, Nat.reducePow, Nat.reduceOr, Nat.reduceAnd, hb7, hb12, s24t4, s24t5, s24t26, s24m3, s24z7, s24f0, s24f3, s24f24, s24f25, hb28, hb36, hb39, hb43, hb47]
                                refine aops_nil (hL42 _ ?_)
                                simp only [q0, kz, kv, rwR, enR, csR, tyf, Nat.reduceBEq, reduceIte, Nat.reduceEqDiff, Nat.reduceAdd, Nat.reduceLeDiff, reduceCtorEq, Nat.reduceMul, Int.reduceToNat, Nat.reduceShiftRight, Nat.reduceMod, Nat.reducePow, Nat.reduceOr, Nat.reduceAnd, hb7, hb12, s24t4, s24t5, s24t26, s24m3, s24z7, s24f0, s24f3, s24f24, s24f25, hb28, hb36, hb39, hb43, hb47]
                                try simp only [rk_state]
                                try simp only [rk_state]
                                refine hK29 _ ?_
                                refine awp_region_lit fun L48 hL48 => ?_
                                refine aops_orunN 2 _ _ ?_
                                simp only [q0, kz, kv, rwR, enR, csR, tyf, Nat.reduceBEq, reduceIte, Nat.reduceEqDiff, Nat.reduceAdd, Nat.reduceLeDiff, reduceCtorEq, Nat.reduceMul, Int.reduceToNat, Nat.reduceShiftRight, Nat.reduceMod, Nat.reducePow, Nat.reduceOr, Nat.reduceAnd, hb7, hb12, s24t4, s24t5, s24t26, s24m3, s24z7, s24f0, s24f3, s24f24, s24f25, hb28, hb36, hb39, hb43, hb47]
                                try simp (disch := omega) only [wr_id]
                                refine aops_nil (hL48 _ ?_)
                                simp only [q0, kz, kv, rwR, enR, csR, tyf, Nat.reduceBEq, reduceIte, Nat.reduceEqDiff, Nat.reduceAdd, Nat.reduceLeDiff, reduceCtorEq, Nat.reduceMul, Int.reduceToNat, Nat.reduceShiftRight, Nat.reduceMod, Nat.reducePow, Nat.reduceOr, Nat.reduceAnd, hb7, hb12, s24t4, s24t5, s24t26, s24m3, s24z7, s24f0, s24f3, s24f24, s24f25, hb28, hb36, hb39, hb43, hb47]
                                try simp only [rk_state]
                                refine hK24 _ ((fun (i : Nat) => ps.length - i) (i + 1)) ?_ ⟨i + 1, rfl, ?_, ?_, ?_, ?_, ?_, ?_⟩
                                · (try simp only []); omega
                                · first | omega | simp
                                · (try simp only [q0, kz, kv, rwR, enR, csR, tyf, Nat.reduceBEq, reduceIte, Nat.reduceEqDiff, Nat.reduceAdd, Nat.reduceLeDiff, reduceCtorEq, Nat.reduceMul, Int.reduceToNat, Nat.reduceShiftRight, Nat.reduceMod, Nat.reducePow, Nat.reduceOr, Nat.reduceAnd, hb7, hb12, s24t4, s24t5, s24t26, s24m3, s24z7, s24f0, s24f3, s24f24, s24f25, hb28, hb36, hb39, hb43, hb47])
                                  all_goals first | done | (rw [leastAt_next (by omega)]; simp_all)
                                · (try simp only [q0, kz, kv, rwR, enR, csR, tyf, Nat.reduceBEq, reduceIte, Nat.reduceEqDiff, Nat.reduceAdd, Nat.reduceLeDiff, reduceCtorEq, Nat.reduceMul, Int.reduceToNat, Nat.reduceShiftRight, Nat.reduceMod, Nat.reducePow, Nat.reduceOr, Nat.reduceAnd, hb7, hb12, s24t4, s24t5, s24t26, s24m3, s24z7, s24f0, s24f3, s24f24, s24f25, hb28, hb36, hb39, hb43, hb47])
                                  all_goals first | done | (rw [mostAt_next (by omega)]; simp_all)
                                · (try simp only [q0, kz, kv, rwR, enR, csR, tyf, Nat.reduceBEq, reduceIte, Nat.reduceEqDiff, Nat.reduceAdd, Nat.reduceLeDiff, reduceCtorEq, Nat.reduceMul, Int.reduceToNat, Nat.reduceShiftRight, Nat.reduceMod, Nat.reducePow, Nat.reduceOr, Nat.reduceAnd, hb7, hb12, s24t4, s24t5, s24t26, s24m3, s24z7, s24f0, s24f3, s24f24, s24f25, hb28, hb36, hb39, hb43, hb47])
                                  all_goals (first | done | rfl | (simp only [AV.c.injEq, C.int.injEq, List.cons.injEq, and_true, true_and]; omega))
                                · (try simp only [q0, kz, kv, rwR, enR, csR, tyf, Nat.reduceBEq, reduceIte, Nat.reduceEqDiff, Nat.reduceAdd, Nat.reduceLeDiff, reduceCtorEq, Nat.reduceMul, Int.reduceToNat, Nat.reduceShiftRight, Nat.reduceMod, Nat.reducePow, Nat.reduceOr, Nat.reduceAnd, hb7, hb12, s24t4, s24t5, s24t26, s24m3, s24z7, s24f0, s24f3, s24f24, s24f25, hb28, hb36, hb39, hb43, hb47])
                                  all_goals (first | done | rfl | (simp only [AV.c.injEq, C.int.injEq, List.cons.injEq, and_true, true_and]; omega))
                                · (try simp only [q0, kz, kv, rwR, enR, csR, tyf, Nat.reduceBEq, reduceIte, Nat.reduceEqDiff, Nat.reduceAdd, Nat.reduceLeDiff, reduceCtorEq, Nat.reduceMul, Int.reduceToNat, Nat.reduceShiftRight, Nat.reduceMod, Nat.reducePow, Nat.reduceOr, Nat.reduceAnd, hb7, hb12, s24t4, s24t5, s24t26, s24m3, s24z7, s24f0, s24f3, s24f24, s24f25, hb28, hb36, hb39, hb43, hb47])
                                  all_goals (first | done | rfl | (simp only [AV.c.injEq, C.int.injEq, List.cons.injEq, and_true, true_and]; omega))
                            case b47 =>
                              have hp47 := hb47
                              try simp only [kb] at hp47
                              all_goals try exact absurd hb47 (by decide)
                              all_goals try (exfalso; omega)
                              all_goals
                                try simp only [hb47]
                                refine aops_orunN 8 _ _ ?_
                                simp only [q0, kz, kv, rwR, enR, csR, tyf, Nat.reduceBEq, reduceIte, Nat.reduceEqDiff, Nat.reduceAdd, Nat.reduceLeDiff, reduceCtorEq, Nat.reduceMul, Int.reduceToNat, Nat.reduceShiftRight, Nat.reduceMod, Nat.reducePow, Nat.reduceOr, Nat.reduceAnd, hb7, hb12, s24t4, s24t5, s24t26, s24m3, s24z7, s24f0, s24f3, s24f24, s24f25, hb28, hb36, hb39, hb43, hb47]
                                try simp (disch := omega) only [dec_t, dec_f, beq_t, beq_f, bne_t, bne_f]
                                try simp only [q0, kz, kv, rwR, enR, csR, tyf, Nat.reduceBEq, reduceIte, Nat.reduceEqDiff, Nat.reduceAdd, Nat.reduceLeDiff, reduceCtorEq, Nat.reduceMul, Int.reduceToNat, Nat.reduceShiftRight, Nat.reduceMod, Nat.reducePow, Nat.reduceOr, Nat.reduceAnd, hb7, hb12, s24t4, s24t5, s24t26, s24m3, s24z7, s24f0, s24f3, s24f24, s24f25, hb28, hb36, hb39, hb43, hb47]
                                refine aops_nil (hL42 _ ?_)
                                simp only [q0, kz, kv, rwR, enR, csR, tyf, Nat.reduceBEq, reduceIte, Nat.reduceEqDiff, Nat.reduceAdd, Nat.reduceLeDiff, reduceCtorEq, Nat.reduceMul, Int.reduceToNat, Nat.reduceShiftRight, Nat.reduceMod, Nat.reducePow, Nat.reduceOr, Nat.reduceAnd, hb7, hb12, s24t4, s24t5, s24t26, s24m3, s24z7, s24f0, s24f3, s24f24, s24f25, hb28, hb36, hb39, hb43, hb47]
                                try simp only [rk_state]
                                try simp only [rk_state]
                                refine hK29 _ ?_
                                refine awp_region_lit fun L49 hL49 => ?_
                                refine aops_orunN 2 _ _ ?_
                                simp only [q0, kz, kv, rwR, enR, csR, tyf, Nat.reduceBEq, reduceIte, Nat.reduceEqDiff, Nat.reduceAdd, Nat.reduceLeDiff, reduceCtorEq, Nat.reduceMul, Int.reduceToNat, Nat.reduceShiftRight, Nat.reduceMod, Nat.reducePow, Nat.reduceOr, Nat.reduceAnd, hb7, hb12, s24t4, s24t5, s24t26, s24m3, s24z7, s24f0, s24f3, s24f24, s24f25, hb28, hb36, hb39, hb43, hb47]
                                try simp (disch := omega) only [wr_id]
                                refine aops_nil (hL49 _ ?_)
                                simp only [q0, kz, kv, rwR, enR, csR, tyf, Nat.reduceBEq, reduceIte, Nat.reduceEqDiff, Nat.reduceAdd, Nat.reduceLeDiff, reduceCtorEq, Nat.reduceMul, Int.reduceToNat, Nat.reduceShiftRight, Nat.reduceMod, Nat.reducePow, Nat.reduceOr, Nat.reduceAnd, hb7, hb12, s24t4, s24t5, s24t26, s24m3, s24z7, s24f0, s24f3, s24f24, s24f25, hb28, hb36, hb39, hb43, hb47]
                                try simp only [rk_state]
                                refine hK24 _ ((fun (i : Nat) => ps.length - i) (i + 1)) ?_ ⟨i + 1, rfl, ?_, ?_, ?_, ?_, ?_, ?_⟩
                                · (try simp only []); omega
                                · first | omega | simp
                                · (try simp only [q0, kz, kv, rwR, enR, csR, tyf, Nat.reduceBEq, reduceIte, Nat.reduceEqDiff, Nat.reduceAdd, Nat.reduceLeDiff, reduceCtorEq, Nat.reduceMul, Int.reduceToNat, Nat.reduceShiftRight, Nat.reduceMod, Nat.reducePow, Nat.reduceOr, Nat.reduceAnd, hb7, hb12, s24t4, s24t5, s24t26, s24m3, s24z7, s24f0, s24f3, s24f24, s24f25, hb28, hb36, hb39, hb43, hb47])
                                  all_goals first | done | (rw [leastAt_next (by omega)]; simp_all)
                                · (try simp only [q0, kz, kv, rwR, enR, csR, tyf, Nat.reduceBEq, reduceIte, Nat.reduceEqDiff, Nat.reduceAdd, Nat.reduceLeDiff, reduceCtorEq, Nat.reduceMul, Int.reduceToNat, Nat.reduceShiftRight, Nat.reduceMod, Nat.reducePow, Nat.reduceOr, Nat.reduceAnd, hb7, hb12, s24t4, s24t5, s24t26, s24m3, s24z7, s24f0, s24f3, s24f24, s24f25, hb28, hb36, hb39, hb43, hb47])
                                  all_goals first | done | (rw [mostAt_next (by omega)]; simp_all)
                                · (try simp only [q0, kz, kv, rwR, enR, csR, tyf, Nat.reduceBEq, reduceIte, Nat.reduceEqDiff, Nat.reduceAdd, Nat.reduceLeDiff, reduceCtorEq, Nat.reduceMul, Int.reduceToNat, Nat.reduceShiftRight, Nat.reduceMod, Nat.reducePow, Nat.reduceOr, Nat.reduceAnd, hb7, hb12, s24t4, s24t5, s24t26, s24m3, s24z7, s24f0, s24f3, s24f24, s24f25, hb28, hb36, hb39, hb43, hb47])
                                  all_goals (first | done | rfl | (simp only [AV.c.injEq, C.int.injEq, List.cons.injEq, and_true, true_and]; omega))
                                · (try simp only [q0, kz, kv, rwR, enR, csR, tyf, Nat.reduceBEq, reduceIte, Nat.reduceEqDiff, Nat.reduceAdd, Nat.reduceLeDiff, reduceCtorEq, Nat.reduceMul, Int.reduceToNat, Nat.reduceShiftRight, Nat.reduceMod, Nat.reducePow, Nat.reduceOr, Nat.reduceAnd, hb7, hb12, s24t4, s24t5, s24t26, s24m3, s24z7, s24f0, s24f3, s24f24, s24f25, hb28, hb36, hb39, hb43, hb47])
                                  all_goals (first | done | rfl | (simp only [AV.c.injEq, C.int.injEq, List.cons.injEq, and_true, true_and]; omega))
                                · (try simp only [q0, kz, kv, rwR, enR, csR, tyf, Nat.reduceBEq, reduceIte, Nat.reduceEqDiff, Nat.reduceAdd, Nat.reduceLeDiff, reduceCtorEq, Nat.reduceMul, Int.reduceToNat, Nat.reduceShiftRight, Nat.reduceMod, Nat.reducePow, Nat.reduceOr, Nat.reduceAnd, hb7, hb12, s24t4, s24t5, s24t26, s24m3, s24z7, s24f0, s24f3, s24f24, s24f25, hb28, hb36, hb39, hb43, hb47])
                                  all_goals (first | done | rfl | (simp only [AV.c.injEq, C.int.injEq, List.cons.injEq, and_true, true_and]; omega))
            case b28 =>
              have hp28 := hb28
              try simp only [kb] at hp28
              all_goals try exact absurd hb28 (by decide)
              all_goals try (exfalso; omega)
              all_goals
                refine awp_exit ?_
                simp only [rk_state, reduceIte, Nat.reduceEqDiff]
                try simp only [rk_state]
                refine hK21 _ ?_
                refine awp_seq_k fun K50 hK50 => ?_
                have ei : i = ps.length := by omega
                subst ei
                have sl := (leastAt_all hck).1
                have sm := (leastAt_all hck).2
                have sx := decide_eq_true (sum_mul hck).1
                have sy := decide_eq_true (sum_mul hck).2
                have hbn := hB.n
                refine awp_region_lit fun L51 hL51 => ?_
                refine aops_orunN 2 _ _ ?_
                simp only [q0, kz, kv, rwR, enR, csR, tyf, Nat.reduceBEq, reduceIte, Nat.reduceEqDiff, Nat.reduceAdd, Nat.reduceLeDiff, reduceCtorEq, Nat.reduceMul, Int.reduceToNat, Nat.reduceShiftRight, Nat.reduceMod, Nat.reducePow, Nat.reduceOr, Nat.reduceAnd, hb7, hb12, s24t4, s24t5, s24t26, s24m3, s24z7, s24f0, s24f3, s24f24, s24f25, hb28, sl, sm, sx, sy]
                refine aops_part (b := ?p52) 60 ?h52 (fun hb52 => ?a52) (fun hb52 => ?b52)
                case h52 => simp only [q0, kz, kv, rwR, enR, csR, tyf, Nat.reduceBEq, reduceIte, Nat.reduceEqDiff, Nat.reduceAdd, Nat.reduceLeDiff, reduceCtorEq, Nat.reduceMul, Int.reduceToNat, Nat.reduceShiftRight, Nat.reduceMod, Nat.reducePow, Nat.reduceOr, Nat.reduceAnd, hb7, hb12, s24t4, s24t5, s24t26, s24m3, s24z7, s24f0, s24f3, s24f24, s24f25, hb28, sl, sm, sx, sy]; rfl
                case a52 =>
                  have hp52 := hb52
                  try simp only [kb] at hp52
                  all_goals try exact absurd hb52 (by decide)
                  all_goals try (exfalso; omega)
                  all_goals
                    try simp only [hb52]
                    refine aops_orunN 3 _ _ ?_
                    simp only [q0, kz, kv, rwR, enR, csR, tyf, Nat.reduceBEq, reduceIte, Nat.reduceEqDiff, Nat.reduceAdd, Nat.reduceLeDiff, reduceCtorEq, Nat.reduceMul, Int.reduceToNat, Nat.reduceShiftRight, Nat.reduceMod, Nat.reducePow, Nat.reduceOr, Nat.reduceAnd, hb7, hb12, s24t4, s24t5, s24t26, s24m3, s24z7, s24f0, s24f3, s24f24, s24f25, hb28, sl, sm, sx, sy, hb52]
                    refine aops_part (b := ?p53) 63 ?h53 (fun hb53 => ?a53) (fun hb53 => ?b53)
                    case h53 => simp only [q0, kz, kv, rwR, enR, csR, tyf, Nat.reduceBEq, reduceIte, Nat.reduceEqDiff, Nat.reduceAdd, Nat.reduceLeDiff, reduceCtorEq, Nat.reduceMul, Int.reduceToNat, Nat.reduceShiftRight, Nat.reduceMod, Nat.reducePow, Nat.reduceOr, Nat.reduceAnd, hb7, hb12, s24t4, s24t5, s24t26, s24m3, s24z7, s24f0, s24f3, s24f24, s24f25, hb28, sl, sm, sx, sy, hb52]; rfl
                    case a53 =>
                      have hp53 := hb53
                      try simp only [kb] at hp53
                      all_goals try exact absurd hb53 (by decide)
                      all_goals try (exfalso; omega)
                      all_goals
                        try simp only [hb53]
                        refine aops_orunN 7 _ _ ?_
                        simp only [q0, kz, kv, rwR, enR, csR, tyf, Nat.reduceBEq, reduceIte, Nat.reduceEqDiff, Nat.reduceAdd, Nat.reduceLeDiff, reduceCtorEq, Nat.reduceMul, Int.reduceToNat, Nat.reduceShiftRight, Nat.reduceMod, Nat.reducePow, Nat.reduceOr, Nat.reduceAnd, hb7, hb12, s24t4, s24t5, s24t26, s24m3, s24z7, s24f0, s24f3, s24f24, s24f25, hb28, sl, sm, sx, sy, hb52, hb53]
                        try simp (disch := omega) only [dec_t, dec_f, beq_t, beq_f, bne_t, bne_f]
                        try simp only [q0, kz, kv, rwR, enR, csR, tyf, Nat.reduceBEq, reduceIte, Nat.reduceEqDiff, Nat.reduceAdd, Nat.reduceLeDiff, reduceCtorEq, Nat.reduceMul, Int.reduceToNat, Nat.reduceShiftRight, Nat.reduceMod, Nat.reducePow, Nat.reduceOr, Nat.reduceAnd, hb7, hb12, s24t4, s24t5, s24t26, s24m3, s24z7, s24f0, s24f3, s24f24, s24f25, hb28, sl, sm, sx, sy, hb52, hb53]
                        refine aops_part (b := ?p54) 70 ?h54 (fun hb54 => ?a54) (fun hb54 => ?b54)
                        case h54 => simp only [q0, kz, kv, rwR, enR, csR, tyf, Nat.reduceBEq, reduceIte, Nat.reduceEqDiff, Nat.reduceAdd, Nat.reduceLeDiff, reduceCtorEq, Nat.reduceMul, Int.reduceToNat, Nat.reduceShiftRight, Nat.reduceMod, Nat.reducePow, Nat.reduceOr, Nat.reduceAnd, hb7, hb12, s24t4, s24t5, s24t26, s24m3, s24z7, s24f0, s24f3, s24f24, s24f25, hb28, sl, sm, sx, sy, hb52, hb53]; rfl
                        case a54 =>
                          have hp54 := hb54
                          try simp only [kb] at hp54
                          all_goals try exact absurd hb54 (by decide)
                          all_goals try (exfalso; omega)
                          all_goals
                            try simp only [hb54]
                            refine aops_orunN 10 _ _ ?_
                            simp only [q0, kz, kv, rwR, enR, csR, tyf, Nat.reduceBEq, reduceIte, Nat.reduceEqDiff, Nat.reduceAdd, Nat.reduceLeDiff, reduceCtorEq, Nat.reduceMul, Int.reduceToNat, Nat.reduceShiftRight, Nat.reduceMod, Nat.reducePow, Nat.reduceOr, Nat.reduceAnd, hb7, hb12, s24t4, s24t5, s24t26, s24m3, s24z7, s24f0, s24f3, s24f24, s24f25, hb28, sl, sm, sx, sy, hb52, hb53, hb54]
                            try simp (disch := omega) only [wr_id]
                            try simp (disch := omega) only [dec_t, dec_f, beq_t, beq_f, bne_t, bne_f]
                            try simp only [q0, kz, kv, rwR, enR, csR, tyf, Nat.reduceBEq, reduceIte, Nat.reduceEqDiff, Nat.reduceAdd, Nat.reduceLeDiff, reduceCtorEq, Nat.reduceMul, Int.reduceToNat, Nat.reduceShiftRight, Nat.reduceMod, Nat.reducePow, Nat.reduceOr, Nat.reduceAnd, hb7, hb12, s24t4, s24t5, s24t26, s24m3, s24z7, s24f0, s24f3, s24f24, s24f25, hb28, sl, sm, sx, sy, hb52, hb53, hb54]
                            refine aops_part (b := ?p55) 80 ?h55 (fun hb55 => ?a55) (fun hb55 => ?b55)
                            case h55 => simp only [q0, kz, kv, rwR, enR, csR, tyf, Nat.reduceBEq, reduceIte, Nat.reduceEqDiff, Nat.reduceAdd, Nat.reduceLeDiff, reduceCtorEq, Nat.reduceMul, Int.reduceToNat, Nat.reduceShiftRight, Nat.reduceMod, Nat.reducePow, Nat.reduceOr, Nat.reduceAnd, hb7, hb12, s24t4, s24t5, s24t26, s24m3, s24z7, s24f0, s24f3, s24f24, s24f25, hb28, sl, sm, sx, sy, hb52, hb53, hb54]; rfl
                            case a55 =>
                              have hp55 := hb55
                              try simp only [kb] at hp55
                              all_goals try exact absurd hb55 (by decide)
                              all_goals try (exfalso; omega)
                              all_goals
                                try simp only [hb55]
                                refine aops_orunN 10 _ _ ?_
                                simp only [q0, kz, kv, rwR, enR, csR, tyf, Nat.reduceBEq, reduceIte, Nat.reduceEqDiff, Nat.reduceAdd, Nat.reduceLeDiff, reduceCtorEq, Nat.reduceMul, Int.reduceToNat, Nat.reduceShiftRight, Nat.reduceMod, Nat.reducePow, Nat.reduceOr, Nat.reduceAnd, hb7, hb12, s24t4, s24t5, s24t26, s24m3, s24z7, s24f0, s24f3, s24f24, s24f25, hb28, sl, sm, sx, sy, hb52, hb53, hb54, hb55]
                                try simp (disch := omega) only [wr_id]
                                try simp (disch := omega) only [dec_t, dec_f, beq_t, beq_f, bne_t, bne_f]
                                try simp only [q0, kz, kv, rwR, enR, csR, tyf, Nat.reduceBEq, reduceIte, Nat.reduceEqDiff, Nat.reduceAdd, Nat.reduceLeDiff, reduceCtorEq, Nat.reduceMul, Int.reduceToNat, Nat.reduceShiftRight, Nat.reduceMod, Nat.reducePow, Nat.reduceOr, Nat.reduceAnd, hb7, hb12, s24t4, s24t5, s24t26, s24m3, s24z7, s24f0, s24f3, s24f24, s24f25, hb28, sl, sm, sx, sy, hb52, hb53, hb54, hb55]
                                refine aops_nil (hL51 _ ?_)
                                simp only [q0, kz, kv, rwR, enR, csR, tyf, Nat.reduceBEq, reduceIte, Nat.reduceEqDiff, Nat.reduceAdd, Nat.reduceLeDiff, reduceCtorEq, Nat.reduceMul, Int.reduceToNat, Nat.reduceShiftRight, Nat.reduceMod, Nat.reducePow, Nat.reduceOr, Nat.reduceAnd, hb7, hb12, s24t4, s24t5, s24t26, s24m3, s24z7, s24f0, s24f3, s24f24, s24f25, hb28, sl, sm, sx, sy, hb52, hb53, hb54, hb55]
                                try simp only [rk_state]
                                refine hK50 _ ?_
                                refine awp_ret ?_
                                try simp only [rk_state]
                                refine ⟨_, 0, by simp only [q0, kz, kv, rwR, enR, csR, tyf, Nat.reduceBEq, reduceIte, Nat.reduceEqDiff, Nat.reduceAdd, Nat.reduceLeDiff, reduceCtorEq, Nat.reduceMul, Int.reduceToNat, Nat.reduceShiftRight, Nat.reduceMod, Nat.reducePow, Nat.reduceOr, Nat.reduceAnd, resA, Try.results5, hb7, hb12, s24t4, s24t5, s24t26, s24m3, s24z7, s24f0, s24f3, s24f24, s24f25, hb28, sl, sm, sx, sy, hb52, hb53, hb54, hb55]; rfl, ?_, fun l hl => absurd rfl hl⟩
                                simp only [packA]
                                (repeat' (first | exact .nil | exact wkR_c | exact wkR_own | exact wkR_nils | refine wkR_int ?_ | refine wkR_bool ?_ | refine wkR_sl ?_ | refine wkR_osl ?_ | refine wkR_nsl ?_ | refine wkR_oo ?_ | refine wkR_no ?_ | refine .cons ?_ ?_ | refine wkR_agg ?_ | refine wkR_tup ?_))
                            case b55 =>
                              have hp55 := hb55
                              try simp only [kb] at hp55
                              all_goals try exact absurd hb55 (by decide)
                              all_goals try (exfalso; omega)
                              all_goals
                                try simp only [hb55]
                                refine aops_orunN 10 _ _ ?_
                                simp only [q0, kz, kv, rwR, enR, csR, tyf, Nat.reduceBEq, reduceIte, Nat.reduceEqDiff, Nat.reduceAdd, Nat.reduceLeDiff, reduceCtorEq, Nat.reduceMul, Int.reduceToNat, Nat.reduceShiftRight, Nat.reduceMod, Nat.reducePow, Nat.reduceOr, Nat.reduceAnd, hb7, hb12, s24t4, s24t5, s24t26, s24m3, s24z7, s24f0, s24f3, s24f24, s24f25, hb28, sl, sm, sx, sy, hb52, hb53, hb54, hb55]
                                try simp (disch := omega) only [wr_id]
                                try simp (disch := omega) only [dec_t, dec_f, beq_t, beq_f, bne_t, bne_f]
                                try simp only [q0, kz, kv, rwR, enR, csR, tyf, Nat.reduceBEq, reduceIte, Nat.reduceEqDiff, Nat.reduceAdd, Nat.reduceLeDiff, reduceCtorEq, Nat.reduceMul, Int.reduceToNat, Nat.reduceShiftRight, Nat.reduceMod, Nat.reducePow, Nat.reduceOr, Nat.reduceAnd, hb7, hb12, s24t4, s24t5, s24t26, s24m3, s24z7, s24f0, s24f3, s24f24, s24f25, hb28, sl, sm, sx, sy, hb52, hb53, hb54, hb55]
                                refine aops_nil (hL51 _ ?_)
                                simp only [q0, kz, kv, rwR, enR, csR, tyf, Nat.reduceBEq, reduceIte, Nat.reduceEqDiff, Nat.reduceAdd, Nat.reduceLeDiff, reduceCtorEq, Nat.reduceMul, Int.reduceToNat, Nat.reduceShiftRight, Nat.reduceMod, Nat.reducePow, Nat.reduceOr, Nat.reduceAnd, hb7, hb12, s24t4, s24t5, s24t26, s24m3, s24z7, s24f0, s24f3, s24f24, s24f25, hb28, sl, sm, sx, sy, hb52, hb53, hb54, hb55]
                                try simp only [rk_state]
                                refine hK50 _ ?_
                                refine awp_ret ?_
                                try simp only [rk_state]
                                refine ⟨_, 0, by simp only [q0, kz, kv, rwR, enR, csR, tyf, Nat.reduceBEq, reduceIte, Nat.reduceEqDiff, Nat.reduceAdd, Nat.reduceLeDiff, reduceCtorEq, Nat.reduceMul, Int.reduceToNat, Nat.reduceShiftRight, Nat.reduceMod, Nat.reducePow, Nat.reduceOr, Nat.reduceAnd, resA, Try.results5, hb7, hb12, s24t4, s24t5, s24t26, s24m3, s24z7, s24f0, s24f3, s24f24, s24f25, hb28, sl, sm, sx, sy, hb52, hb53, hb54, hb55]; rfl, ?_, fun l hl => absurd rfl hl⟩
                                simp only [packA]
                                (repeat' (first | exact .nil | exact wkR_c | exact wkR_own | exact wkR_nils | refine wkR_int ?_ | refine wkR_bool ?_ | refine wkR_sl ?_ | refine wkR_osl ?_ | refine wkR_nsl ?_ | refine wkR_oo ?_ | refine wkR_no ?_ | refine .cons ?_ ?_ | refine wkR_agg ?_ | refine wkR_tup ?_))
                        case b54 =>
                          have hp54 := hb54
                          try simp only [kb] at hp54
                          all_goals try exact absurd hb54 (by decide)
                          all_goals try (exfalso; omega)
                          all_goals
                            try simp only [hb54]
                            refine aops_orunN 20 _ _ ?_
                            simp only [q0, kz, kv, rwR, enR, csR, tyf, Nat.reduceBEq, reduceIte, Nat.reduceEqDiff, Nat.reduceAdd, Nat.reduceLeDiff, reduceCtorEq, Nat.reduceMul, Int.reduceToNat, Nat.reduceShiftRight, Nat.reduceMod, Nat.reducePow, Nat.reduceOr, Nat.reduceAnd, hb7, hb12, s24t4, s24t5, s24t26, s24m3, s24z7, s24f0, s24f3, s24f24, s24f25, hb28, sl, sm, sx, sy, hb52, hb53, hb54]
                            try simp (disch := omega) only [wr_id]
                            try simp (disch := omega) only [dec_t, dec_f, beq_t, beq_f, bne_t, bne_f]
                            try simp only [q0, kz, kv, rwR, enR, csR, tyf, Nat.reduceBEq, reduceIte, Nat.reduceEqDiff, Nat.reduceAdd, Nat.reduceLeDiff, reduceCtorEq, Nat.reduceMul, Int.reduceToNat, Nat.reduceShiftRight, Nat.reduceMod, Nat.reducePow, Nat.reduceOr, Nat.reduceAnd, hb7, hb12, s24t4, s24t5, s24t26, s24m3, s24z7, s24f0, s24f3, s24f24, s24f25, hb28, sl, sm, sx, sy, hb52, hb53, hb54]
                            refine aops_nil (hL51 _ ?_)
                            simp only [q0, kz, kv, rwR, enR, csR, tyf, Nat.reduceBEq, reduceIte, Nat.reduceEqDiff, Nat.reduceAdd, Nat.reduceLeDiff, reduceCtorEq, Nat.reduceMul, Int.reduceToNat, Nat.reduceShiftRight, Nat.reduceMod, Nat.reducePow, Nat.reduceOr, Nat.reduceAnd, hb7, hb12, s24t4, s24t5, s24t26, s24m3, s24z7, s24f0, s24f3, s24f24, s24f25, hb28, sl, sm, sx, sy, hb52, hb53, hb54]
                            try simp only [rk_state]
                            refine hK50 _ ?_
                            refine awp_ret ?_
                            try simp only [rk_state]
                            refine ⟨_, 0, by simp only [q0, kz, kv, rwR, enR, csR, tyf, Nat.reduceBEq, reduceIte, Nat.reduceEqDiff, Nat.reduceAdd, Nat.reduceLeDiff, reduceCtorEq, Nat.reduceMul, Int.reduceToNat, Nat.reduceShiftRight, Nat.reduceMod, Nat.reducePow, Nat.reduceOr, Nat.reduceAnd, resA, Try.results5, hb7, hb12, s24t4, s24t5, s24t26, s24m3, s24z7, s24f0, s24f3, s24f24, s24f25, hb28, sl, sm, sx, sy, hb52, hb53, hb54]; rfl, ?_, fun l hl => absurd rfl hl⟩
                            simp only [packA]
                            (repeat' (first | exact .nil | exact wkR_c | exact wkR_own | exact wkR_nils | refine wkR_int ?_ | refine wkR_bool ?_ | refine wkR_sl ?_ | refine wkR_osl ?_ | refine wkR_nsl ?_ | refine wkR_oo ?_ | refine wkR_no ?_ | refine .cons ?_ ?_ | refine wkR_agg ?_ | refine wkR_tup ?_))
                    case b53 =>
                      have hp53 := hb53
                      try simp only [kb] at hp53
                      all_goals try exact absurd hb53 (by decide)
                      all_goals try (exfalso; omega)
                      all_goals
                        try simp only [hb53]
                        refine aops_orunN 27 _ _ ?_
                        simp only [q0, kz, kv, rwR, enR, csR, tyf, Nat.reduceBEq, reduceIte, Nat.reduceEqDiff, Nat.reduceAdd, Nat.reduceLeDiff, reduceCtorEq, Nat.reduceMul, Int.reduceToNat, Nat.reduceShiftRight, Nat.reduceMod, Nat.reducePow, Nat.reduceOr, Nat.reduceAnd, hb7, hb12, s24t4, s24t5, s24t26, s24m3, s24z7, s24f0, s24f3, s24f24, s24f25, hb28, sl, sm, sx, sy, hb52, hb53]
                        try simp (disch := omega) only [wr_id]
                        try simp (disch := omega) only [dec_t, dec_f, beq_t, beq_f, bne_t, bne_f]
                        try simp only [q0, kz, kv, rwR, enR, csR, tyf, Nat.reduceBEq, reduceIte, Nat.reduceEqDiff, Nat.reduceAdd, Nat.reduceLeDiff, reduceCtorEq, Nat.reduceMul, Int.reduceToNat, Nat.reduceShiftRight, Nat.reduceMod, Nat.reducePow, Nat.reduceOr, Nat.reduceAnd, hb7, hb12, s24t4, s24t5, s24t26, s24m3, s24z7, s24f0, s24f3, s24f24, s24f25, hb28, sl, sm, sx, sy, hb52, hb53]
                        refine aops_nil (hL51 _ ?_)
                        simp only [q0, kz, kv, rwR, enR, csR, tyf, Nat.reduceBEq, reduceIte, Nat.reduceEqDiff, Nat.reduceAdd, Nat.reduceLeDiff, reduceCtorEq, Nat.reduceMul, Int.reduceToNat, Nat.reduceShiftRight, Nat.reduceMod, Nat.reducePow, Nat.reduceOr, Nat.reduceAnd, hb7, hb12, s24t4, s24t5, s24t26, s24m3, s24z7, s24f0, s24f3, s24f24, s24f25, hb28, sl, sm, sx, sy, hb52, hb53]
                        try simp only [rk_state]
                        refine hK50 _ ?_
                        refine awp_ret ?_
                        try simp only [rk_state]
                        refine ⟨_, 0, by simp only [q0, kz, kv, rwR, enR, csR, tyf, Nat.reduceBEq, reduceIte, Nat.reduceEqDiff, Nat.reduceAdd, Nat.reduceLeDiff, reduceCtorEq, Nat.reduceMul, Int.reduceToNat, Nat.reduceShiftRight, Nat.reduceMod, Nat.reducePow, Nat.reduceOr, Nat.reduceAnd, resA, Try.results5, hb7, hb12, s24t4, s24t5, s24t26, s24m3, s24z7, s24f0, s24f3, s24f24, s24f25, hb28, sl, sm, sx, sy, hb52, hb53]; rfl, ?_, fun l hl => absurd rfl hl⟩
                        simp only [packA]
                        (repeat' (first | exact .nil | exact wkR_c | exact wkR_own | exact wkR_nils | refine wkR_int ?_ | refine wkR_bool ?_ | refine wkR_sl ?_ | refine wkR_osl ?_ | refine wkR_nsl ?_ | refine wkR_oo ?_ | refine wkR_no ?_ | refine .cons ?_ ?_ | refine wkR_agg ?_ | refine wkR_tup ?_))
                case b52 =>
                  have hp52 := hb52
                  try simp only [kb] at hp52
                  all_goals try exact absurd hb52 (by decide)
                  all_goals try (exfalso; omega)
                  all_goals
                    try simp only [hb52]
                    refine aops_orunN 30 _ _ ?_
                    simp only [q0, kz, kv, rwR, enR, csR, tyf, Nat.reduceBEq, reduceIte, Nat.reduceEqDiff, Nat.reduceAdd, Nat.reduceLeDiff, reduceCtorEq, Nat.reduceMul, Int.reduceToNat, Nat.reduceShiftRight, Nat.reduceMod, Nat.reducePow, Nat.reduceOr, Nat.reduceAnd, hb7, hb12, s24t4, s24t5, s24t26, s24m3, s24z7, s24f0, s24f3, s24f24, s24f25, hb28, sl, sm, sx, sy, hb52]
                    try simp (disch := omega) only [wr_id]
                    try simp (disch := omega) only [dec_t, dec_f, beq_t, beq_f, bne_t, bne_f]
                    try simp only [q0, kz, kv, rwR, enR, csR, tyf, Nat.reduceBEq, reduceIte, Nat.reduceEqDiff, Nat.reduceAdd, Nat.reduceLeDiff, reduceCtorEq, Nat.reduceMul, Int.reduceToNat, Nat.reduceShiftRight, Nat.reduceMod, Nat.reducePow, Nat.reduceOr, Nat.reduceAnd, hb7, hb12, s24t4, s24t5, s24t26, s24m3, s24z7, s24f0, s24f3, s24f24, s24f25, hb28, sl, sm, sx, sy, hb52]
                    refine aops_nil (hL51 _ ?_)
                    simp only [q0, kz, kv, rwR, enR, csR, tyf, Nat.reduceBEq, reduceIte, Nat.reduceEqDiff, Nat.reduceAdd, Nat.reduceLeDiff, reduceCtorEq, Nat.reduceMul, Int.reduceToNat, Nat.reduceShiftRight, Nat.reduceMod, Nat.reducePow, Nat.reduceOr, Nat.reduceAnd, hb7, hb12, s24t4, s24t5, s24t26, s24m3, s24z7, s24f0, s24f3, s24f24, s24f25, hb28, sl, sm, sx, sy, hb52]
                    try simp only [rk_state]
                    refine hK50 _ ?_
                    refine awp_ret ?_
                    try simp only [rk_state]
                    refine ⟨_, 0, by simp only [q0, kz, kv, rwR, enR, csR, tyf, Nat.reduceBEq, reduceIte, Nat.reduceEqDiff, Nat.reduceAdd, Nat.reduceLeDiff, reduceCtorEq, Nat.reduceMul, Int.reduceToNat, Nat.reduceShiftRight, Nat.reduceMod, Nat.reducePow, Nat.reduceOr, Nat.reduceAnd, resA, Try.results5, hb7, hb12, s24t4, s24t5, s24t26, s24m3, s24z7, s24f0, s24f3, s24f24, s24f25, hb28, sl, sm, sx, sy, hb52]; rfl, ?_, fun l hl => absurd rfl hl⟩
                    simp only [packA]
                    (repeat' (first | exact .nil | exact wkR_c | exact wkR_own | exact wkR_nils | refine wkR_int ?_ | refine wkR_bool ?_ | refine wkR_sl ?_ | refine wkR_osl ?_ | refine wkR_nsl ?_ | refine wkR_oo ?_ | refine wkR_no ?_ | refine .cons ?_ ?_ | refine wkR_agg ?_ | refine wkR_tup ?_))
end Go.Proofs.Y
