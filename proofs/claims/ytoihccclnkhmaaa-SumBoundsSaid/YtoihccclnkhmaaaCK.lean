/-
  What is proved: when points are some: what line.Check computes. Conditions: none.
-/
import Derived.Test.YtoihccclnkhmaaaTy
import Derived.Test.YtoihccclnkhmaaaP3a
set_option linter.unusedVariables false
set_option linter.unusedSimpArgs false
set_option maxRecDepth 4000
namespace Go.Proofs.Y
open Go.Rb
set_option maxHeartbeats 4000000 in
theorem check_fun (ps : List Pt) : Fun Try.prog 31 [.c (.sl 34 (Rw Pt.cs ps))] nomem (.c (.int .i64 (checkL ps))) nomem := by
  refine fun_of_awp Try.func31 rfl (by decide +kernel) (by decide +kernel) (Nat.le_of_ble_eq_true rfl) (fun _ _ => rfl) ?_
  refine awp_seq_k fun K1 hK1 => ?_
  refine awp_region_lit fun L2 hL2 => ?_
  refine aops_orunN 1 _ _ ?_
  simp only [q0, kz, kv, rwR, enR, csR, tyf, Nat.reduceBEq, reduceIte, Nat.reduceEqDiff, Nat.reduceAdd, Nat.reduceLeDiff, reduceCtorEq, Nat.reduceMul, Int.reduceToNat, Nat.reduceShiftRight, Nat.reduceMod, Nat.reducePow, Nat.reduceOr, Nat.reduceAnd]
  refine aops_nil (hL2 _ ?_)
  simp only [q0, kz, kv, rwR, enR, csR, tyf, Nat.reduceBEq, reduceIte, Nat.reduceEqDiff, Nat.reduceAdd, Nat.reduceLeDiff, reduceCtorEq, Nat.reduceMul, Int.reduceToNat, Nat.reduceShiftRight, Nat.reduceMod, Nat.reducePow, Nat.reduceOr, Nat.reduceAnd]
  try simp only [rk_state]
  refine hK1 _ ?_
  refine awp_seq_k fun K3 hK3 => ?_
  refine awp_seq_k fun K4 hK4 => ?_
  refine awp_region_lit fun L5 hL5 => ?_
  refine aops_orunN 3 _ _ ?_
  simp only [q0, kz, kv, rwR, enR, csR, tyf, Nat.reduceBEq, reduceIte, Nat.reduceEqDiff, Nat.reduceAdd, Nat.reduceLeDiff, reduceCtorEq, Nat.reduceMul, Int.reduceToNat, Nat.reduceShiftRight, Nat.reduceMod, Nat.reducePow, Nat.reduceOr, Nat.reduceAnd]
  refine aops_nil (hL5 _ ?_)
  simp only [q0, kz, kv, rwR, enR, csR, tyf, Nat.reduceBEq, reduceIte, Nat.reduceEqDiff, Nat.reduceAdd, Nat.reduceLeDiff, reduceCtorEq, Nat.reduceMul, Int.reduceToNat, Nat.reduceShiftRight, Nat.reduceMod, Nat.reducePow, Nat.reduceOr, Nat.reduceAnd]
  try simp only [rk_state]
  refine hK4 _ ?_
  refine awp_cond (t := ?t6) ?h6 (fun hb6 => ?a6) (fun hb6 => ?b6)
  case h6 => simp only [q0, kz, kv, rwR, enR, csR, tyf, Nat.reduceBEq, reduceIte, Nat.reduceEqDiff, Nat.reduceAdd, Nat.reduceLeDiff, reduceCtorEq, Nat.reduceMul, Int.reduceToNat, Nat.reduceShiftRight, Nat.reduceMod, Nat.reducePow, Nat.reduceOr, Nat.reduceAnd]; rfl
  case a6 =>
    have hp6 := hb6
    try simp only [kb] at hp6
    all_goals try exact absurd hb6 (by decide)
    all_goals try (exfalso; omega)
    all_goals
      refine awp_seq_k fun K7 hK7 => ?_
      refine awp_region_lit fun L8 hL8 => ?_
      refine aops_orunN 1 _ _ ?_
      simp only [q0, kz, kv, rwR, enR, csR, tyf, Nat.reduceBEq, reduceIte, Nat.reduceEqDiff, Nat.reduceAdd, Nat.reduceLeDiff, reduceCtorEq, Nat.reduceMul, Int.reduceToNat, Nat.reduceShiftRight, Nat.reduceMod, Nat.reducePow, Nat.reduceOr, Nat.reduceAnd, hb6]
      refine aops_nil (hL8 _ ?_)
      simp only [q0, kz, kv, rwR, enR, csR, tyf, Nat.reduceBEq, reduceIte, Nat.reduceEqDiff, Nat.reduceAdd, Nat.reduceLeDiff, reduceCtorEq, Nat.reduceMul, Int.reduceToNat, Nat.reduceShiftRight, Nat.reduceMod, Nat.reducePow, Nat.reduceOr, Nat.reduceAnd, hb6]
      try simp only [rk_state]
      refine hK7 _ ?_
      refine awp_ret ?_
      try simp only [rk_state]
      refine ⟨_, 0, by simp only [q0, kz, kv, rwR, enR, csR, tyf, Nat.reduceBEq, reduceIte, Nat.reduceEqDiff, Nat.reduceAdd, Nat.reduceLeDiff, reduceCtorEq, Nat.reduceMul, Int.reduceToNat, Nat.reduceShiftRight, Nat.reduceMod, Nat.reducePow, Nat.reduceOr, Nat.reduceAnd, resA, Try.results31, hb6]; rfl, ?_, fun l hl => absurd rfl hl⟩
      simp only [packA]
      (repeat' (first | exact .nil | exact wkR_c | exact wkR_own | exact wkR_nils | refine wkR_int ?_ | refine wkR_bool ?_ | refine wkR_sl ?_ | refine wkR_osl ?_ | refine wkR_nsl ?_ | refine wkR_oo ?_ | refine wkR_no ?_ | refine .cons ?_ ?_ | refine wkR_agg ?_ | refine wkR_tup ?_)) <;> (unfold checkL; first | rw [if_pos (by omega)] | (rw [if_neg (by omega), ← hq4_1]; first | (rw [hst, if_pos (by omega)]) | (rw [hst, if_neg (by omega), if_pos (by unfold lastT; rw [if_neg (by omega)]; omega)]) | (rw [List.drop_of_length_le (by omega)]; rfl)))
  case b6 =>
    have hp6 := hb6
    try simp only [kb] at hp6
    all_goals try exact absurd hb6 (by decide)
    all_goals try (exfalso; omega)
    all_goals
      refine awp_skip ?_
      try simp only [rk_state]
      refine hK3 _ ?_
      refine awp_seq_k fun K9 hK9 => ?_
      refine awp_seq_k fun K10 hK10 => ?_
      refine awp_region_lit fun L11 hL11 => ?_
      refine aops_orunN 3 _ _ ?_
      simp only [q0, kz, kv, rwR, enR, csR, tyf, Nat.reduceBEq, reduceIte, Nat.reduceEqDiff, Nat.reduceAdd, Nat.reduceLeDiff, reduceCtorEq, Nat.reduceMul, Int.reduceToNat, Nat.reduceShiftRight, Nat.reduceMod, Nat.reducePow, Nat.reduceOr, Nat.reduceAnd, hb6]
      refine aops_nil (hL11 _ ?_)
      simp only [q0, kz, kv, rwR, enR, csR, tyf, Nat.reduceBEq, reduceIte, Nat.reduceEqDiff, Nat.reduceAdd, Nat.reduceLeDiff, reduceCtorEq, Nat.reduceMul, Int.reduceToNat, Nat.reduceShiftRight, Nat.reduceMod, Nat.reducePow, Nat.reduceOr, Nat.reduceAnd, hb6]
      try simp only [rk_state]
      refine hK10 _ ?_
      refine awp_block ?_
      refine awp_loopW (W := [11, 12, 13, 14, 4, 3, 15, 16, 17, 18, 19, 20, 21, 22, 23, 24, 25, 26, 27, 28, 29, 30, 31, 32, 2, 33, 34, 35, 36, 37, 38, 39, 40, 41, 42, 43, 44, 45, 2, 46, 10]) (M := [4]) rfl rfl (fun k s => ∃ (i : Nat), k = ps.length - i ∧ (i ≤ ps.length) ∧ (chk (lastT ps i) (ps.drop i) = chk (-1) ps) ∧ s.t 10 = .c (.int .i64 (i : Int)) ∧ s.m 4 = []) ((fun (i : Nat) => ps.length - i) (0)) ?i12 ?r12
      case i12 =>
        refine ⟨0, rfl, ?_, ?_, ?_, ?_⟩
        · omega
        · rfl
        · (try simp only [q0, kz, kv, rwR, enR, csR, tyf, Nat.reduceBEq, reduceIte, Nat.reduceEqDiff, Nat.reduceAdd, Nat.reduceLeDiff, reduceCtorEq, Nat.reduceMul, Int.reduceToNat, Nat.reduceShiftRight, Nat.reduceMod, Nat.reducePow, Nat.reduceOr, Nat.reduceAnd, hb6])
          all_goals (first | done | rfl | (simp only [AV.c.injEq, C.int.injEq, List.cons.injEq, and_true, true_and]; omega))
        · (try simp only [q0, kz, kv, rwR, enR, csR, tyf, Nat.reduceBEq, reduceIte, Nat.reduceEqDiff, Nat.reduceAdd, Nat.reduceLeDiff, reduceCtorEq, Nat.reduceMul, Int.reduceToNat, Nat.reduceShiftRight, Nat.reduceMod, Nat.reducePow, Nat.reduceOr, Nat.reduceAnd, hb6])
          all_goals (first | done | rfl | (simp only [AV.c.injEq, C.int.injEq, List.cons.injEq, and_true, true_and]; omega))
      case r12 =>
        rintro k s hf ⟨i, rfl, hq4_0, hq4_1, s12t10, s12z4⟩ K12 hK12
        have s12f0 := hf 0 rfl
        simp only [q0, kz, kv, rwR, enR, csR, tyf, Nat.reduceBEq, reduceIte, Nat.reduceEqDiff, Nat.reduceAdd, Nat.reduceLeDiff, reduceCtorEq, Nat.reduceMul, Int.reduceToNat, Nat.reduceShiftRight, Nat.reduceMod, Nat.reducePow, Nat.reduceOr, Nat.reduceAnd, hb6] at s12f0
        have s12f8 := hf 8 rfl
        simp only [q0, kz, kv, rwR, enR, csR, tyf, Nat.reduceBEq, reduceIte, Nat.reduceEqDiff, Nat.reduceAdd, Nat.reduceLeDiff, reduceCtorEq, Nat.reduceMul, Int.reduceToNat, Nat.reduceShiftRight, Nat.reduceMod, Nat.reducePow, Nat.reduceOr, Nat.reduceAnd, hb6] at s12f8
        have s12f9 := hf 9 rfl
        simp only [q0, kz, kv, rwR, enR, csR, tyf, Nat.reduceBEq, reduceIte, Nat.reduceEqDiff, Nat.reduceAdd, Nat.reduceLeDiff, reduceCtorEq, Nat.reduceMul, Int.reduceToNat, Nat.reduceShiftRight, Nat.reduceMod, Nat.reducePow, Nat.reduceOr, Nat.reduceAnd, hb6] at s12f9
        clear hf
        refine awp_seq_k fun K13 hK13 => ?_
        refine awp_region_lit fun L14 hL14 => ?_
        refine aops_orunN 1 _ _ ?_
        simp only [q0, kz, kv, rwR, enR, csR, tyf, Nat.reduceBEq, reduceIte, Nat.reduceEqDiff, Nat.reduceAdd, Nat.reduceLeDiff, reduceCtorEq, Nat.reduceMul, Int.reduceToNat, Nat.reduceShiftRight, Nat.reduceMod, Nat.reducePow, Nat.reduceOr, Nat.reduceAnd, hb6, s12t10, s12z4, s12f0, s12f8, s12f9]
        refine aops_nil (hL14 _ ?_)
        simp only [q0, kz, kv, rwR, enR, csR, tyf, Nat.reduceBEq, reduceIte, Nat.reduceEqDiff, Nat.reduceAdd, Nat.reduceLeDiff, reduceCtorEq, Nat.reduceMul, Int.reduceToNat, Nat.reduceShiftRight, Nat.reduceMod, Nat.reducePow, Nat.reduceOr, Nat.reduceAnd, hb6, s12t10, s12z4, s12f0, s12f8, s12f9]
        try simp only [rk_state]
        refine hK13 _ ?_
        refine awp_seq_k fun K15 hK15 => ?_
        refine awp_cond (t := ?t16) ?h16 (fun hb16 => ?a16) (fun hb16 => ?b16)
        case h16 => simp only [q0, kz, kv, rwR, enR, csR, tyf, Nat.reduceBEq, reduceIte, Nat.reduceEqDiff, Nat.reduceAdd, Nat.reduceLeDiff, reduceCtorEq, Nat.reduceMul, Int.reduceToNat, Nat.reduceShiftRight, Nat.reduceMod, Nat.reducePow, Nat.reduceOr, Nat.reduceAnd, hb6, s12t10, s12z4, s12f0, s12f8, s12f9]; rfl
        case a16 =>
          have hp16 := hb16
          try simp only [kb] at hp16
          all_goals try exact absurd hb16 (by decide)
          all_goals try (exfalso; omega)
          all_goals
            refine awp_skip ?_
            try simp only [rk_state]
            refine hK15 _ ?_
            refine awp_seq_k fun K17 hK17 => ?_
            refine awp_block ?_
            refine awp_seq_k fun K18 hK18 => ?_
            have hst := chk_step (l := ps) (i := i) (by omega)
            refine awp_region_lit fun L19 hL19 => ?_
            refine aops_orunN 1 _ _ ?_
            simp only [q0, kz, kv, rwR, enR, csR, tyf, Nat.reduceBEq, reduceIte, Nat.reduceEqDiff, Nat.reduceAdd, Nat.reduceLeDiff, reduceCtorEq, Nat.reduceMul, Int.reduceToNat, Nat.reduceShiftRight, Nat.reduceMod, Nat.reducePow, Nat.reduceOr, Nat.reduceAnd, hb6, s12t10, s12z4, s12f0, s12f8, s12f9, hb16]
            refine aops_val (v := ?v20) rfl ?h20 ?_
            case h20 => simp only [q0, kz, kv, rwR, enR, csR, tyf, Nat.reduceBEq, reduceIte, Nat.reduceEqDiff, Nat.reduceAdd, Nat.reduceLeDiff, reduceCtorEq, Nat.reduceMul, Int.reduceToNat, Nat.reduceShiftRight, Nat.reduceMod, Nat.reducePow, Nat.reduceOr, Nat.reduceAnd, hb6, s12t10, s12z4, s12f0, s12f8, s12f9, hb16]; first | (rw [idx_c un22 if34] <;> omega) | (rw [idx_o un22 if34] <;> omega)
            simp only [q0, kz, kv, rwR, enR, csR, tyf, Nat.reduceBEq, reduceIte, Nat.reduceEqDiff, Nat.reduceAdd, Nat.reduceLeDiff, reduceCtorEq, Nat.reduceMul, Int.reduceToNat, Nat.reduceShiftRight, Nat.reduceMod, Nat.reducePow, Nat.reduceOr, Nat.reduceAnd, hb6, s12t10, s12z4, s12f0, s12f8, s12f9, hb16]
            refine aops_orunN 4 _ _ ?_
            simp only [q0, kz, kv, rwR, enR, csR, tyf, Nat.reduceBEq, reduceIte, Nat.reduceEqDiff, Nat.reduceAdd, Nat.reduceLeDiff, reduceCtorEq, Nat.reduceMul, Int.reduceToNat, Nat.reduceShiftRight, Nat.reduceMod, Nat.reducePow, Nat.reduceOr, Nat.reduceAnd, hb6, s12t10, s12z4, s12f0, s12f8, s12f9, hb16]
            refine aops_nil (hL19 _ ?_)
            simp only [q0, kz, kv, rwR, enR, csR, tyf, Nat.reduceBEq, reduceIte, Nat.reduceEqDiff, Nat.reduceAdd, Nat.reduceLeDiff, reduceCtorEq, Nat.reduceMul, Int.reduceToNat, Nat.reduceShiftRight, Nat.reduceMod, Nat.reducePow, Nat.reduceOr, Nat.reduceAnd, hb6, s12t10, s12z4, s12f0, s12f8, s12f9, hb16]
            try simp only [rk_state]
            refine hK18 _ ?_
            refine awp_seq_k fun K21 hK21 => ?_
            refine awp_seq_k fun K22 hK22 => ?_
            refine awp_region_lit fun L23 hL23 => ?_
            refine aops_orunN 4 _ _ ?_
            simp only [q0, kz, kv, rwR, enR, csR, tyf, Nat.reduceBEq, reduceIte, Nat.reduceEqDiff, Nat.reduceAdd, Nat.reduceLeDiff, reduceCtorEq, Nat.reduceMul, Int.reduceToNat, Nat.reduceShiftRight, Nat.reduceMod, Nat.reducePow, Nat.reduceOr, Nat.reduceAnd, hb6, s12t10, s12z4, s12f0, s12f8, s12f9, hb16]
            refine aops_part (b := ?p24) 18 ?h24 (fun hb24 => ?a24) (fun hb24 => ?b24)
            case h24 => simp only [q0, kz, kv, rwR, enR, csR, tyf, Nat.reduceBEq, reduceIte, Nat.reduceEqDiff, Nat.reduceAdd, Nat.reduceLeDiff, reduceCtorEq, Nat.reduceMul, Int.reduceToNat, Nat.reduceShiftRight, Nat.reduceMod, Nat.reducePow, Nat.reduceOr, Nat.reduceAnd, hb6, s12t10, s12z4, s12f0, s12f8, s12f9, hb16]; rfl
            case a24 =>
              have hp24 := hb24
              try simp only [kb] at hp24
              all_goals try exact absurd hb24 (by decide)
              all_goals try (exfalso; omega)
              all_goals
                try simp only [hb24]
                refine aops_orunN 14 _ _ ?_
                simp only [q0, kz, kv, rwR, enR, csR, tyf, Nat.reduceBEq, reduceIte, Nat.reduceEqDiff, Nat.reduceAdd, Nat.reduceLeDiff, reduceCtorEq, Nat.reduceMul, Int.reduceToNat, Nat.reduceShiftRight, Nat.reduceMod, Nat.reducePow, Nat.reduceOr, Nat.reduceAnd, hb6, s12t10, s12z4, s12f0, s12f8, s12f9, hb16, hb24]
                refine aops_nil (hL23 _ ?_)
                simp only [q0, kz, kv, rwR, enR, csR, tyf, Nat.reduceBEq, reduceIte, Nat.reduceEqDiff, Nat.reduceAdd, Nat.reduceLeDiff, reduceCtorEq, Nat.reduceMul, Int.reduceToNat, Nat.reduceShiftRight, Nat.reduceMod, Nat.reducePow, Nat.reduceOr, Nat.reduceAnd, hb6, s12t10, s12z4, s12f0, s12f8, s12f9, hb16, hb24]
                try simp only [rk_state]
                refine hK22 _ ?_
                refine awp_cond (t := true) (by simp only [q0, kz, kv, rwR, enR, csR, tyf, Nat.reduceBEq, reduceIte, Nat.reduceEqDiff, Nat.reduceAdd, Nat.reduceLeDiff, reduceCtorEq, Nat.reduceMul, Int.reduceToNat, Nat.reduceShiftRight, Nat.reduceMod, Nat.reducePow, Nat.reduceOr, Nat.reduceAnd, hb6, s12t10, s12z4, s12f0, s12f8, s12f9, hb16, hb24]) (fun _ => ?_) (fun h => ?_)
                case refine_2 => cases h
                refine awp_seq_k fun K25 hK25 => ?_
                refine awp_region_lit fun L26 hL26 => ?_
                refine aops_orunN 1 _ _ ?_
                simp only [q0, kz, kv, rwR, enR, csR, tyf, Nat.reduceBEq, reduceIte, Nat.reduceEqDiff, Nat.reduceAdd, Nat.reduceLeDiff, reduceCtorEq, Nat.reduceMul, Int.reduceToNat, Nat.reduceShiftRight, Nat.reduceMod, Nat.reducePow, Nat.reduceOr, Nat.reduceAnd, hb6, s12t10, s12z4, s12f0, s12f8, s12f9, hb16, hb24]
                refine aops_nil (hL26 _ ?_)
                simp only [q0, kz, kv, rwR, enR, csR, tyf, Nat.reduceBEq, reduceIte, Nat.reduceEqDiff, Nat.reduceAdd, Nat.reduceLeDiff, reduceCtorEq, Nat.reduceMul, Int.reduceToNat, Nat.reduceShiftRight, Nat.reduceMod, Nat.reducePow, Nat.reduceOr, Nat.reduceAnd, hb6, s12t10, s12z4, s12f0, s12f8, s12f9, hb16, hb24]
                try simp only [rk_state]
                refine hK25 _ ?_
                refine awp_ret ?_
                try simp only [rk_state]
                refine ⟨_, 0, by simp only [q0, kz, kv, rwR, enR, csR, tyf, Nat.reduceBEq, reduceIte, Nat.reduceEqDiff, Nat.reduceAdd, Nat.reduceLeDiff, reduceCtorEq, Nat.reduceMul, Int.reduceToNat, Nat.reduceShiftRight, Nat.reduceMod, Nat.reducePow, Nat.reduceOr, Nat.reduceAnd, resA, Try.results31, hb6, s12t10, s12z4, s12f0, s12f8, s12f9, hb16, hb24]; rfl, ?_, fun l hl => absurd rfl hl⟩
                simp only [packA]
                (repeat' (first | exact .nil | exact wkR_c | exact wkR_own | exact wkR_nils | refine wkR_int ?_ | refine wkR_bool ?_ | refine wkR_sl ?_ | refine wkR_osl ?_ | refine wkR_nsl ?_ | refine wkR_oo ?_ | refine wkR_no ?_ | refine .cons ?_ ?_ | refine wkR_agg ?_ | refine wkR_tup ?_)) <;> (unfold checkL; first | rw [if_pos (by omega)] | (rw [if_neg (by omega), ← hq4_1]; first | (rw [hst, if_pos (by omega)]) | (rw [hst, if_neg (by omega), if_pos (by unfold lastT; rw [if_neg (by omega)]; omega)]) | (rw [List.drop_of_length_le (by omega)]; rfl)))
            case b24 =>
              have hp24 := hb24
              try simp only [kb] at hp24
              all_goals try exact absurd hb24 (by decide)
              all_goals try (exfalso; omega)
              all_goals
                try simp only [hb24]
                refine aops_orunN 5 _ _ ?_
                simp only [q0, kz, kv, rwR, enR, csR, tyf, Nat.reduceBEq, reduceIte, Nat.reduceEqDiff, Nat.reduceAdd, Nat.reduceLeDiff, reduceCtorEq, Nat.reduceMul, Int.reduceToNat, Nat.reduceShiftRight, Nat.reduceMod, Nat.reducePow, Nat.reduceOr, Nat.reduceAnd, hb6, s12t10, s12z4, s12f0, s12f8, s12f9, hb16, hb24]
                refine aops_part (b := ?p27) 23 ?h27 (fun hb27 => ?a27) (fun hb27 => ?b27)
                case h27 => simp only [q0, kz, kv, rwR, enR, csR, tyf, Nat.reduceBEq, reduceIte, Nat.reduceEqDiff, Nat.reduceAdd, Nat.reduceLeDiff, reduceCtorEq, Nat.reduceMul, Int.reduceToNat, Nat.reduceShiftRight, Nat.reduceMod, Nat.reducePow, Nat.reduceOr, Nat.reduceAnd, hb6, s12t10, s12z4, s12f0, s12f8, s12f9, hb16, hb24]; rfl
                case a27 =>
                  have hp27 := hb27
                  try simp only [kb] at hp27
                  all_goals try exact absurd hb27 (by decide)
                  all_goals try (exfalso; omega)
                  all_goals
                    try simp only [hb27]
                    refine aops_orunN 9 _ _ ?_
                    simp only [q0, kz, kv, rwR, enR, csR, tyf, Nat.reduceBEq, reduceIte, Nat.reduceEqDiff, Nat.reduceAdd, Nat.reduceLeDiff, reduceCtorEq, Nat.reduceMul, Int.reduceToNat, Nat.reduceShiftRight, Nat.reduceMod, Nat.reducePow, Nat.reduceOr, Nat.reduceAnd, hb6, s12t10, s12z4, s12f0, s12f8, s12f9, hb16, hb24, hb27]
                    refine aops_nil (hL23 _ ?_)
                    simp only [q0, kz, kv, rwR, enR, csR, tyf, Nat.reduceBEq, reduceIte, Nat.reduceEqDiff, Nat.reduceAdd, Nat.reduceLeDiff, reduceCtorEq, Nat.reduceMul, Int.reduceToNat, Nat.reduceShiftRight, Nat.reduceMod, Nat.reducePow, Nat.reduceOr, Nat.reduceAnd, hb6, s12t10, s12z4, s12f0, s12f8, s12f9, hb16, hb24, hb27]
                    try simp only [rk_state]
                    refine hK22 _ ?_
                    refine awp_cond (t := true) (by simp only [q0, kz, kv, rwR, enR, csR, tyf, Nat.reduceBEq, reduceIte, Nat.reduceEqDiff, Nat.reduceAdd, Nat.reduceLeDiff, reduceCtorEq, Nat.reduceMul, Int.reduceToNat, Nat.reduceShiftRight, Nat.reduceMod, Nat.reducePow, Nat.reduceOr, Nat.reduceAnd, hb6, s12t10, s12z4, s12f0, s12f8, s12f9, hb16, hb24, hb27]) (fun _ => ?_) (fun h => ?_)
                    case refine_2 => cases h
                    refine awp_seq_k fun K28 hK28 => ?_
                    refine awp_region_lit fun L29 hL29 => ?_
                    refine aops_orunN 1 _ _ ?_
                    simp only [q0, kz, kv, rwR, enR, csR, tyf, Nat.reduceBEq, reduceIte, Nat.reduceEqDiff, Nat.reduceAdd, Nat.reduceLeDiff, reduceCtorEq, Nat.reduceMul, Int.reduceToNat, Nat.reduceShiftRight, Nat.reduceMod, Nat.reducePow, Nat.reduceOr, Nat.reduceAnd, hb6, s12t10, s12z4, s12f0, s12f8, s12f9, hb16, hb24, hb27]
                    refine aops_nil (hL29 _ ?_)
                    simp only [q0, kz, kv, rwR, enR, csR, tyf, Nat.reduceBEq, reduceIte, Nat.reduceEqDiff, Nat.reduceAdd, Nat.reduceLeDiff, reduceCtorEq, Nat.reduceMul, Int.reduceToNat, Nat.reduceShiftRight, Nat.reduceMod, Nat.reducePow, Nat.reduceOr, Nat.reduceAnd, hb6, s12t10, s12z4, s12f0, s12f8, s12f9, hb16, hb24, hb27]
                    try simp only [rk_state]
                    refine hK28 _ ?_
                    refine awp_ret ?_
                    try simp only [rk_state]
                    refine ⟨_, 0, by simp only [q0, kz, kv, rwR, enR, csR, tyf, Nat.reduceBEq, reduceIte, Nat.reduceEqDiff, Nat.reduceAdd, Nat.reduceLeDiff, reduceCtorEq, Nat.reduceMul, Int.reduceToNat, Nat.reduceShiftRight, Nat.reduceMod, Nat.reducePow, Nat.reduceOr, Nat.reduceAnd, resA, Try.results31, hb6, s12t10, s12z4, s12f0, s12f8, s12f9, hb16, hb24, hb27]; rfl, ?_, fun l hl => absurd rfl hl⟩
                    simp only [packA]
                    (repeat' (first | exact .nil | exact wkR_c | exact wkR_own | exact wkR_nils | refine wkR_int ?_ | refine wkR_bool ?_ | refine wkR_sl ?_ | refine wkR_osl ?_ | refine wkR_nsl ?_ | refine wkR_oo ?_ | refine wkR_no ?_ | refine .cons ?_ ?_ | refine wkR_agg ?_ | refine wkR_tup ?_)) <;> (unfold checkL; first | rw [if_pos (by omega)] | (rw [if_neg (by omega), ← hq4_1]; first | (rw [hst, if_pos (by omega)]) | (rw [hst, if_neg (by omega), if_pos (by unfold lastT; rw [if_neg (by omega)]; omega)]) | (rw [List.drop_of_length_le (by omega)]; rfl)))
                case b27 =>
                  have hp27 := hb27
                  try simp only [kb] at hp27
                  all_goals try exact absurd hb27 (by decide)
                  all_goals try (exfalso; omega)
                  all_goals
                    try simp only [hb27]
                    refine aops_orunN 5 _ _ ?_
                    simp only [q0, kz, kv, rwR, enR, csR, tyf, Nat.reduceBEq, reduceIte, Nat.reduceEqDiff, Nat.reduceAdd, Nat.reduceLeDiff, reduceCtorEq, Nat.reduceMul, Int.reduceToNat, Nat.reduceShiftRight, Nat.reduceMod, Nat.reducePow, Nat.reduceOr, Nat.reduceAnd, hb6, s12t10, s12z4, s12f0, s12f8, s12f9, hb16, hb24, hb27]
                    refine aops_part (b := ?p30) 28 ?h30 (fun hb30 => ?a30) (fun hb30 => ?b30)
                    case h30 => simp only [q0, kz, kv, rwR, enR, csR, tyf, Nat.reduceBEq, reduceIte, Nat.reduceEqDiff, Nat.reduceAdd, Nat.reduceLeDiff, reduceCtorEq, Nat.reduceMul, Int.reduceToNat, Nat.reduceShiftRight, Nat.reduceMod, Nat.reducePow, Nat.reduceOr, Nat.reduceAnd, hb6, s12t10, s12z4, s12f0, s12f8, s12f9, hb16, hb24, hb27]; rfl
                    case a30 =>
                      have hp30 := hb30
                      try simp only [kb] at hp30
                      all_goals try exact absurd hb30 (by decide)
                      all_goals try (exfalso; omega)
                      all_goals
                        try simp only [hb30]
                        refine aops_orunN 4 _ _ ?_
                        simp only [q0, kz, kv, rwR, enR, csR, tyf, Nat.reduceBEq, reduceIte, Nat.reduceEqDiff, Nat.reduceAdd, Nat.reduceLeDiff, reduceCtorEq, Nat.reduceMul, Int.reduceToNat, Nat.reduceShiftRight, Nat.reduceMod, Nat.reducePow, Nat.reduceOr, Nat.reduceAnd, hb6, s12t10, s12z4, s12f0, s12f8, s12f9, hb16, hb24, hb27, hb30]
                        refine aops_nil (hL23 _ ?_)
                        simp only [q0, kz, kv, rwR, enR, csR, tyf, Nat.reduceBEq, reduceIte, Nat.reduceEqDiff, Nat.reduceAdd, Nat.reduceLeDiff, reduceCtorEq, Nat.reduceMul, Int.reduceToNat, Nat.reduceShiftRight, Nat.reduceMod, Nat.reducePow, Nat.reduceOr, Nat.reduceAnd, hb6, s12t10, s12z4, s12f0, s12f8, s12f9, hb16, hb24, hb27, hb30]
                        try simp only [rk_state]
                        refine hK22 _ ?_
                        refine awp_cond (t := true) (by simp only [q0, kz, kv, rwR, enR, csR, tyf, Nat.reduceBEq, reduceIte, Nat.reduceEqDiff, Nat.reduceAdd, Nat.reduceLeDiff, reduceCtorEq, Nat.reduceMul, Int.reduceToNat, Nat.reduceShiftRight, Nat.reduceMod, Nat.reducePow, Nat.reduceOr, Nat.reduceAnd, hb6, s12t10, s12z4, s12f0, s12f8, s12f9, hb16, hb24, hb27, hb30]) (fun _ => ?_) (fun h => ?_)
                        case refine_2 => cases h
                        refine awp_seq_k fun K31 hK31 => ?_
                        refine awp_region_lit fun L32 hL32 => ?_
                        refine aops_orunN 1 _ _ ?_
                        simp only [q0, kz, kv, rwR, enR, csR, tyf, Nat.reduceBEq, reduceIte, Nat.reduceEqDiff, Nat.reduceAdd, Nat.reduceLeDiff, reduceCtorEq, Nat.reduceMul, Int.reduceToNat, Nat.reduceShiftRight, Nat.reduceMod, Nat.reducePow, Nat.reduceOr, Nat.reduceAnd, hb6, s12t10, s12z4, s12f0, s12f8, s12f9, hb16, hb24, hb27, hb30]
                        refine aops_nil (hL32 _ ?_)
                        simp only [q0, kz, kv, rwR, enR, csR, tyf, Nat.reduceBEq, reduceIte, Nat.reduceEqDiff, Nat.reduceAdd, Nat.reduceLeDiff, reduceCtorEq, Nat.reduceMul, Int.reduceToNat, Nat.reduceShiftRight, Nat.reduceMod, Nat.reducePow, Nat.reduceOr, Nat.reduceAnd, hb6, s12t10, s12z4, s12f0, s12f8, s12f9, hb16, hb24, hb27, hb30]
                        try simp only [rk_state]
                        refine hK31 _ ?_
                        refine awp_ret ?_
                        try simp only [rk_state]
                        refine ⟨_, 0, by simp only [q0, kz, kv, rwR, enR, csR, tyf, Nat.reduceBEq, reduceIte, Nat.reduceEqDiff, Nat.reduceAdd, Nat.reduceLeDiff, reduceCtorEq, Nat.reduceMul, Int.reduceToNat, Nat.reduceShiftRight, Nat.reduceMod, Nat.reducePow, Nat.reduceOr, Nat.reduceAnd, resA, Try.results31, hb6, s12t10, s12z4, s12f0, s12f8, s12f9, hb16, hb24, hb27, hb30]; rfl, ?_, fun l hl => absurd rfl hl⟩
                        simp only [packA]
                        (repeat' (first | exact .nil | exact wkR_c | exact wkR_own | exact wkR_nils | refine wkR_int ?_ | refine wkR_bool ?_ | refine wkR_sl ?_ | refine wkR_osl ?_ | refine wkR_nsl ?_ | refine wkR_oo ?_ | refine wkR_no ?_ | refine .cons ?_ ?_ | refine wkR_agg ?_ | refine wkR_tup ?_)) <;> (unfold checkL; first | rw [if_pos (by omega)] | (rw [if_neg (by omega), ← hq4_1]; first | (rw [hst, if_pos (by omega)]) | (rw [hst, if_neg (by omega), if_pos (by unfold lastT; rw [if_neg (by omega)]; omega)]) | (rw [List.drop_of_length_le (by omega)]; rfl)))
                    case b30 =>
                      have hp30 := hb30
                      try simp only [kb] at hp30
                      all_goals try exact absurd hb30 (by decide)
                      all_goals try (exfalso; omega)
                      all_goals
                        try simp only [hb30]
                        refine aops_orunN 4 _ _ ?_
                        simp only [q0, kz, kv, rwR, enR, csR, tyf, Nat.reduceBEq, reduceIte, Nat.reduceEqDiff, Nat.reduceAdd, Nat.reduceLeDiff, reduceCtorEq, Nat.reduceMul, Int.reduceToNat, Nat.reduceShiftRight, Nat.reduceMod, Nat.reducePow, Nat.reduceOr, Nat.reduceAnd, hb6, s12t10, s12z4, s12f0, s12f8, s12f9, hb16, hb24, hb27, hb30]
                        refine aops_nil (hL23 _ ?_)
                        simp only [q0, kz, kv, rwR, enR, csR, tyf, Nat.reduceBEq, reduceIte, Nat.reduceEqDiff, Nat.reduceAdd, Nat.reduceLeDiff, reduceCtorEq, Nat.reduceMul, Int.reduceToNat, Nat.reduceShiftRight, Nat.reduceMod, Nat.reducePow, Nat.reduceOr, Nat.reduceAnd, hb6, s12t10, s12z4, s12f0, s12f8, s12f9, hb16, hb24, hb27, hb30]
                        try simp only [rk_state]
                        refine hK22 _ ?_
                        refine awp_cond (t := ?t33) ?h33 (fun hb33 => ?a33) (fun hb33 => ?b33)
                        case h33 => simp only [q0, kz, kv, rwR, enR, csR, tyf, Nat.reduceBEq, reduceIte, Nat.reduceEqDiff, Nat.reduceAdd, Nat.reduceLeDiff, reduceCtorEq, Nat.reduceMul, Int.reduceToNat, Nat.reduceShiftRight, Nat.reduceMod, Nat.reducePow, Nat.reduceOr, Nat.reduceAnd, hb6, s12t10, s12z4, s12f0, s12f8, s12f9, hb16, hb24, hb27, hb30]; rfl
                        case a33 =>
                          have hp33 := hb33
                          try simp only [kb] at hp33
                          all_goals try exact absurd hb33 (by decide)
                          all_goals try (exfalso; omega)
                          all_goals
                            refine awp_seq_k fun K34 hK34 => ?_
                            refine awp_region_lit fun L35 hL35 => ?_
                            refine aops_orunN 1 _ _ ?_
                            simp only [q0, kz, kv, rwR, enR, csR, tyf, Nat.reduceBEq, reduceIte, Nat.reduceEqDiff, Nat.reduceAdd, Nat.reduceLeDiff, reduceCtorEq, Nat.reduceMul, Int.reduceToNat, Nat.reduceShiftRight, Nat.reduceMod, Nat.reducePow, Nat.reduceOr, Nat.reduceAnd, hb6, s12t10, s12z4, s12f0, s12f8, s12f9, hb16, hb24, hb27, hb30, hb33]
                            refine aops_nil (hL35 _ ?_)
                            simp only [q0, kz, kv, rwR, enR, csR, tyf, Nat.reduceBEq, reduceIte, Nat.reduceEqDiff, Nat.reduceAdd, Nat.reduceLeDiff, reduceCtorEq, Nat.reduceMul, Int.reduceToNat, Nat.reduceShiftRight, Nat.reduceMod, Nat.reducePow, Nat.reduceOr, Nat.reduceAnd, hb6, s12t10, s12z4, s12f0, s12f8, s12f9, hb16, hb24, hb27, hb30, hb33]
                            try simp only [rk_state]
                            refine hK34 _ ?_
                            refine awp_ret ?_
                            try simp only [rk_state]
                            refine ⟨_, 0, by simp only [q0, kz, kv, rwR, enR, csR, tyf, Nat.reduceBEq, reduceIte, Nat.reduceEqDiff, Nat.reduceAdd, Nat.reduceLeDiff, reduceCtorEq, Nat.reduceMul, Int.reduceToNat, Nat.reduceShiftRight, Nat.reduceMod, Nat.reducePow, Nat.reduceOr, Nat.reduceAnd, resA, Try.results31, hb6, s12t10, s12z4, s12f0, s12f8, s12f9, hb16, hb24, hb27, hb30, hb33]; rfl, ?_, fun l hl => absurd rfl hl⟩
                            simp only [packA]
                            (repeat' (first | exact .nil | exact wkR_c | exact wkR_own | exact wkR_nils | refine wkR_int ?_ | refine wkR_bool ?_ | refine wkR_sl ?_ | refine wkR_osl ?_ | refine wkR_nsl ?_ | refine wkR_oo ?_ | refine wkR_no ?_ | refine .cons ?_ ?_ | refine wkR_agg ?_ | refine wkR_tup ?_)) <;> (unfold checkL; first | rw [if_pos (by omega)] | (rw [if_neg (by omega), ← hq4_1]; first | (rw [hst, if_pos (by omega)]) | (rw [hst, if_neg (by omega), if_pos (by unfold lastT; rw [if_neg (by omega)]; omega)]) | (rw [List.drop_of_length_le (by omega)]; rfl)))
                        case b33 =>
                          have hp33 := hb33
                          try simp only [kb] at hp33
                          all_goals try exact absurd hb33 (by decide)
                          all_goals try (exfalso; omega)
                          all_goals
                            refine awp_skip ?_
                            try simp only [rk_state]
                            refine hK21 _ ?_
                            refine awp_seq_k fun K36 hK36 => ?_
                            have s9 : ((i : Int) - 1).toNat = i - 1 := by omega
                            refine awp_region_dr (by decide +kernel) fun L37 hL37 => ?_
                            refine aops_orunN 3 _ _ ?_
                            simp only [q0, kz, kv, rwR, enR, csR, tyf, Nat.reduceBEq, reduceIte, Nat.reduceEqDiff, Nat.reduceAdd, Nat.reduceLeDiff, reduceCtorEq, Nat.reduceMul, Int.reduceToNat, Nat.reduceShiftRight, Nat.reduceMod, Nat.reducePow, Nat.reduceOr, Nat.reduceAnd, hb6, s12t10, s12z4, s12f0, s12f8, s12f9, hb16, hb24, hb27, hb30, hb33, s9]
                            refine aops_part (b := ?p38) 35 ?h38 (fun hb38 => ?a38) (fun hb38 => ?b38)
                            case h38 => simp only [q0, kz, kv, rwR, enR, csR, tyf, Nat.reduceBEq, reduceIte, Nat.reduceEqDiff, Nat.reduceAdd, Nat.reduceLeDiff, reduceCtorEq, Nat.reduceMul, Int.reduceToNat, Nat.reduceShiftRight, Nat.reduceMod, Nat.reducePow, Nat.reduceOr, Nat.reduceAnd, hb6, s12t10, s12z4, s12f0, s12f8, s12f9, hb16, hb24, hb27, hb30, hb33, s9]; rfl
                            case a38 =>
                              have hp38 := hb38
                              try simp only [kb] at hp38
                              all_goals try exact absurd hb38 (by decide)
                              all_goals try (exfalso; omega)
                              all_goals
                                try simp only [hb38]
                                refine aops_orunN 3 _ _ ?_
                                simp only [q0, kz, kv, rwR, enR, csR, tyf, Nat.reduceBEq, reduceIte, Nat.reduceEqDiff, Nat.reduceAdd, Nat.reduceLeDiff, reduceCtorEq, Nat.reduceMul, Int.reduceToNat, Nat.reduceShiftRight, Nat.reduceMod, Nat.reducePow, Nat.reduceOr, Nat.reduceAnd, hb6, s12t10, s12z4, s12f0, s12f8, s12f9, hb16, hb24, hb27, hb30, hb33, s9, hb38]
                                try simp (disch := omega) only [wr_id]
                                refine aops_val (v := ?v39) (by simp only [q0, kz, kv, rwR, enR, csR, tyf, Nat.reduceBEq, reduceIte, Nat.reduceEqDiff, Nat.reduceAdd, Nat.reduceLeDiff, reduceCtorEq, Nat.reduceMul, Int.reduceToNat, Nat.reduceShiftRight, Nat.reduceMod, Nat.reducePow, Nat.reduceOr, Nat.reduceAnd, hb6, s12t10, s12z4, s12f0, s12f8, s12f9, hb16, hb24, hb27, hb30, hb33, s9, hb38]) ?h39 ?_
                                case h39 => simp only [q0, kz, kv, rwR, enR, csR, tyf, Nat.reduceBEq, reduceIte, Nat.reduceEqDiff, Nat.reduceAdd, Nat.reduceLeDiff, reduceCtorEq, Nat.reduceMul, Int.reduceToNat, Nat.reduceShiftRight, Nat.reduceMod, Nat.reducePow, Nat.reduceOr, Nat.reduceAnd, hb6, s12t10, s12z4, s12f0, s12f8, s12f9, hb16, hb24, hb27, hb30, hb33, s9, hb38]; first | (rw [idx_c un22 if34] <;> omega) | (rw [idx_o un22 if34] <;> omega)
                                simp only [q0, kz, kv, rwR, enR, csR, tyf, Nat.reduceBEq, reduceIte, Nat.reduceEqDiff, Nat.reduceAdd, Nat.reduceLeDiff, reduceCtorEq, Nat.reduceMul, Int.reduceToNat, Nat.reduceShiftRight, Nat.reduceMod, Nat.reducePow, Nat.reduceOr, Nat.reduceAnd, hb6, s12t10, s12z4, s12f0, s12f8, s12f9, hb16, hb24, hb27, hb30, hb33, s9, hb38]
                                refine aops_orunN 6 _ _ ?_
                                simp only [q0, kz, kv, rwR, enR, csR, tyf, Nat.reduceBEq, reduceIte, Nat.reduceEqDiff, Nat.reduceAdd, Nat.reduceLeDiff, reduceCtorEq, Nat.reduceMul, Int.reduceToNat, Nat.reduceShiftRight, Nat.reduceMod, Nat.reducePow, Nat.reduceOr, Nat.reduceAnd, hb6, s12t10, s12z4, s12f0, s12f8, s12f9, hb16, hb24, hb27, hb30, hb33, s9, hb38]
                                refine aops_nil (hL37 _ ?_)
                                simp only [q0, kz, kv, rwR, enR, csR, tyf, Nat.reduceBEq, reduceIte, Nat.reduceEqDiff, Nat.reduceAdd, Nat.reduceLeDiff, reduceCtorEq, Nat.reduceMul, Int.reduceToNat, Nat.reduceShiftRight, Nat.reduceMod, Nat.reducePow, Nat.reduceOr, Nat.reduceAnd, hb6, s12t10, s12z4, s12f0, s12f8, s12f9, hb16, hb24, hb27, hb30, hb33, s9, hb38]
                                try simp only [rk_state]
                                refine hK36 _ ?_
                                refine awp_cond (t := ?t40) ?h40 (fun hb40 => ?a40) (fun hb40 => ?b40)
                                case h40 => simp only [q0, kz, kv, rwR, enR, csR, tyf, Nat.reduceBEq, reduceIte, Nat.reduceEqDiff, Nat.reduceAdd, Nat.reduceLeDiff, reduceCtorEq, Nat.reduceMul, Int.reduceToNat, Nat.reduceShiftRight, Nat.reduceMod, Nat.reducePow, Nat.reduceOr, Nat.reduceAnd, hb6, s12t10, s12z4, s12f0, s12f8, s12f9, hb16, hb24, hb27, hb30, hb33, s9, hb38]; rfl
                                case a40 =>
                                  have hp40 := hb40
                                  try simp only [kb] at hp40
                                  all_goals try exact absurd hb40 (by decide)
                                  all_goals try (exfalso; omega)
                                  all_goals
                                    refine awp_seq_k fun K41 hK41 => ?_
                                    refine awp_region_lit fun L42 hL42 => ?_
                                    refine aops_orunN 1 _ _ ?_
                                    simp only [q0, kz, kv, rwR, enR, csR, tyf, Nat.reduceBEq, reduceIte, Nat.reduceEqDiff, Nat.reduceAdd, Nat.reduceLeDiff, reduceCtorEq, Nat.reduceMul, Int.reduceToNat, Nat.reduceShiftRight, Nat.reduceMod, Nat.reducePow, Nat.reduceOr, Nat.reduceAnd, hb6, s12t10, s12z4, s12f0, s12f8, s12f9, hb16, hb24, hb27, hb30, hb33, s9, hb38, hb40]
                                    refine aops_nil (hL42 _ ?_)
                                    simp only [q0, kz, kv, rwR, enR, csR, tyf, Nat.reduceBEq, reduceIte, Nat.reduceEqDiff, Nat.reduceAdd, Nat.reduceLeDiff, reduceCtorEq, Nat.reduceMul, Int.reduceToNat, Nat.reduceShiftRight, Nat.reduceMod, Nat.reducePow, Nat.reduceOr, Nat.reduceAnd, hb6, s12t10, s12z4, s12f0, s12f8, s12f9, hb16, hb24, hb27, hb30, hb33, s9, hb38, hb40]
                                    try simp only [rk_state]
                                    refine hK41 _ ?_
                                    refine awp_ret ?_
                                    try simp only [rk_state]
                                    refine ⟨_, 0, by simp only [q0, kz, kv, rwR, enR, csR, tyf, Nat.reduceBEq, reduceIte, Nat.reduceEqDiff, Nat.reduceAdd, Nat.reduceLeDiff, reduceCtorEq, Nat.reduceMul, Int.reduceToNat, Nat.reduceShiftRight, Nat.reduceMod, Nat.reducePow, Nat.reduceOr, Nat.reduceAnd, resA, Try.results31, hb6, s12t10, s12z4, s12f0, s12f8, s12f9, hb16, hb24, hb27, hb30, hb33, s9, hb38, hb40]; rfl, ?_, fun l hl => absurd rfl hl⟩
                                    simp only [packA]
                                    (repeat' (first | exact .nil | exact wkR_c | exact wkR_own | exact wkR_nils | refine wkR_int ?_ | refine wkR_bool ?_ | refine wkR_sl ?_ | refine wkR_osl ?_ | refine wkR_nsl ?_ | refine wkR_oo ?_ | refine wkR_no ?_ | refine .cons ?_ ?_ | refine wkR_agg ?_ | refine wkR_tup ?_)) <;> (unfold checkL; first | rw [if_pos (by omega)] | (rw [if_neg (by omega), ← hq4_1]; first | (rw [hst, if_pos (by omega)]) | (rw [hst, if_neg (by omega), if_pos (by unfold lastT; rw [if_neg (by omega)]; omega)]) | (rw [List.drop_of_length_le (by omega)]; rfl)))
                                case b40 =>
                                  have hp40 := hb40
                                  try simp only [kb] at hp40
                                  all_goals try exact absurd hb40 (by decide)
                                  all_goals try (exfalso; omega)
                                  all_goals
                                    refine awp_skip ?_
                                    try simp only [rk_state]
                                    try simp only [rk_state]
                                    refine hK17 _ ?_
                                    refine awp_region_lit fun L43 hL43 => ?_
                                    refine aops_orunN 2 _ _ ?_
                                    simp only [q0, kz, kv, rwR, enR, csR, tyf, Nat.reduceBEq, reduceIte, Nat.reduceEqDiff, Nat.reduceAdd, Nat.reduceLeDiff, reduceCtorEq, Nat.reduceMul, Int.reduceToNat, Nat.reduceShiftRight, Nat.reduceMod, Nat.reducePow, Nat.reduceOr, Nat.reduceAnd, hb6, s12t10, s12z4, s12f0, s12f8, s12f9, hb16, hb24, hb27, hb30, hb33, s9, hb38, hb40]
                                    try simp (disch := omega) only [wr_id]
                                    refine aops_nil (hL43 _ ?_)
                                    simp only [q0, kz, kv, rwR, enR, csR, tyf, Nat.reduceBEq, reduceIte, Nat.reduceEqDiff, Nat.reduceAdd, Nat.reduceLeDiff, reduceCtorEq, Nat.reduceMul, Int.reduceToNat, Nat.reduceShiftRight, Nat.reduceMod, Nat.reducePow, Nat.reduceOr, Nat.reduceAnd, hb6, s12t10, s12z4, s12f0, s12f8, s12f9, hb16, hb24, hb27, hb30, hb33, s9, hb38, hb40]
                                    try simp only [rk_state]
                                    refine hK12 _ ((fun (i : Nat) => ps.length - i) (i + 1)) ?_ ⟨i + 1, rfl, ?_, ?_, ?_, ?_⟩
                                    · (try simp only []); omega
                                    · omega
                                    · rw [hst, if_neg (by omega), if_neg (by unfold lastT; split <;> omega)] at hq4_1; exact hq4_1
                                    · (try simp only [q0, kz, kv, rwR, enR, csR, tyf, Nat.reduceBEq, reduceIte, Nat.reduceEqDiff, Nat.reduceAdd, Nat.reduceLeDiff, reduceCtorEq, Nat.reduceMul, Int.reduceToNat, Nat.reduceShiftRight, Nat.reduceMod, Nat.reducePow, Nat.reduceOr, Nat.reduceAnd, hb6, s12t10, s12z4, s12f0, s12f8, s12f9, hb16, hb24, hb27, hb30, hb33, s9, hb38, hb40])
                                      all_goals (first | done | rfl | (simp only [AV.c.injEq, C.int.injEq, List.cons.injEq, and_true, true_and]; omega))
                                    · (try simp only [q0, kz, kv, rwR, enR, csR, tyf, Nat.reduceBEq, reduceIte, Nat.reduceEqDiff, Nat.reduceAdd, Nat.reduceLeDiff, reduceCtorEq, Nat.reduceMul, Int.reduceToNat, Nat.reduceShiftRight, Nat.reduceMod, Nat.reducePow, Nat.reduceOr, Nat.reduceAnd, hb6, s12t10, s12z4, s12f0, s12f8, s12f9, hb16, hb24, hb27, hb30, hb33, s9, hb38, hb40])
                                      all_goals (first | done | rfl | (simp only [AV.c.injEq, C.int.injEq, List.cons.injEq, and_true, true_and]; omega))
                            case b38 =>
                              have hp38 := hb38
                              try simp only [kb] at hp38
                              all_goals try exact absurd hb38 (by decide)
                              all_goals try (exfalso; omega)
                              all_goals
                                try simp only [hb38]
                                refine aops_orunN 10 _ _ ?_
                                simp only [q0, kz, kv, rwR, enR, csR, tyf, Nat.reduceBEq, reduceIte, Nat.reduceEqDiff, Nat.reduceAdd, Nat.reduceLeDiff, reduceCtorEq, Nat.reduceMul, Int.reduceToNat, Nat.reduceShiftRight, Nat.reduceMod, Nat.reducePow, Nat.reduceOr, Nat.reduceAnd, hb6, s12t10, s12z4, s12f0, s12f8, s12f9, hb16, hb24, hb27, hb30, hb33, s9, hb38]
                                try simp (disch := omega) only [wr_id]
                                refine aops_nil (hL37 _ ?_)
                                simp only [q0, kz, kv, rwR, enR, csR, tyf, Nat.reduceBEq, reduceIte, Nat.reduceEqDiff, Nat.reduceAdd, Nat.reduceLeDiff, reduceCtorEq, Nat.reduceMul, Int.reduceToNat, Nat.reduceShiftRight, Nat.reduceMod, Nat.reducePow, Nat.reduceOr, Nat.reduceAnd, hb6, s12t10, s12z4, s12f0, s12f8, s12f9, hb16, hb24, hb27, hb30, hb33, s9, hb38]
                                try simp only [rk_state]
                                refine hK36 _ ?_
                                refine awp_cond (t := false) (by simp only [q0, kz, kv, rwR, enR, csR, tyf, Nat.reduceBEq, reduceIte, Nat.reduceEqDiff, Nat.reduceAdd, Nat.reduceLeDiff, reduceCtorEq, Nat.reduceMul, Int.reduceToNat, Nat.reduceShiftRight, Nat.reduceMod, Nat.reducePow, Nat.reduceOr, Nat.reduceAnd, hb6, s12t10, s12z4, s12f0, s12f8, s12f9, hb16, hb24, hb27, hb30, hb33, s9, hb38]) (fun h => ?_) (fun _ => ?_)
                                case refine_1 => cases h
                                refine awp_skip ?_
                                try simp only [rk_state]
                                try simp only [rk_state]
                                refine hK17 _ ?_
                                refine awp_region_lit fun L44 hL44 => ?_
                                refine aops_orunN 2 _ _ ?_
                                simp only [q0, kz, kv, rwR, enR, csR, tyf, Nat.reduceBEq, reduceIte, Nat.reduceEqDiff, Nat.reduceAdd, Nat.reduceLeDiff, reduceCtorEq, Nat.reduceMul, Int.reduceToNat, Nat.reduceShiftRight, Nat.reduceMod, Nat.reducePow, Nat.reduceOr, Nat.reduceAnd, hb6, s12t10, s12z4, s12f0, s12f8, s12f9, hb16, hb24, hb27, hb30, hb33, s9, hb38]
                                try simp (disch := omega) only [wr_id]
                                refine aops_nil (hL44 _ ?_)
                                simp only [q0, kz, kv, rwR, enR, csR, tyf, Nat.reduceBEq, reduceIte, Nat.reduceEqDiff, Nat.reduceAdd, Nat.reduceLeDiff, reduceCtorEq, Nat.reduceMul, Int.reduceToNat, Nat.reduceShiftRight, Nat.reduceMod, Nat.reducePow, Nat.reduceOr, Nat.reduceAnd, hb6, s12t10, s12z4, s12f0, s12f8, s12f9, hb16, hb24, hb27, hb30, hb33, s9, hb38]
                                try simp only [rk_state]
                                refine hK12 _ ((fun (i : Nat) => ps.length - i) (i + 1)) ?_ ⟨i + 1, rfl, ?_, ?_, ?_, ?_⟩
                                · (try simp only []); omega
                                · omega
                                · rw [hst, if_neg (by omega), if_neg (by unfold lastT; split <;> omega)] at hq4_1; exact hq4_1
                                · (try simp only [q0, kz, kv, rwR, enR, csR, tyf, Nat.reduceBEq, reduceIte, Nat.reduceEqDiff, Nat.reduceAdd, Nat.reduceLeDiff, reduceCtorEq, Nat.reduceMul, Int.reduceToNat, Nat.reduceShiftRight, Nat.reduceMod, Nat.reducePow, Nat.reduceOr, Nat.reduceAnd, hb6, s12t10, s12z4, s12f0, s12f8, s12f9, hb16, hb24, hb27, hb30, hb33, s9, hb38])
                                  all_goals (first | done | rfl | (simp only [AV.c.injEq, C.int.injEq, List.cons.injEq, and_true, true_and]; omega))
                                · (try simp only [q0, kz, kv, rwR, enR, csR, tyf, Nat.reduceBEq, reduceIte, Nat.reduceEqDiff, Nat.reduceAdd, Nat.reduceLeDiff, reduceCtorEq, Nat.reduceMul, Int.reduceToNat, Nat.reduceShiftRight, Nat.reduceMod, Nat.reducePow, Nat.reduceOr, Nat.reduceAnd, hb6, s12t10, s12z4, s12f0, s12f8, s12f9, hb16, hb24, hb27, hb30, hb33, s9, hb38])
                                  all_goals (first | done | rfl | (simp only [AV.c.injEq, C.int.injEq, List.cons.injEq, and_true, true_and]; omega))
        case b16 =>
          have hp16 := hb16
          try simp only [kb] at hp16
          all_goals try exact absurd hb16 (by decide)
          all_goals try (exfalso; omega)
          all_goals
            refine awp_exit ?_
            simp only [rk_state, reduceIte, Nat.reduceEqDiff]
            try simp only [rk_state]
            refine hK9 _ ?_
            refine awp_seq_k fun K45 hK45 => ?_
            refine awp_region_lit fun L46 hL46 => ?_
            refine aops_orunN 1 _ _ ?_
            simp only [q0, kz, kv, rwR, enR, csR, tyf, Nat.reduceBEq, reduceIte, Nat.reduceEqDiff, Nat.reduceAdd, Nat.reduceLeDiff, reduceCtorEq, Nat.reduceMul, Int.reduceToNat, Nat.reduceShiftRight, Nat.reduceMod, Nat.reducePow, Nat.reduceOr, Nat.reduceAnd, hb6, s12t10, s12z4, s12f0, s12f8, s12f9, hb16]
            refine aops_nil (hL46 _ ?_)
            simp only [q0, kz, kv, rwR, enR, csR, tyf, Nat.reduceBEq, reduceIte, Nat.reduceEqDiff, Nat.reduceAdd, Nat.reduceLeDiff, reduceCtorEq, Nat.reduceMul, Int.reduceToNat, Nat.reduceShiftRight, Nat.reduceMod, Nat.reducePow, Nat.reduceOr, Nat.reduceAnd, hb6, s12t10, s12z4, s12f0, s12f8, s12f9, hb16]
            try simp only [rk_state]
            refine hK45 _ ?_
            refine awp_ret ?_
            try simp only [rk_state]
            refine ⟨_, 0, by simp only [q0, kz, kv, rwR, enR, csR, tyf, Nat.reduceBEq, reduceIte, Nat.reduceEqDiff, Nat.reduceAdd, Nat.reduceLeDiff, reduceCtorEq, Nat.reduceMul, Int.reduceToNat, Nat.reduceShiftRight, Nat.reduceMod, Nat.reducePow, Nat.reduceOr, Nat.reduceAnd, resA, Try.results31, hb6, s12t10, s12z4, s12f0, s12f8, s12f9, hb16]; rfl, ?_, fun l hl => absurd rfl hl⟩
            simp only [packA]
            (repeat' (first | exact .nil | exact wkR_c | exact wkR_own | exact wkR_nils | refine wkR_int ?_ | refine wkR_bool ?_ | refine wkR_sl ?_ | refine wkR_osl ?_ | refine wkR_nsl ?_ | refine wkR_oo ?_ | refine wkR_no ?_ | refine .cons ?_ ?_ | refine wkR_agg ?_ | refine wkR_tup ?_)) <;> (unfold checkL; first | rw [if_pos (by omega)] | (rw [if_neg (by omega), ← hq4_1]; first | (rw [hst, if_pos (by omega)]) | (rw [hst, if_neg (by omega), if_pos (by unfold lastT; rw [if_neg (by omega)]; omega)]) | (rw [List.drop_of_length_le (by omega)]; rfl)))
end Go.Proofs.Y
