/-
  What is proved: bits: what the laws BitsSay and BitsBack compute. Conditions: none.
-/
import Derived.Test.YtoihccclnkhmaaaC1d
import Derived.Test.YtoihccclnkhmaaaP1c
import Derived.Test.YtoihccclnkhmaaaCA
set_option linter.unusedVariables false
set_option linter.unusedSimpArgs false
set_option maxRecDepth 4000
namespace Go.Proofs.Y
open Go.Rb
set_option maxHeartbeats 4000000 in
set_option maxRecDepth 50000 in
theorem written_fun  : Fun Try.prog 36 [] nomem (.c (.bool true)) nomem := by
  refine fun_of_awp Try.func36 rfl (by decide +kernel) (by decide +kernel) (Nat.le_of_ble_eq_true rfl) (fun _ _ => rfl) (fun _ _ => rfl) ?_
  refine awp_seq_k fun K1 hK1 => ?_
  refine awp_region_lit fun L2 hL2 => ?_
  refine aops_orunN 1 _ _ ?_
  simp only [q0, kz, kv, ka, kf, km, y_and, rwR, enR, csR, tyf, Nat.reduceBEq, reduceIte, Nat.reduceEqDiff, Nat.reduceAdd, Nat.reduceLeDiff, reduceCtorEq, Nat.reduceMul, Int.reduceToNat]
  refine aops_nil (hL2 _ ?_)
  simp only [q0, kz, kv, ka, kf, km, y_and, rwR, enR, csR, tyf, Nat.reduceBEq, reduceIte, Nat.reduceEqDiff, Nat.reduceAdd, Nat.reduceLeDiff, reduceCtorEq, Nat.reduceMul, Int.reduceToNat]
  try simp only [rk_state]
  refine hK1 _ ?_
  refine awp_seq_k fun K3 hK3 => ?_
  have s1 : putR [true] 5 4 = ([true, false, true, false, true], 0) := by decide +kernel
  refine awp_region_lit fun L4 hL4 => ?_
  refine aops_orunN 1 _ _ ?_
  simp only [q0, kz, kv, ka, kf, km, y_and, rwR, enR, csR, tyf, Nat.reduceBEq, reduceIte, Nat.reduceEqDiff, Nat.reduceAdd, Nat.reduceLeDiff, reduceCtorEq, Nat.reduceMul, Int.reduceToNat, s1]
  refine aops_call_own (put_fun _ _ _ ?s5_0 ?s5_1) rfl rfl rfl rfl (by (try simp only [q0, kz, kv, ka, kf, km, y_and, rwR, enR, csR, tyf, Nat.reduceBEq, reduceIte, Nat.reduceEqDiff, Nat.reduceAdd, Nat.reduceLeDiff, reduceCtorEq, Nat.reduceMul, Int.reduceToNat, s1]); (repeat' (first | exact .nil | exact wk_c | exact wk_ownc | exact wk_nilsc | exact wk_nils | exact wk_fn | refine .cons ?_ ?_ | refine wk_agg ?_ | refine wk_fnL ?_))) rfl rfl rfl (by simp only [q0, kz, kv, ka, kf, km, y_and, rwR, enR, csR, tyf, Nat.reduceBEq, reduceIte, Nat.reduceEqDiff, Nat.reduceAdd, Nat.reduceLeDiff, reduceCtorEq, Nat.reduceMul, Int.reduceToNat, s1]) ?m5
  case s5_0 => first | assumption | omega | decide +kernel | (simp only [List.length_take, List.length_drop]; omega)
  case s5_1 => omega
  simp only [q0, kz, kv, ka, kf, km, y_and, rwR, enR, csR, tyf, Nat.reduceBEq, reduceIte, Nat.reduceEqDiff, Nat.reduceAdd, Nat.reduceLeDiff, reduceCtorEq, Nat.reduceMul, Int.reduceToNat, AV.setOwn, AV.setOwn1, s1]
  refine aops_orunN 5 _ _ ?_
  simp only [q0, kz, kv, ka, kf, km, y_and, rwR, enR, csR, tyf, Nat.reduceBEq, reduceIte, Nat.reduceEqDiff, Nat.reduceAdd, Nat.reduceLeDiff, reduceCtorEq, Nat.reduceMul, Int.reduceToNat, s1]
  refine aops_nil (hL4 _ ?_)
  simp only [q0, kz, kv, ka, kf, km, y_and, rwR, enR, csR, tyf, Nat.reduceBEq, reduceIte, Nat.reduceEqDiff, Nat.reduceAdd, Nat.reduceLeDiff, reduceCtorEq, Nat.reduceMul, Int.reduceToNat, s1]
  try simp only [rk_state]
  refine hK3 _ ?_
  refine awp_seq_k fun K6 hK6 => ?_
  have s2 : takeR [false, true, true] 2 = (1, [true], 0) := by decide +kernel
  refine awp_region_lit fun L7 hL7 => ?_
  refine aops_orunN 1 _ _ ?_
  simp only [q0, kz, kv, ka, kf, km, y_and, rwR, enR, csR, tyf, Nat.reduceBEq, reduceIte, Nat.reduceEqDiff, Nat.reduceAdd, Nat.reduceLeDiff, reduceCtorEq, Nat.reduceMul, Int.reduceToNat, s1, s2]
  refine aops_call_own (take_fun _ _ ?s8_0) rfl rfl rfl rfl (by (try simp only [q0, kz, kv, ka, kf, km, y_and, rwR, enR, csR, tyf, Nat.reduceBEq, reduceIte, Nat.reduceEqDiff, Nat.reduceAdd, Nat.reduceLeDiff, reduceCtorEq, Nat.reduceMul, Int.reduceToNat, s1, s2]); (repeat' (first | exact .nil | exact wk_c | exact wk_ownc | exact wk_nilsc | exact wk_nils | exact wk_fn | refine .cons ?_ ?_ | refine wk_agg ?_ | refine wk_fnL ?_))) rfl rfl rfl (by simp only [q0, kz, kv, ka, kf, km, y_and, rwR, enR, csR, tyf, Nat.reduceBEq, reduceIte, Nat.reduceEqDiff, Nat.reduceAdd, Nat.reduceLeDiff, reduceCtorEq, Nat.reduceMul, Int.reduceToNat, s1, s2]) ?m8
  case s8_0 => first | assumption | omega | decide +kernel | (simp only [List.length_take, List.length_drop]; omega)
  simp only [q0, kz, kv, ka, kf, km, y_and, rwR, enR, csR, tyf, Nat.reduceBEq, reduceIte, Nat.reduceEqDiff, Nat.reduceAdd, Nat.reduceLeDiff, reduceCtorEq, Nat.reduceMul, Int.reduceToNat, AV.setOwn, AV.setOwn1, s1, s2]
  refine aops_orunN 7 _ _ ?_
  simp only [q0, kz, kv, ka, kf, km, y_and, rwR, enR, csR, tyf, Nat.reduceBEq, reduceIte, Nat.reduceEqDiff, Nat.reduceAdd, Nat.reduceLeDiff, reduceCtorEq, Nat.reduceMul, Int.reduceToNat, s1, s2]
  refine aops_nil (hL7 _ ?_)
  simp only [q0, kz, kv, ka, kf, km, y_and, rwR, enR, csR, tyf, Nat.reduceBEq, reduceIte, Nat.reduceEqDiff, Nat.reduceAdd, Nat.reduceLeDiff, reduceCtorEq, Nat.reduceMul, Int.reduceToNat, s1, s2]
  try simp only [rk_state]
  refine hK6 _ ?_
  as_aux_lemma =>
    refine awp_seq_k fun K9 hK9 => ?_
    have s3 : putR [] 4 2 = ([], 3) := by decide +kernel
    refine awp_region_lit fun L10 hL10 => ?_
    refine aops_call_own (put_fun [] 4 2 (by simp) (by omega)) rfl rfl rfl rfl (by (try simp only [q0, kz, kv, ka, kf, km, y_and, rwR, enR, csR, tyf, Nat.reduceBEq, reduceIte, Nat.reduceEqDiff, Nat.reduceAdd, Nat.reduceLeDiff, reduceCtorEq, Nat.reduceMul, Int.reduceToNat, s1, s2, s3]); (repeat' (first | exact .nil | exact wk_c | exact wk_ownc | exact wk_nilsc | exact wk_nils | exact wk_fn | refine .cons ?_ ?_ | refine wk_agg ?_ | refine wk_fnL ?_))) rfl rfl rfl (by simp only [q0, kz, kv, ka, kf, km, y_and, rwR, enR, csR, tyf, Nat.reduceBEq, reduceIte, Nat.reduceEqDiff, Nat.reduceAdd, Nat.reduceLeDiff, reduceCtorEq, Nat.reduceMul, Int.reduceToNat, s1, s2, s3]) ?_
    simp only [q0, kz, kv, ka, kf, km, y_and, rwR, enR, csR, tyf, Nat.reduceBEq, reduceIte, Nat.reduceEqDiff, Nat.reduceAdd, Nat.reduceLeDiff, reduceCtorEq, Nat.reduceMul, Int.reduceToNat, AV.setOwn, AV.setOwn1, s1, s2, s3]
    refine aops_orunN 5 _ _ ?_
    simp only [q0, kz, kv, ka, kf, km, y_and, rwR, enR, csR, tyf, Nat.reduceBEq, reduceIte, Nat.reduceEqDiff, Nat.reduceAdd, Nat.reduceLeDiff, reduceCtorEq, Nat.reduceMul, Int.reduceToNat, s1, s2, s3]
    refine aops_nil (hL10 _ ?_)
    simp only [q0, kz, kv, ka, kf, km, y_and, rwR, enR, csR, tyf, Nat.reduceBEq, reduceIte, Nat.reduceEqDiff, Nat.reduceAdd, Nat.reduceLeDiff, reduceCtorEq, Nat.reduceMul, Int.reduceToNat, s1, s2, s3]
    try simp only [rk_state]
    refine hK9 _ ?_
    refine awp_seq_k fun K12 hK12 => ?_
    have s4 : takeR [] 1 = (0, [], 8) := by decide +kernel
    refine awp_region_lit fun L13 hL13 => ?_
    refine aops_call_own (take_fun [] 1 (by simp)) rfl rfl rfl rfl (by (try simp only [q0, kz, kv, ka, kf, km, y_and, rwR, enR, csR, tyf, Nat.reduceBEq, reduceIte, Nat.reduceEqDiff, Nat.reduceAdd, Nat.reduceLeDiff, reduceCtorEq, Nat.reduceMul, Int.reduceToNat, s1, s2, s3, s4]); (repeat' (first | exact .nil | exact wk_c | exact wk_ownc | exact wk_nilsc | exact wk_nils | exact wk_fn | refine .cons ?_ ?_ | refine wk_agg ?_ | refine wk_fnL ?_))) rfl rfl rfl (by simp only [q0, kz, kv, ka, kf, km, y_and, rwR, enR, csR, tyf, Nat.reduceBEq, reduceIte, Nat.reduceEqDiff, Nat.reduceAdd, Nat.reduceLeDiff, reduceCtorEq, Nat.reduceMul, Int.reduceToNat, s1, s2, s3, s4]) ?_
    simp only [q0, kz, kv, ka, kf, km, y_and, rwR, enR, csR, tyf, Nat.reduceBEq, reduceIte, Nat.reduceEqDiff, Nat.reduceAdd, Nat.reduceLeDiff, reduceCtorEq, Nat.reduceMul, Int.reduceToNat, AV.setOwn, AV.setOwn1, s1, s2, s3, s4]
    refine aops_orunN 7 _ _ ?_
    simp only [q0, kz, kv, ka, kf, km, y_and, rwR, enR, csR, tyf, Nat.reduceBEq, reduceIte, Nat.reduceEqDiff, Nat.reduceAdd, Nat.reduceLeDiff, reduceCtorEq, Nat.reduceMul, Int.reduceToNat, s1, s2, s3, s4]
    refine aops_nil (hL13 _ ?_)
    simp only [q0, kz, kv, ka, kf, km, y_and, rwR, enR, csR, tyf, Nat.reduceBEq, reduceIte, Nat.reduceEqDiff, Nat.reduceAdd, Nat.reduceLeDiff, reduceCtorEq, Nat.reduceMul, Int.reduceToNat, s1, s2, s3, s4]
    try simp only [rk_state]
    refine hK12 _ ?_
    refine awp_seq_k fun K15 hK15 => ?_
    refine awp_region_lit fun L16 hL16 => ?_
    refine aops_orunN 3 _ _ ?_
    simp only [q0, kz, kv, ka, kf, km, y_and, rwR, enR, csR, tyf, Nat.reduceBEq, reduceIte, Nat.reduceEqDiff, Nat.reduceAdd, Nat.reduceLeDiff, reduceCtorEq, Nat.reduceMul, Int.reduceToNat, s1, s2, s3, s4]
    refine aops_part (b := ?p17) 33 ?h17 (fun hb17 => ?a17) (fun hb17 => ?b17)
    case h17 => simp only [q0, kz, kv, ka, kf, km, y_and, rwR, enR, csR, tyf, Nat.reduceBEq, reduceIte, Nat.reduceEqDiff, Nat.reduceAdd, Nat.reduceLeDiff, reduceCtorEq, Nat.reduceMul, Int.reduceToNat, s1, s2, s3, s4]; rfl
    case a17 =>
      have hp17 := hb17
      try simp only [kb] at hp17
      all_goals try exact absurd hb17 (by decide)
      all_goals try (exfalso; omega)
      all_goals
        try simp only [hb17]
        refine aops_orunN 4 _ _ ?_
        simp only [q0, kz, kv, ka, kf, km, y_and, rwR, enR, csR, tyf, Nat.reduceBEq, reduceIte, Nat.reduceEqDiff, Nat.reduceAdd, Nat.reduceLeDiff, reduceCtorEq, Nat.reduceMul, Int.reduceToNat, s1, s2, s3, s4, hb17]
        refine aops_part (b := ?p18) 37 ?h18 (fun hb18 => ?a18) (fun hb18 => ?b18)
        case h18 => simp only [q0, kz, kv, ka, kf, km, y_and, rwR, enR, csR, tyf, Nat.reduceBEq, reduceIte, Nat.reduceEqDiff, Nat.reduceAdd, Nat.reduceLeDiff, reduceCtorEq, Nat.reduceMul, Int.reduceToNat, s1, s2, s3, s4, hb17]; rfl
        case a18 =>
          have hp18 := hb18
          try simp only [kb] at hp18
          all_goals try exact absurd hb18 (by decide)
          all_goals try (exfalso; omega)
          all_goals
            try simp only [hb18]
            refine aops_orunN 4 _ _ ?_
            simp only [q0, kz, kv, ka, kf, km, y_and, rwR, enR, csR, tyf, Nat.reduceBEq, reduceIte, Nat.reduceEqDiff, Nat.reduceAdd, Nat.reduceLeDiff, reduceCtorEq, Nat.reduceMul, Int.reduceToNat, s1, s2, s3, s4, hb17, hb18]
            refine aops_part (b := ?p19) 41 ?h19 (fun hb19 => ?a19) (fun hb19 => ?b19)
            case h19 => simp only [q0, kz, kv, ka, kf, km, y_and, rwR, enR, csR, tyf, Nat.reduceBEq, reduceIte, Nat.reduceEqDiff, Nat.reduceAdd, Nat.reduceLeDiff, reduceCtorEq, Nat.reduceMul, Int.reduceToNat, s1, s2, s3, s4, hb17, hb18]; rfl
            case a19 =>
              have hp19 := hb19
              try simp only [kb] at hp19
              all_goals try exact absurd hb19 (by decide)
              all_goals try (exfalso; omega)
              all_goals
                try simp only [hb19]
                refine aops_orunN 4 _ _ ?_
                simp only [q0, kz, kv, ka, kf, km, y_and, rwR, enR, csR, tyf, Nat.reduceBEq, reduceIte, Nat.reduceEqDiff, Nat.reduceAdd, Nat.reduceLeDiff, reduceCtorEq, Nat.reduceMul, Int.reduceToNat, s1, s2, s3, s4, hb17, hb18, hb19]
                refine aops_part (b := ?p20) 45 ?h20 (fun hb20 => ?a20) (fun hb20 => ?b20)
                case h20 => simp only [q0, kz, kv, ka, kf, km, y_and, rwR, enR, csR, tyf, Nat.reduceBEq, reduceIte, Nat.reduceEqDiff, Nat.reduceAdd, Nat.reduceLeDiff, reduceCtorEq, Nat.reduceMul, Int.reduceToNat, s1, s2, s3, s4, hb17, hb18, hb19]; rfl
                case a20 =>
                  have hp20 := hb20
                  try simp only [kb] at hp20
                  all_goals try exact absurd hb20 (by decide)
                  all_goals try (exfalso; omega)
                  all_goals
                    try simp only [hb20]
                    refine aops_orunN 2 _ _ ?_
                    simp only [q0, kz, kv, ka, kf, km, y_and, rwR, enR, csR, tyf, Nat.reduceBEq, reduceIte, Nat.reduceEqDiff, Nat.reduceAdd, Nat.reduceLeDiff, reduceCtorEq, Nat.reduceMul, Int.reduceToNat, s1, s2, s3, s4, hb17, hb18, hb19, hb20]
                    refine aops_call (equal_bool_fun [true, false, true, false, true] [true, false, true, false, true] (by simp)) (by simp only [q0, kz, kv, ka, kf, km, y_and, rwR, enR, csR, tyf, Nat.reduceBEq, reduceIte, Nat.reduceEqDiff, Nat.reduceAdd, Nat.reduceLeDiff, reduceCtorEq, Nat.reduceMul, Int.reduceToNat, s1, s2, s3, s4, hb17, hb18, hb19, hb20]) rfl rfl rfl (by (try simp only [q0, kz, kv, ka, kf, km, y_and, rwR, enR, csR, tyf, Nat.reduceBEq, reduceIte, Nat.reduceEqDiff, Nat.reduceAdd, Nat.reduceLeDiff, reduceCtorEq, Nat.reduceMul, Int.reduceToNat, s1, s2, s3, s4, hb17, hb18, hb19, hb20]); (repeat' (first | exact .nil | exact wk_c | exact wk_ownc | exact wk_nilsc | exact wk_nils | exact wk_fn | refine .cons ?_ ?_ | refine wk_agg ?_ | refine wk_fnL ?_))) rfl rfl ?_
                    simp only [q0, kz, kv, ka, kf, km, y_and, rwR, enR, csR, tyf, Nat.reduceBEq, reduceIte, Nat.reduceEqDiff, Nat.reduceAdd, Nat.reduceLeDiff, reduceCtorEq, Nat.reduceMul, Int.reduceToNat, s1, s2, s3, s4, hb17, hb18, hb19, hb20]
                    refine aops_orunN 2 _ _ ?_
                    simp only [q0, kz, kv, ka, kf, km, y_and, rwR, enR, csR, tyf, Nat.reduceBEq, reduceIte, Nat.reduceEqDiff, Nat.reduceAdd, Nat.reduceLeDiff, reduceCtorEq, Nat.reduceMul, Int.reduceToNat, s1, s2, s3, s4, hb17, hb18, hb19, hb20]
                    refine aops_part (b := ?p22) 50 ?h22 (fun hb22 => ?a22) (fun hb22 => ?b22)
                    case h22 => simp only [q0, kz, kv, ka, kf, km, y_and, rwR, enR, csR, tyf, Nat.reduceBEq, reduceIte, Nat.reduceEqDiff, Nat.reduceAdd, Nat.reduceLeDiff, reduceCtorEq, Nat.reduceMul, Int.reduceToNat, s1, s2, s3, s4, hb17, hb18, hb19, hb20]; rfl
                    case a22 =>
                      have hp22 := hb22
                      try simp only [kb] at hp22
                      all_goals try exact absurd hb22 (by decide)
                      all_goals try (exfalso; omega)
                      all_goals
                        try simp only [hb22]
                        refine aops_orunN 4 _ _ ?_
                        simp only [q0, kz, kv, ka, kf, km, y_and, rwR, enR, csR, tyf, Nat.reduceBEq, reduceIte, Nat.reduceEqDiff, Nat.reduceAdd, Nat.reduceLeDiff, reduceCtorEq, Nat.reduceMul, Int.reduceToNat, s1, s2, s3, s4, hb17, hb18, hb19, hb20, hb22]
                        refine aops_part (b := ?p23) 54 ?h23 (fun hb23 => ?a23) (fun hb23 => ?b23)
                        case h23 => simp only [q0, kz, kv, ka, kf, km, y_and, rwR, enR, csR, tyf, Nat.reduceBEq, reduceIte, Nat.reduceEqDiff, Nat.reduceAdd, Nat.reduceLeDiff, reduceCtorEq, Nat.reduceMul, Int.reduceToNat, s1, s2, s3, s4, hb17, hb18, hb19, hb20, hb22]; rfl
                        case a23 =>
                          have hp23 := hb23
                          try simp only [kb] at hp23
                          all_goals try exact absurd hb23 (by decide)
                          all_goals try (exfalso; omega)
                          all_goals
                            try simp only [hb23]
                            refine aops_orunN 2 _ _ ?_
                            simp only [q0, kz, kv, ka, kf, km, y_and, rwR, enR, csR, tyf, Nat.reduceBEq, reduceIte, Nat.reduceEqDiff, Nat.reduceAdd, Nat.reduceLeDiff, reduceCtorEq, Nat.reduceMul, Int.reduceToNat, s1, s2, s3, s4, hb17, hb18, hb19, hb20, hb22, hb23]
                            refine aops_call (equal_bool_fun [true] [true] (by simp)) (by simp only [q0, kz, kv, ka, kf, km, y_and, rwR, enR, csR, tyf, Nat.reduceBEq, reduceIte, Nat.reduceEqDiff, Nat.reduceAdd, Nat.reduceLeDiff, reduceCtorEq, Nat.reduceMul, Int.reduceToNat, s1, s2, s3, s4, hb17, hb18, hb19, hb20, hb22, hb23]) rfl rfl rfl (by (try simp only [q0, kz, kv, ka, kf, km, y_and, rwR, enR, csR, tyf, Nat.reduceBEq, reduceIte, Nat.reduceEqDiff, Nat.reduceAdd, Nat.reduceLeDiff, reduceCtorEq, Nat.reduceMul, Int.reduceToNat, s1, s2, s3, s4, hb17, hb18, hb19, hb20, hb22, hb23]); (repeat' (first | exact .nil | exact wk_c | exact wk_ownc | exact wk_nilsc | exact wk_nils | exact wk_fn | refine .cons ?_ ?_ | refine wk_agg ?_ | refine wk_fnL ?_))) rfl rfl ?_
                            simp only [q0, kz, kv, ka, kf, km, y_and, rwR, enR, csR, tyf, Nat.reduceBEq, reduceIte, Nat.reduceEqDiff, Nat.reduceAdd, Nat.reduceLeDiff, reduceCtorEq, Nat.reduceMul, Int.reduceToNat, s1, s2, s3, s4, hb17, hb18, hb19, hb20, hb22, hb23]
                            refine aops_orunN 2 _ _ ?_
                            simp only [q0, kz, kv, ka, kf, km, y_and, rwR, enR, csR, tyf, Nat.reduceBEq, reduceIte, Nat.reduceEqDiff, Nat.reduceAdd, Nat.reduceLeDiff, reduceCtorEq, Nat.reduceMul, Int.reduceToNat, s1, s2, s3, s4, hb17, hb18, hb19, hb20, hb22, hb23]
                            refine aops_nil (hL16 _ ?_)
                            simp only [q0, kz, kv, ka, kf, km, y_and, rwR, enR, csR, tyf, Nat.reduceBEq, reduceIte, Nat.reduceEqDiff, Nat.reduceAdd, Nat.reduceLeDiff, reduceCtorEq, Nat.reduceMul, Int.reduceToNat, s1, s2, s3, s4, hb17, hb18, hb19, hb20, hb22, hb23]
                            try simp only [rk_state]
                            refine hK15 _ ?_
                            as_aux_lemma =>
                              refine awp_ret ?_
                              try simp only [rk_state]
                              refine ⟨_, 0, by simp only [q0, kz, kv, ka, kf, km, y_and, rwR, enR, csR, tyf, Nat.reduceBEq, reduceIte, Nat.reduceEqDiff, Nat.reduceAdd, Nat.reduceLeDiff, reduceCtorEq, Nat.reduceMul, Int.reduceToNat, resA, Try.results36, s1, s2, s3, s4, hb17, hb18, hb19, hb20, hb22, hb23]; rfl, ?_, fun l hl => absurd rfl hl, fun l hl => absurd rfl hl⟩
                              simp only [packA]
                              (repeat' (first | exact .nil | exact wkR_c | exact wkR_own | exact wkR_nils | refine wkR_int ?_ | refine wkR_bool ?_ | refine wkR_sl ?_ | refine wkR_osl ?_ | refine wkR_nsl ?_ | refine wkR_oo ?_ | refine wkR_no ?_ | refine .cons ?_ ?_ | refine wkR_agg ?_ | refine wkR_tup ?_))
                        case b23 =>
                          have hp23 := hb23
                          try simp only [kb] at hp23
                          all_goals try exact absurd hb23 (by decide)
                          all_goals try (exfalso; omega)
                          all_goals
                            try simp only [hb23]
                            refine aops_orunN 5 _ _ ?_
                            simp only [q0, kz, kv, ka, kf, km, y_and, rwR, enR, csR, tyf, Nat.reduceBEq, reduceIte, Nat.reduceEqDiff, Nat.reduceAdd, Nat.reduceLeDiff, reduceCtorEq, Nat.reduceMul, Int.reduceToNat, s1, s2, s3, s4, hb17, hb18, hb19, hb20, hb22, hb23]
                            refine aops_nil (hL16 _ ?_)
                            simp only [q0, kz, kv, ka, kf, km, y_and, rwR, enR, csR, tyf, Nat.reduceBEq, reduceIte, Nat.reduceEqDiff, Nat.reduceAdd, Nat.reduceLeDiff, reduceCtorEq, Nat.reduceMul, Int.reduceToNat, s1, s2, s3, s4, hb17, hb18, hb19, hb20, hb22, hb23]
                            try simp only [rk_state]
                            refine hK15 _ ?_
                            refine awp_ret ?_
                            try simp only [rk_state]
                            refine ⟨_, 0, by simp only [q0, kz, kv, ka, kf, km, y_and, rwR, enR, csR, tyf, Nat.reduceBEq, reduceIte, Nat.reduceEqDiff, Nat.reduceAdd, Nat.reduceLeDiff, reduceCtorEq, Nat.reduceMul, Int.reduceToNat, resA, Try.results36, s1, s2, s3, s4, hb17, hb18, hb19, hb20, hb22, hb23]; rfl, ?_, fun l hl => absurd rfl hl, fun l hl => absurd rfl hl⟩
                            simp only [packA]
                            (repeat' (first | exact .nil | exact wkR_c | exact wkR_own | exact wkR_nils | refine wkR_int ?_ | refine wkR_bool ?_ | refine wkR_sl ?_ | refine wkR_osl ?_ | refine wkR_nsl ?_ | refine wkR_oo ?_ | refine wkR_no ?_ | refine .cons ?_ ?_ | refine wkR_agg ?_ | refine wkR_tup ?_))
                    case b22 =>
                      have hp22 := hb22
                      try simp only [kb] at hp22
                      all_goals try exact absurd hb22 (by decide)
                      all_goals try (exfalso; omega)
                      all_goals
                        try simp only [hb22]
                        refine aops_orunN 9 _ _ ?_
                        simp only [q0, kz, kv, ka, kf, km, y_and, rwR, enR, csR, tyf, Nat.reduceBEq, reduceIte, Nat.reduceEqDiff, Nat.reduceAdd, Nat.reduceLeDiff, reduceCtorEq, Nat.reduceMul, Int.reduceToNat, s1, s2, s3, s4, hb17, hb18, hb19, hb20, hb22]
                        refine aops_nil (hL16 _ ?_)
                        simp only [q0, kz, kv, ka, kf, km, y_and, rwR, enR, csR, tyf, Nat.reduceBEq, reduceIte, Nat.reduceEqDiff, Nat.reduceAdd, Nat.reduceLeDiff, reduceCtorEq, Nat.reduceMul, Int.reduceToNat, s1, s2, s3, s4, hb17, hb18, hb19, hb20, hb22]
                        try simp only [rk_state]
                        refine hK15 _ ?_
                        refine awp_ret ?_
                        try simp only [rk_state]
                        refine ⟨_, 0, by simp only [q0, kz, kv, ka, kf, km, y_and, rwR, enR, csR, tyf, Nat.reduceBEq, reduceIte, Nat.reduceEqDiff, Nat.reduceAdd, Nat.reduceLeDiff, reduceCtorEq, Nat.reduceMul, Int.reduceToNat, resA, Try.results36, s1, s2, s3, s4, hb17, hb18, hb19, hb20, hb22]; rfl, ?_, fun l hl => absurd rfl hl, fun l hl => absurd rfl hl⟩
                        simp only [packA]
                        (repeat' (first | exact .nil | exact wkR_c | exact wkR_own | exact wkR_nils | refine wkR_int ?_ | refine wkR_bool ?_ | refine wkR_sl ?_ | refine wkR_osl ?_ | refine wkR_nsl ?_ | refine wkR_oo ?_ | refine wkR_no ?_ | refine .cons ?_ ?_ | refine wkR_agg ?_ | refine wkR_tup ?_))
                case b20 =>
                  have hp20 := hb20
                  try simp only [kb] at hp20
                  all_goals try exact absurd hb20 (by decide)
                  all_goals try (exfalso; omega)
                  all_goals
                    try simp only [hb20]
                    refine aops_orunN 14 _ _ ?_
                    simp only [q0, kz, kv, ka, kf, km, y_and, rwR, enR, csR, tyf, Nat.reduceBEq, reduceIte, Nat.reduceEqDiff, Nat.reduceAdd, Nat.reduceLeDiff, reduceCtorEq, Nat.reduceMul, Int.reduceToNat, s1, s2, s3, s4, hb17, hb18, hb19, hb20]
                    refine aops_nil (hL16 _ ?_)
                    simp only [q0, kz, kv, ka, kf, km, y_and, rwR, enR, csR, tyf, Nat.reduceBEq, reduceIte, Nat.reduceEqDiff, Nat.reduceAdd, Nat.reduceLeDiff, reduceCtorEq, Nat.reduceMul, Int.reduceToNat, s1, s2, s3, s4, hb17, hb18, hb19, hb20]
                    try simp only [rk_state]
                    refine hK15 _ ?_
                    refine awp_ret ?_
                    try simp only [rk_state]
                    refine ⟨_, 0, by simp only [q0, kz, kv, ka, kf, km, y_and, rwR, enR, csR, tyf, Nat.reduceBEq, reduceIte, Nat.reduceEqDiff, Nat.reduceAdd, Nat.reduceLeDiff, reduceCtorEq, Nat.reduceMul, Int.reduceToNat, resA, Try.results36, s1, s2, s3, s4, hb17, hb18, hb19, hb20]; rfl, ?_, fun l hl => absurd rfl hl, fun l hl => absurd rfl hl⟩
                    simp only [packA]
                    (repeat' (first | exact .nil | exact wkR_c | exact wkR_own | exact wkR_nils | refine wkR_int ?_ | refine wkR_bool ?_ | refine wkR_sl ?_ | refine wkR_osl ?_ | refine wkR_nsl ?_ | refine wkR_oo ?_ | refine wkR_no ?_ | refine .cons ?_ ?_ | refine wkR_agg ?_ | refine wkR_tup ?_))
            case b19 =>
              have hp19 := hb19
              try simp only [kb] at hp19
              all_goals try exact absurd hb19 (by decide)
              all_goals try (exfalso; omega)
              all_goals
                try simp only [hb19]
                refine aops_orunN 18 _ _ ?_
                simp only [q0, kz, kv, ka, kf, km, y_and, rwR, enR, csR, tyf, Nat.reduceBEq, reduceIte, Nat.reduceEqDiff, Nat.reduceAdd, Nat.reduceLeDiff, reduceCtorEq, Nat.reduceMul, Int.reduceToNat, s1, s2, s3, s4, hb17, hb18, hb19]
                refine aops_nil (hL16 _ ?_)
                simp only [q0, kz, kv, ka, kf, km, y_and, rwR, enR, csR, tyf, Nat.reduceBEq, reduceIte, Nat.reduceEqDiff, Nat.reduceAdd, Nat.reduceLeDiff, reduceCtorEq, Nat.reduceMul, Int.reduceToNat, s1, s2, s3, s4, hb17, hb18, hb19]
                try simp only [rk_state]
                refine hK15 _ ?_
                refine awp_ret ?_
                try simp only [rk_state]
                refine ⟨_, 0, by simp only [q0, kz, kv, ka, kf, km, y_and, rwR, enR, csR, tyf, Nat.reduceBEq, reduceIte, Nat.reduceEqDiff, Nat.reduceAdd, Nat.reduceLeDiff, reduceCtorEq, Nat.reduceMul, Int.reduceToNat, resA, Try.results36, s1, s2, s3, s4, hb17, hb18, hb19]; rfl, ?_, fun l hl => absurd rfl hl, fun l hl => absurd rfl hl⟩
                simp only [packA]
                (repeat' (first | exact .nil | exact wkR_c | exact wkR_own | exact wkR_nils | refine wkR_int ?_ | refine wkR_bool ?_ | refine wkR_sl ?_ | refine wkR_osl ?_ | refine wkR_nsl ?_ | refine wkR_oo ?_ | refine wkR_no ?_ | refine .cons ?_ ?_ | refine wkR_agg ?_ | refine wkR_tup ?_))
        case b18 =>
          have hp18 := hb18
          try simp only [kb] at hp18
          all_goals try exact absurd hb18 (by decide)
          all_goals try (exfalso; omega)
          all_goals
            try simp only [hb18]
            refine aops_orunN 22 _ _ ?_
            simp only [q0, kz, kv, ka, kf, km, y_and, rwR, enR, csR, tyf, Nat.reduceBEq, reduceIte, Nat.reduceEqDiff, Nat.reduceAdd, Nat.reduceLeDiff, reduceCtorEq, Nat.reduceMul, Int.reduceToNat, s1, s2, s3, s4, hb17, hb18]
            refine aops_nil (hL16 _ ?_)
            simp only [q0, kz, kv, ka, kf, km, y_and, rwR, enR, csR, tyf, Nat.reduceBEq, reduceIte, Nat.reduceEqDiff, Nat.reduceAdd, Nat.reduceLeDiff, reduceCtorEq, Nat.reduceMul, Int.reduceToNat, s1, s2, s3, s4, hb17, hb18]
            try simp only [rk_state]
            refine hK15 _ ?_
            refine awp_ret ?_
            try simp only [rk_state]
            refine ⟨_, 0, by simp only [q0, kz, kv, ka, kf, km, y_and, rwR, enR, csR, tyf, Nat.reduceBEq, reduceIte, Nat.reduceEqDiff, Nat.reduceAdd, Nat.reduceLeDiff, reduceCtorEq, Nat.reduceMul, Int.reduceToNat, resA, Try.results36, s1, s2, s3, s4, hb17, hb18]; rfl, ?_, fun l hl => absurd rfl hl, fun l hl => absurd rfl hl⟩
            simp only [packA]
            (repeat' (first | exact .nil | exact wkR_c | exact wkR_own | exact wkR_nils | refine wkR_int ?_ | refine wkR_bool ?_ | refine wkR_sl ?_ | refine wkR_osl ?_ | refine wkR_nsl ?_ | refine wkR_oo ?_ | refine wkR_no ?_ | refine .cons ?_ ?_ | refine wkR_agg ?_ | refine wkR_tup ?_))
    case b17 =>
      have hp17 := hb17
      try simp only [kb] at hp17
      all_goals try exact absurd hb17 (by decide)
      all_goals try (exfalso; omega)
      all_goals
        try simp only [hb17]
        refine aops_orunN 26 _ _ ?_
        simp only [q0, kz, kv, ka, kf, km, y_and, rwR, enR, csR, tyf, Nat.reduceBEq, reduceIte, Nat.reduceEqDiff, Nat.reduceAdd, Nat.reduceLeDiff, reduceCtorEq, Nat.reduceMul, Int.reduceToNat, s1, s2, s3, s4, hb17]
        refine aops_nil (hL16 _ ?_)
        simp only [q0, kz, kv, ka, kf, km, y_and, rwR, enR, csR, tyf, Nat.reduceBEq, reduceIte, Nat.reduceEqDiff, Nat.reduceAdd, Nat.reduceLeDiff, reduceCtorEq, Nat.reduceMul, Int.reduceToNat, s1, s2, s3, s4, hb17]
        try simp only [rk_state]
        refine hK15 _ ?_
        refine awp_ret ?_
        try simp only [rk_state]
        refine ⟨_, 0, by simp only [q0, kz, kv, ka, kf, km, y_and, rwR, enR, csR, tyf, Nat.reduceBEq, reduceIte, Nat.reduceEqDiff, Nat.reduceAdd, Nat.reduceLeDiff, reduceCtorEq, Nat.reduceMul, Int.reduceToNat, resA, Try.results36, s1, s2, s3, s4, hb17]; rfl, ?_, fun l hl => absurd rfl hl, fun l hl => absurd rfl hl⟩
        simp only [packA]
        (repeat' (first | exact .nil | exact wkR_c | exact wkR_own | exact wkR_nils | refine wkR_int ?_ | refine wkR_bool ?_ | refine wkR_sl ?_ | refine wkR_osl ?_ | refine wkR_nsl ?_ | refine wkR_oo ?_ | refine wkR_no ?_ | refine .cons ?_ ?_ | refine wkR_agg ?_ | refine wkR_tup ?_))
set_option maxHeartbeats 4000000 in
set_option maxRecDepth 50000 in
theorem bitsSay_fun (l : List Bool) (n w : Int) (hl : l.length ≤ 140737488351232) (hn : n ≤ 9223372036854775807) : Fun Try.prog 6 [.c (.sl 4 (Rw boC l)), .c (.int .i64 n), .c (.int .i64 w)] nomem (.c (.bool true)) nomem := by
  refine fun_of_awp Try.func6 rfl (by decide +kernel) (by decide +kernel) (Nat.le_of_ble_eq_true rfl) (fun _ _ => rfl) (fun _ _ => rfl) ?_
  refine awp_seq_k fun K1 hK1 => ?_
  refine awp_region_lit fun L2 hL2 => ?_
  refine aops_orunN 1 _ _ ?_
  simp only [q0, kz, kv, ka, kf, km, y_and, rwR, enR, csR, tyf, Nat.reduceBEq, reduceIte, Nat.reduceEqDiff, Nat.reduceAdd, Nat.reduceLeDiff, reduceCtorEq, Nat.reduceMul, Int.reduceToNat]
  refine aops_nil (hL2 _ ?_)
  simp only [q0, kz, kv, ka, kf, km, y_and, rwR, enR, csR, tyf, Nat.reduceBEq, reduceIte, Nat.reduceEqDiff, Nat.reduceAdd, Nat.reduceLeDiff, reduceCtorEq, Nat.reduceMul, Int.reduceToNat]
  try simp only [rk_state]
  refine hK1 _ ?_
  refine awp_seq_k fun K3 hK3 => ?_
  refine awp_region_lit fun L4 hL4 => ?_
  refine aops_orunN 3 _ _ ?_
  simp only [q0, kz, kv, ka, kf, km, y_and, rwR, enR, csR, tyf, Nat.reduceBEq, reduceIte, Nat.reduceEqDiff, Nat.reduceAdd, Nat.reduceLeDiff, reduceCtorEq, Nat.reduceMul, Int.reduceToNat]
  refine aops_call_own (put_fun _ _ _ ?s5_0 ?s5_1) rfl rfl rfl rfl (by (try simp only [q0, kz, kv, ka, kf, km, y_and, rwR, enR, csR, tyf, Nat.reduceBEq, reduceIte, Nat.reduceEqDiff, Nat.reduceAdd, Nat.reduceLeDiff, reduceCtorEq, Nat.reduceMul, Int.reduceToNat]); (repeat' (first | exact .nil | exact wk_c | exact wk_ownc | exact wk_nilsc | exact wk_nils | exact wk_fn | refine .cons ?_ ?_ | refine wk_agg ?_ | refine wk_fnL ?_))) rfl rfl rfl (by simp only [q0, kz, kv, ka, kf, km, y_and, rwR, enR, csR, tyf, Nat.reduceBEq, reduceIte, Nat.reduceEqDiff, Nat.reduceAdd, Nat.reduceLeDiff, reduceCtorEq, Nat.reduceMul, Int.reduceToNat]) ?m5
  case s5_0 => first | assumption | omega | decide +kernel | (simp only [List.length_take, List.length_drop]; omega)
  case s5_1 => omega
  simp only [q0, kz, kv, ka, kf, km, y_and, rwR, enR, csR, tyf, Nat.reduceBEq, reduceIte, Nat.reduceEqDiff, Nat.reduceAdd, Nat.reduceLeDiff, reduceCtorEq, Nat.reduceMul, Int.reduceToNat, AV.setOwn, AV.setOwn1]
  refine aops_orunN 5 _ _ ?_
  simp only [q0, kz, kv, ka, kf, km, y_and, rwR, enR, csR, tyf, Nat.reduceBEq, reduceIte, Nat.reduceEqDiff, Nat.reduceAdd, Nat.reduceLeDiff, reduceCtorEq, Nat.reduceMul, Int.reduceToNat]
  refine aops_nil (hL4 _ ?_)
  simp only [q0, kz, kv, ka, kf, km, y_and, rwR, enR, csR, tyf, Nat.reduceBEq, reduceIte, Nat.reduceEqDiff, Nat.reduceAdd, Nat.reduceLeDiff, reduceCtorEq, Nat.reduceMul, Int.reduceToNat]
  try simp only [rk_state]
  refine hK3 _ ?_
  refine awp_seq_k fun K6 hK6 => ?_
  refine awp_region_lit fun L7 hL7 => ?_
  refine aops_orunN 2 _ _ ?_
  simp only [q0, kz, kv, ka, kf, km, y_and, rwR, enR, csR, tyf, Nat.reduceBEq, reduceIte, Nat.reduceEqDiff, Nat.reduceAdd, Nat.reduceLeDiff, reduceCtorEq, Nat.reduceMul, Int.reduceToNat]
  refine aops_call_own (take_fun _ _ ?s8_0) rfl rfl rfl rfl (by (try simp only [q0, kz, kv, ka, kf, km, y_and, rwR, enR, csR, tyf, Nat.reduceBEq, reduceIte, Nat.reduceEqDiff, Nat.reduceAdd, Nat.reduceLeDiff, reduceCtorEq, Nat.reduceMul, Int.reduceToNat]); (repeat' (first | exact .nil | exact wk_c | exact wk_ownc | exact wk_nilsc | exact wk_nils | exact wk_fn | refine .cons ?_ ?_ | refine wk_agg ?_ | refine wk_fnL ?_))) rfl rfl rfl (by simp only [q0, kz, kv, ka, kf, km, y_and, rwR, enR, csR, tyf, Nat.reduceBEq, reduceIte, Nat.reduceEqDiff, Nat.reduceAdd, Nat.reduceLeDiff, reduceCtorEq, Nat.reduceMul, Int.reduceToNat]) ?m8
  case s8_0 => first | assumption | omega | decide +kernel | (simp only [List.length_take, List.length_drop]; omega)
  simp only [q0, kz, kv, ka, kf, km, y_and, rwR, enR, csR, tyf, Nat.reduceBEq, reduceIte, Nat.reduceEqDiff, Nat.reduceAdd, Nat.reduceLeDiff, reduceCtorEq, Nat.reduceMul, Int.reduceToNat, AV.setOwn, AV.setOwn1]
  refine aops_orunN 7 _ _ ?_
  simp only [q0, kz, kv, ka, kf, km, y_and, rwR, enR, csR, tyf, Nat.reduceBEq, reduceIte, Nat.reduceEqDiff, Nat.reduceAdd, Nat.reduceLeDiff, reduceCtorEq, Nat.reduceMul, Int.reduceToNat]
  refine aops_nil (hL7 _ ?_)
  simp only [q0, kz, kv, ka, kf, km, y_and, rwR, enR, csR, tyf, Nat.reduceBEq, reduceIte, Nat.reduceEqDiff, Nat.reduceAdd, Nat.reduceLeDiff, reduceCtorEq, Nat.reduceMul, Int.reduceToNat]
  try simp only [rk_state]
  refine hK6 _ ?_
  as_aux_lemma =>
    refine awp_seq_k fun K9 hK9 => ?_
    refine awp_region_lit fun L10 hL10 => ?_
    refine aops_orunN 3 _ _ ?_
    simp only [q0, kz, kv, ka, kf, km, y_and, rwR, enR, csR, tyf, Nat.reduceBEq, reduceIte, Nat.reduceEqDiff, Nat.reduceAdd, Nat.reduceLeDiff, reduceCtorEq, Nat.reduceMul, Int.reduceToNat]
    refine aops_call_own (bitsof_fun _ _ _ ?s11_0 ?s11_1) rfl rfl rfl rfl (by (try simp only [q0, kz, kv, ka, kf, km, y_and, rwR, enR, csR, tyf, Nat.reduceBEq, reduceIte, Nat.reduceEqDiff, Nat.reduceAdd, Nat.reduceLeDiff, reduceCtorEq, Nat.reduceMul, Int.reduceToNat]); (repeat' (first | exact .nil | exact wk_c | exact wk_ownc | exact wk_nilsc | exact wk_nils | exact wk_fn | refine .cons ?_ ?_ | refine wk_agg ?_ | refine wk_fnL ?_))) rfl rfl rfl (by simp only [q0, kz, kv, ka, kf, km, y_and, rwR, enR, csR, tyf, Nat.reduceBEq, reduceIte, Nat.reduceEqDiff, Nat.reduceAdd, Nat.reduceLeDiff, reduceCtorEq, Nat.reduceMul, Int.reduceToNat]) ?m11
    case s11_0 => first | assumption | omega | decide +kernel | (simp only [List.length_take, List.length_drop]; omega)
    case s11_1 => omega
    simp only [q0, kz, kv, ka, kf, km, y_and, rwR, enR, csR, tyf, Nat.reduceBEq, reduceIte, Nat.reduceEqDiff, Nat.reduceAdd, Nat.reduceLeDiff, reduceCtorEq, Nat.reduceMul, Int.reduceToNat, AV.setOwn, AV.setOwn1]
    refine aops_orunN 5 _ _ ?_
    simp only [q0, kz, kv, ka, kf, km, y_and, rwR, enR, csR, tyf, Nat.reduceBEq, reduceIte, Nat.reduceEqDiff, Nat.reduceAdd, Nat.reduceLeDiff, reduceCtorEq, Nat.reduceMul, Int.reduceToNat]
    refine aops_nil (hL10 _ ?_)
    simp only [q0, kz, kv, ka, kf, km, y_and, rwR, enR, csR, tyf, Nat.reduceBEq, reduceIte, Nat.reduceEqDiff, Nat.reduceAdd, Nat.reduceLeDiff, reduceCtorEq, Nat.reduceMul, Int.reduceToNat]
    try simp only [rk_state]
    refine hK9 _ ?_
    refine awp_seq_k fun K12 hK12 => ?_
    refine awp_region_lit fun L13 hL13 => ?_
    refine aops_orunN 2 _ _ ?_
    simp only [q0, kz, kv, ka, kf, km, y_and, rwR, enR, csR, tyf, Nat.reduceBEq, reduceIte, Nat.reduceEqDiff, Nat.reduceAdd, Nat.reduceLeDiff, reduceCtorEq, Nat.reduceMul, Int.reduceToNat]
    refine aops_call (taken_fun _ _) rfl rfl rfl rfl (by (try simp only [q0, kz, kv, ka, kf, km, y_and, rwR, enR, csR, tyf, Nat.reduceBEq, reduceIte, Nat.reduceEqDiff, Nat.reduceAdd, Nat.reduceLeDiff, reduceCtorEq, Nat.reduceMul, Int.reduceToNat]); (repeat' (first | exact .nil | exact wk_c | exact wk_ownc | exact wk_nilsc | exact wk_nils | exact wk_fn | refine .cons ?_ ?_ | refine wk_agg ?_ | refine wk_fnL ?_))) rfl rfl ?_
    simp only [q0, kz, kv, ka, kf, km, y_and, rwR, enR, csR, tyf, Nat.reduceBEq, reduceIte, Nat.reduceEqDiff, Nat.reduceAdd, Nat.reduceLeDiff, reduceCtorEq, Nat.reduceMul, Int.reduceToNat]
    refine aops_orunN 7 _ _ ?_
    simp only [q0, kz, kv, ka, kf, km, y_and, rwR, enR, csR, tyf, Nat.reduceBEq, reduceIte, Nat.reduceEqDiff, Nat.reduceAdd, Nat.reduceLeDiff, reduceCtorEq, Nat.reduceMul, Int.reduceToNat]
    refine aops_nil (hL13 _ ?_)
    simp only [q0, kz, kv, ka, kf, km, y_and, rwR, enR, csR, tyf, Nat.reduceBEq, reduceIte, Nat.reduceEqDiff, Nat.reduceAdd, Nat.reduceLeDiff, reduceCtorEq, Nat.reduceMul, Int.reduceToNat]
    try simp only [rk_state]
    refine hK12 _ ?_
    refine awp_seq_k fun K15 hK15 => ?_
    have hb1 := putR_len (l := l) (n := n) (w := w) hl
    have hb2 := takeR_len (l := l) (w := w) hl
    refine awp_region_lit fun L16 hL16 => ?_
    refine aops_call written_fun rfl rfl rfl rfl (by (try simp only [q0, kz, kv, ka, kf, km, y_and, rwR, enR, csR, tyf, Nat.reduceBEq, reduceIte, Nat.reduceEqDiff, Nat.reduceAdd, Nat.reduceLeDiff, reduceCtorEq, Nat.reduceMul, Int.reduceToNat]); (repeat' (first | exact .nil | exact wk_c | exact wk_ownc | exact wk_nilsc | exact wk_nils | exact wk_fn | refine .cons ?_ ?_ | refine wk_agg ?_ | refine wk_fnL ?_))) rfl rfl ?_
    simp only [q0, kz, kv, ka, kf, km, y_and, rwR, enR, csR, tyf, Nat.reduceBEq, reduceIte, Nat.reduceEqDiff, Nat.reduceAdd, Nat.reduceLeDiff, reduceCtorEq, Nat.reduceMul, Int.reduceToNat]
    refine aops_orunN 1 _ _ ?_
    simp only [q0, kz, kv, ka, kf, km, y_and, rwR, enR, csR, tyf, Nat.reduceBEq, reduceIte, Nat.reduceEqDiff, Nat.reduceAdd, Nat.reduceLeDiff, reduceCtorEq, Nat.reduceMul, Int.reduceToNat]
    refine aops_part (b := ?p18) 46 ?h18 (fun hb18 => ?a18) (fun hb18 => ?b18)
    case h18 => simp only [q0, kz, kv, ka, kf, km, y_and, rwR, enR, csR, tyf, Nat.reduceBEq, reduceIte, Nat.reduceEqDiff, Nat.reduceAdd, Nat.reduceLeDiff, reduceCtorEq, Nat.reduceMul, Int.reduceToNat]; rfl
    case a18 =>
      have hp18 := hb18
      try simp only [kb] at hp18
      all_goals try exact absurd hb18 (by decide)
      all_goals try (exfalso; omega)
      all_goals
        try simp only [hb18]
        refine aops_orunN 5 _ _ ?_
        simp only [q0, kz, kv, ka, kf, km, y_and, rwR, enR, csR, tyf, Nat.reduceBEq, reduceIte, Nat.reduceEqDiff, Nat.reduceAdd, Nat.reduceLeDiff, reduceCtorEq, Nat.reduceMul, Int.reduceToNat, hb18]
        refine aops_part (b := ?p19) 51 ?h19 (fun hb19 => ?a19) (fun hb19 => ?b19)
        case h19 => simp only [q0, kz, kv, ka, kf, km, y_and, rwR, enR, csR, tyf, Nat.reduceBEq, reduceIte, Nat.reduceEqDiff, Nat.reduceAdd, Nat.reduceLeDiff, reduceCtorEq, Nat.reduceMul, Int.reduceToNat, hb18]; rfl
        case a19 =>
          have hp19 := hb19
          try simp only [kb] at hp19
          all_goals try exact absurd hb19 (by decide)
          all_goals try (exfalso; omega)
          all_goals
            try simp only [hb19]
            refine aops_orunN 2 _ _ ?_
            simp only [q0, kz, kv, ka, kf, km, y_and, rwR, enR, csR, tyf, Nat.reduceBEq, reduceIte, Nat.reduceEqDiff, Nat.reduceAdd, Nat.reduceLeDiff, reduceCtorEq, Nat.reduceMul, Int.reduceToNat, hb18, hb19]
            refine aops_call (equal_bool_fun _ _ ?s20_0) (by simp only [q0, kz, kv, ka, kf, km, y_and, rwR, enR, csR, tyf, Nat.reduceBEq, reduceIte, Nat.reduceEqDiff, Nat.reduceAdd, Nat.reduceLeDiff, reduceCtorEq, Nat.reduceMul, Int.reduceToNat, hb18, hb19]) rfl rfl rfl (by (try simp only [q0, kz, kv, ka, kf, km, y_and, rwR, enR, csR, tyf, Nat.reduceBEq, reduceIte, Nat.reduceEqDiff, Nat.reduceAdd, Nat.reduceLeDiff, reduceCtorEq, Nat.reduceMul, Int.reduceToNat, hb18, hb19]); (repeat' (first | exact .nil | exact wk_c | exact wk_ownc | exact wk_nilsc | exact wk_nils | exact wk_fn | refine .cons ?_ ?_ | refine wk_agg ?_ | refine wk_fnL ?_))) rfl rfl ?m20
            case s20_0 => first | assumption | omega | decide +kernel | (simp only [List.length_take, List.length_drop]; omega)
            simp only [q0, kz, kv, ka, kf, km, y_and, rwR, enR, csR, tyf, Nat.reduceBEq, reduceIte, Nat.reduceEqDiff, Nat.reduceAdd, Nat.reduceLeDiff, reduceCtorEq, Nat.reduceMul, Int.reduceToNat, hb18, hb19]
            refine aops_orunN 2 _ _ ?_
            simp only [q0, kz, kv, ka, kf, km, y_and, rwR, enR, csR, tyf, Nat.reduceBEq, reduceIte, Nat.reduceEqDiff, Nat.reduceAdd, Nat.reduceLeDiff, reduceCtorEq, Nat.reduceMul, Int.reduceToNat, hb18, hb19]
            refine aops_part (b := ?p21) 56 ?h21 (fun hb21 => ?a21) (fun hb21 => ?b21)
            case h21 => simp only [q0, kz, kv, ka, kf, km, y_and, rwR, enR, csR, tyf, Nat.reduceBEq, reduceIte, Nat.reduceEqDiff, Nat.reduceAdd, Nat.reduceLeDiff, reduceCtorEq, Nat.reduceMul, Int.reduceToNat, hb18, hb19]; rfl
            case a21 =>
              have hp21 := hb21
              try simp only [kb] at hp21
              all_goals try exact absurd hb21 (by decide)
              all_goals try (exfalso; omega)
              all_goals
                try simp only [hb21]
                refine aops_orunN 5 _ _ ?_
                simp only [q0, kz, kv, ka, kf, km, y_and, rwR, enR, csR, tyf, Nat.reduceBEq, reduceIte, Nat.reduceEqDiff, Nat.reduceAdd, Nat.reduceLeDiff, reduceCtorEq, Nat.reduceMul, Int.reduceToNat, hb18, hb19, hb21]
                refine aops_part (b := ?p22) 61 ?h22 (fun hb22 => ?a22) (fun hb22 => ?b22)
                case h22 => simp only [q0, kz, kv, ka, kf, km, y_and, rwR, enR, csR, tyf, Nat.reduceBEq, reduceIte, Nat.reduceEqDiff, Nat.reduceAdd, Nat.reduceLeDiff, reduceCtorEq, Nat.reduceMul, Int.reduceToNat, hb18, hb19, hb21]; rfl
                case a22 =>
                  have hp22 := hb22
                  try simp only [kb] at hp22
                  all_goals try exact absurd hb22 (by decide)
                  all_goals try (exfalso; omega)
                  all_goals
                    try simp only [hb22]
                    refine aops_orunN 5 _ _ ?_
                    simp only [q0, kz, kv, ka, kf, km, y_and, rwR, enR, csR, tyf, Nat.reduceBEq, reduceIte, Nat.reduceEqDiff, Nat.reduceAdd, Nat.reduceLeDiff, reduceCtorEq, Nat.reduceMul, Int.reduceToNat, hb18, hb19, hb21, hb22]
                    refine aops_part (b := ?p23) 66 ?h23 (fun hb23 => ?a23) (fun hb23 => ?b23)
                    case h23 => simp only [q0, kz, kv, ka, kf, km, y_and, rwR, enR, csR, tyf, Nat.reduceBEq, reduceIte, Nat.reduceEqDiff, Nat.reduceAdd, Nat.reduceLeDiff, reduceCtorEq, Nat.reduceMul, Int.reduceToNat, hb18, hb19, hb21, hb22]; rfl
                    case a23 =>
                      have hp23 := hb23
                      try simp only [kb] at hp23
                      all_goals try exact absurd hb23 (by decide)
                      all_goals try (exfalso; omega)
                      all_goals
                        try simp only [hb23]
                        refine aops_orunN 2 _ _ ?_
                        simp only [q0, kz, kv, ka, kf, km, y_and, rwR, enR, csR, tyf, Nat.reduceBEq, reduceIte, Nat.reduceEqDiff, Nat.reduceAdd, Nat.reduceLeDiff, reduceCtorEq, Nat.reduceMul, Int.reduceToNat, hb18, hb19, hb21, hb22, hb23]
                        refine aops_call (equal_bool_fun _ _ ?s24_0) (by simp only [q0, kz, kv, ka, kf, km, y_and, rwR, enR, csR, tyf, Nat.reduceBEq, reduceIte, Nat.reduceEqDiff, Nat.reduceAdd, Nat.reduceLeDiff, reduceCtorEq, Nat.reduceMul, Int.reduceToNat, hb18, hb19, hb21, hb22, hb23]) rfl rfl rfl (by (try simp only [q0, kz, kv, ka, kf, km, y_and, rwR, enR, csR, tyf, Nat.reduceBEq, reduceIte, Nat.reduceEqDiff, Nat.reduceAdd, Nat.reduceLeDiff, reduceCtorEq, Nat.reduceMul, Int.reduceToNat, hb18, hb19, hb21, hb22, hb23]); (repeat' (first | exact .nil | exact wk_c | exact wk_ownc | exact wk_nilsc | exact wk_nils | exact wk_fn | refine .cons ?_ ?_ | refine wk_agg ?_ | refine wk_fnL ?_))) rfl rfl ?m24
                        case s24_0 => first | assumption | omega | decide +kernel | (simp only [List.length_take, List.length_drop]; omega)
                        simp only [q0, kz, kv, ka, kf, km, y_and, rwR, enR, csR, tyf, Nat.reduceBEq, reduceIte, Nat.reduceEqDiff, Nat.reduceAdd, Nat.reduceLeDiff, reduceCtorEq, Nat.reduceMul, Int.reduceToNat, hb18, hb19, hb21, hb22, hb23]
                        refine aops_orunN 2 _ _ ?_
                        simp only [q0, kz, kv, ka, kf, km, y_and, rwR, enR, csR, tyf, Nat.reduceBEq, reduceIte, Nat.reduceEqDiff, Nat.reduceAdd, Nat.reduceLeDiff, reduceCtorEq, Nat.reduceMul, Int.reduceToNat, hb18, hb19, hb21, hb22, hb23]
                        refine aops_nil (hL16 _ ?_)
                        simp only [q0, kz, kv, ka, kf, km, y_and, rwR, enR, csR, tyf, Nat.reduceBEq, reduceIte, Nat.reduceEqDiff, Nat.reduceAdd, Nat.reduceLeDiff, reduceCtorEq, Nat.reduceMul, Int.reduceToNat, hb18, hb19, hb21, hb22, hb23]
                        try simp only [rk_state]
                        refine hK15 _ ?_
                        as_aux_lemma =>
                          refine awp_ret ?_
                          try simp only [rk_state]
                          refine ⟨_, 0, by simp only [q0, kz, kv, ka, kf, km, y_and, rwR, enR, csR, tyf, Nat.reduceBEq, reduceIte, Nat.reduceEqDiff, Nat.reduceAdd, Nat.reduceLeDiff, reduceCtorEq, Nat.reduceMul, Int.reduceToNat, resA, Try.results6, hb18, hb19, hb21, hb22, hb23]; rfl, ?_, fun l hl => absurd rfl hl, fun l hl => absurd rfl hl⟩
                          simp only [packA]
                          (repeat' (first | exact .nil | exact wkR_c | exact wkR_own | exact wkR_nils | refine wkR_int ?_ | refine wkR_bool ?_ | refine wkR_sl ?_ | refine wkR_osl ?_ | refine wkR_nsl ?_ | refine wkR_oo ?_ | refine wkR_no ?_ | refine .cons ?_ ?_ | refine wkR_agg ?_ | refine wkR_tup ?_))
                    case b23 =>
                      have hp23 := hb23
                      try simp only [kb] at hp23
                      all_goals try exact absurd hb23 (by decide)
                      all_goals try (exfalso; omega)
                      all_goals
                        try simp only [hb23]
                        refine aops_orunN 5 _ _ ?_
                        simp only [q0, kz, kv, ka, kf, km, y_and, rwR, enR, csR, tyf, Nat.reduceBEq, reduceIte, Nat.reduceEqDiff, Nat.reduceAdd, Nat.reduceLeDiff, reduceCtorEq, Nat.reduceMul, Int.reduceToNat, hb18, hb19, hb21, hb22, hb23]
                        refine aops_nil (hL16 _ ?_)
                        simp only [q0, kz, kv, ka, kf, km, y_and, rwR, enR, csR, tyf, Nat.reduceBEq, reduceIte, Nat.reduceEqDiff, Nat.reduceAdd, Nat.reduceLeDiff, reduceCtorEq, Nat.reduceMul, Int.reduceToNat, hb18, hb19, hb21, hb22, hb23]
                        try simp only [rk_state]
                        refine hK15 _ ?_
                        refine awp_ret ?_
                        try simp only [rk_state]
                        refine ⟨_, 0, by simp only [q0, kz, kv, ka, kf, km, y_and, rwR, enR, csR, tyf, Nat.reduceBEq, reduceIte, Nat.reduceEqDiff, Nat.reduceAdd, Nat.reduceLeDiff, reduceCtorEq, Nat.reduceMul, Int.reduceToNat, resA, Try.results6, hb18, hb19, hb21, hb22, hb23]; rfl, ?_, fun l hl => absurd rfl hl, fun l hl => absurd rfl hl⟩
                        simp only [packA]
                        (repeat' (first | exact .nil | exact wkR_c | exact wkR_own | exact wkR_nils | refine wkR_int ?_ | refine wkR_bool ?_ | refine wkR_sl ?_ | refine wkR_osl ?_ | refine wkR_nsl ?_ | refine wkR_oo ?_ | refine wkR_no ?_ | refine .cons ?_ ?_ | refine wkR_agg ?_ | refine wkR_tup ?_))
                case b22 =>
                  have hp22 := hb22
                  try simp only [kb] at hp22
                  all_goals try exact absurd hb22 (by decide)
                  all_goals try (exfalso; omega)
                  all_goals
                    try simp only [hb22]
                    refine aops_orunN 10 _ _ ?_
                    simp only [q0, kz, kv, ka, kf, km, y_and, rwR, enR, csR, tyf, Nat.reduceBEq, reduceIte, Nat.reduceEqDiff, Nat.reduceAdd, Nat.reduceLeDiff, reduceCtorEq, Nat.reduceMul, Int.reduceToNat, hb18, hb19, hb21, hb22]
                    refine aops_nil (hL16 _ ?_)
                    simp only [q0, kz, kv, ka, kf, km, y_and, rwR, enR, csR, tyf, Nat.reduceBEq, reduceIte, Nat.reduceEqDiff, Nat.reduceAdd, Nat.reduceLeDiff, reduceCtorEq, Nat.reduceMul, Int.reduceToNat, hb18, hb19, hb21, hb22]
                    try simp only [rk_state]
                    refine hK15 _ ?_
                    refine awp_ret ?_
                    try simp only [rk_state]
                    refine ⟨_, 0, by simp only [q0, kz, kv, ka, kf, km, y_and, rwR, enR, csR, tyf, Nat.reduceBEq, reduceIte, Nat.reduceEqDiff, Nat.reduceAdd, Nat.reduceLeDiff, reduceCtorEq, Nat.reduceMul, Int.reduceToNat, resA, Try.results6, hb18, hb19, hb21, hb22]; rfl, ?_, fun l hl => absurd rfl hl, fun l hl => absurd rfl hl⟩
                    simp only [packA]
                    (repeat' (first | exact .nil | exact wkR_c | exact wkR_own | exact wkR_nils | refine wkR_int ?_ | refine wkR_bool ?_ | refine wkR_sl ?_ | refine wkR_osl ?_ | refine wkR_nsl ?_ | refine wkR_oo ?_ | refine wkR_no ?_ | refine .cons ?_ ?_ | refine wkR_agg ?_ | refine wkR_tup ?_))
            case b21 =>
              have hp21 := hb21
              try simp only [kb] at hp21
              all_goals try exact absurd hb21 (by decide)
              all_goals try (exfalso; omega)
              all_goals
                try simp only [hb21]
                refine aops_orunN 15 _ _ ?_
                simp only [q0, kz, kv, ka, kf, km, y_and, rwR, enR, csR, tyf, Nat.reduceBEq, reduceIte, Nat.reduceEqDiff, Nat.reduceAdd, Nat.reduceLeDiff, reduceCtorEq, Nat.reduceMul, Int.reduceToNat, hb18, hb19, hb21]
                refine aops_nil (hL16 _ ?_)
                simp only [q0, kz, kv, ka, kf, km, y_and, rwR, enR, csR, tyf, Nat.reduceBEq, reduceIte, Nat.reduceEqDiff, Nat.reduceAdd, Nat.reduceLeDiff, reduceCtorEq, Nat.reduceMul, Int.reduceToNat, hb18, hb19, hb21]
                try simp only [rk_state]
                refine hK15 _ ?_
                refine awp_ret ?_
                try simp only [rk_state]
                refine ⟨_, 0, by simp only [q0, kz, kv, ka, kf, km, y_and, rwR, enR, csR, tyf, Nat.reduceBEq, reduceIte, Nat.reduceEqDiff, Nat.reduceAdd, Nat.reduceLeDiff, reduceCtorEq, Nat.reduceMul, Int.reduceToNat, resA, Try.results6, hb18, hb19, hb21]; rfl, ?_, fun l hl => absurd rfl hl, fun l hl => absurd rfl hl⟩
                simp only [packA]
                (repeat' (first | exact .nil | exact wkR_c | exact wkR_own | exact wkR_nils | refine wkR_int ?_ | refine wkR_bool ?_ | refine wkR_sl ?_ | refine wkR_osl ?_ | refine wkR_nsl ?_ | refine wkR_oo ?_ | refine wkR_no ?_ | refine .cons ?_ ?_ | refine wkR_agg ?_ | refine wkR_tup ?_))
        case b19 =>
          have hp19 := hb19
          try simp only [kb] at hp19
          all_goals try exact absurd hb19 (by decide)
          all_goals try (exfalso; omega)
          all_goals
            try simp only [hb19]
            refine aops_orunN 20 _ _ ?_
            simp only [q0, kz, kv, ka, kf, km, y_and, rwR, enR, csR, tyf, Nat.reduceBEq, reduceIte, Nat.reduceEqDiff, Nat.reduceAdd, Nat.reduceLeDiff, reduceCtorEq, Nat.reduceMul, Int.reduceToNat, hb18, hb19]
            refine aops_nil (hL16 _ ?_)
            simp only [q0, kz, kv, ka, kf, km, y_and, rwR, enR, csR, tyf, Nat.reduceBEq, reduceIte, Nat.reduceEqDiff, Nat.reduceAdd, Nat.reduceLeDiff, reduceCtorEq, Nat.reduceMul, Int.reduceToNat, hb18, hb19]
            try simp only [rk_state]
            refine hK15 _ ?_
            refine awp_ret ?_
            try simp only [rk_state]
            refine ⟨_, 0, by simp only [q0, kz, kv, ka, kf, km, y_and, rwR, enR, csR, tyf, Nat.reduceBEq, reduceIte, Nat.reduceEqDiff, Nat.reduceAdd, Nat.reduceLeDiff, reduceCtorEq, Nat.reduceMul, Int.reduceToNat, resA, Try.results6, hb18, hb19]; rfl, ?_, fun l hl => absurd rfl hl, fun l hl => absurd rfl hl⟩
            simp only [packA]
            (repeat' (first | exact .nil | exact wkR_c | exact wkR_own | exact wkR_nils | refine wkR_int ?_ | refine wkR_bool ?_ | refine wkR_sl ?_ | refine wkR_osl ?_ | refine wkR_nsl ?_ | refine wkR_oo ?_ | refine wkR_no ?_ | refine .cons ?_ ?_ | refine wkR_agg ?_ | refine wkR_tup ?_))
    case b18 =>
      have hp18 := hb18
      try simp only [kb] at hp18
      all_goals try exact absurd hb18 (by decide)
      all_goals try (exfalso; omega)
      all_goals
        try simp only [hb18]
        refine aops_orunN 25 _ _ ?_
        simp only [q0, kz, kv, ka, kf, km, y_and, rwR, enR, csR, tyf, Nat.reduceBEq, reduceIte, Nat.reduceEqDiff, Nat.reduceAdd, Nat.reduceLeDiff, reduceCtorEq, Nat.reduceMul, Int.reduceToNat, hb18]
        refine aops_nil (hL16 _ ?_)
        simp only [q0, kz, kv, ka, kf, km, y_and, rwR, enR, csR, tyf, Nat.reduceBEq, reduceIte, Nat.reduceEqDiff, Nat.reduceAdd, Nat.reduceLeDiff, reduceCtorEq, Nat.reduceMul, Int.reduceToNat, hb18]
        try simp only [rk_state]
        refine hK15 _ ?_
        refine awp_ret ?_
        try simp only [rk_state]
        refine ⟨_, 0, by simp only [q0, kz, kv, ka, kf, km, y_and, rwR, enR, csR, tyf, Nat.reduceBEq, reduceIte, Nat.reduceEqDiff, Nat.reduceAdd, Nat.reduceLeDiff, reduceCtorEq, Nat.reduceMul, Int.reduceToNat, resA, Try.results6, hb18]; rfl, ?_, fun l hl => absurd rfl hl, fun l hl => absurd rfl hl⟩
        simp only [packA]
        (repeat' (first | exact .nil | exact wkR_c | exact wkR_own | exact wkR_nils | refine wkR_int ?_ | refine wkR_bool ?_ | refine wkR_sl ?_ | refine wkR_osl ?_ | refine wkR_nsl ?_ | refine wkR_oo ?_ | refine wkR_no ?_ | refine .cons ?_ ?_ | refine wkR_agg ?_ | refine wkR_tup ?_))
set_option maxHeartbeats 4000000 in
set_option maxRecDepth 50000 in
theorem bitsBack_fun (ns ws : List Int) (more : List Bool) (hl : more.length ≤ 140737488351232) : Fun Try.prog 7 [.c (.sl 3 (Rw inC ns)), .c (.sl 3 (Rw inC ws)), .c (.sl 4 (Rw boC more))] nomem (.c (.bool true)) nomem := by
  have e0 : Rw boC ([] : List Bool) = [] := rfl
  refine fun_of_awp Try.func7 rfl (by decide +kernel) (by decide +kernel) (Nat.le_of_ble_eq_true rfl) (fun _ _ => rfl) (fun _ _ => rfl) ?_
  refine awp_seq_k fun K1 hK1 => ?_
  refine awp_region_lit fun L2 hL2 => ?_
  refine aops_orunN 1 _ _ ?_
  simp only [q0, kz, kv, ka, kf, km, y_and, rwR, enR, csR, tyf, Nat.reduceBEq, reduceIte, Nat.reduceEqDiff, Nat.reduceAdd, Nat.reduceLeDiff, reduceCtorEq, Nat.reduceMul, Int.reduceToNat, Int.one_mul, e0]
  refine aops_nil (hL2 _ ?_)
  simp only [q0, kz, kv, ka, kf, km, y_and, rwR, enR, csR, tyf, Nat.reduceBEq, reduceIte, Nat.reduceEqDiff, Nat.reduceAdd, Nat.reduceLeDiff, reduceCtorEq, Nat.reduceMul, Int.reduceToNat, Int.one_mul, e0]
  try simp only [rk_state]
  refine hK1 _ ?_
  refine awp_seq_k fun K3 hK3 => ?_
  refine awp_seq_k fun K4 hK4 => ?_
  refine awp_region_lit fun L5 hL5 => ?_
  refine aops_call written_fun rfl rfl rfl rfl (by (try simp only [q0, kz, kv, ka, kf, km, y_and, rwR, enR, csR, tyf, Nat.reduceBEq, reduceIte, Nat.reduceEqDiff, Nat.reduceAdd, Nat.reduceLeDiff, reduceCtorEq, Nat.reduceMul, Int.reduceToNat, Int.one_mul, e0]); (repeat' (first | exact .nil | exact wk_c | exact wk_ownc | exact wk_nilsc | exact wk_nils | exact wk_fn | refine .cons ?_ ?_ | refine wk_agg ?_ | refine wk_fnL ?_))) rfl rfl ?_
  simp only [q0, kz, kv, ka, kf, km, y_and, rwR, enR, csR, tyf, Nat.reduceBEq, reduceIte, Nat.reduceEqDiff, Nat.reduceAdd, Nat.reduceLeDiff, reduceCtorEq, Nat.reduceMul, Int.reduceToNat, Int.one_mul, e0]
  refine aops_orunN 1 _ _ ?_
  simp only [q0, kz, kv, ka, kf, km, y_and, rwR, enR, csR, tyf, Nat.reduceBEq, reduceIte, Nat.reduceEqDiff, Nat.reduceAdd, Nat.reduceLeDiff, reduceCtorEq, Nat.reduceMul, Int.reduceToNat, Int.one_mul, e0]
  refine aops_nil (hL5 _ ?_)
  simp only [q0, kz, kv, ka, kf, km, y_and, rwR, enR, csR, tyf, Nat.reduceBEq, reduceIte, Nat.reduceEqDiff, Nat.reduceAdd, Nat.reduceLeDiff, reduceCtorEq, Nat.reduceMul, Int.reduceToNat, Int.one_mul, e0]
  try simp only [rk_state]
  refine hK4 _ ?_
  refine awp_cond (t := ?t7) ?h7 (fun hb7 => ?a7) (fun hb7 => ?b7)
  case h7 => simp only [q0, kz, kv, ka, kf, km, y_and, rwR, enR, csR, tyf, Nat.reduceBEq, reduceIte, Nat.reduceEqDiff, Nat.reduceAdd, Nat.reduceLeDiff, reduceCtorEq, Nat.reduceMul, Int.reduceToNat, Int.one_mul, e0]; rfl
  case a7 =>
    have hp7 := hb7
    try simp only [kb] at hp7
    all_goals try exact absurd hb7 (by decide)
    all_goals try (exfalso; omega)
    all_goals
      refine awp_seq_k fun K8 hK8 => ?_
      refine awp_region_lit fun L9 hL9 => ?_
      refine aops_orunN 1 _ _ ?_
      simp only [q0, kz, kv, ka, kf, km, y_and, rwR, enR, csR, tyf, Nat.reduceBEq, reduceIte, Nat.reduceEqDiff, Nat.reduceAdd, Nat.reduceLeDiff, reduceCtorEq, Nat.reduceMul, Int.reduceToNat, Int.one_mul, e0, hb7]
      refine aops_nil (hL9 _ ?_)
      simp only [q0, kz, kv, ka, kf, km, y_and, rwR, enR, csR, tyf, Nat.reduceBEq, reduceIte, Nat.reduceEqDiff, Nat.reduceAdd, Nat.reduceLeDiff, reduceCtorEq, Nat.reduceMul, Int.reduceToNat, Int.one_mul, e0, hb7]
      try simp only [rk_state]
      refine hK8 _ ?_
      as_aux_lemma =>
        refine awp_ret ?_
        try simp only [rk_state]
        refine ⟨_, 0, by simp only [q0, kz, kv, ka, kf, km, y_and, rwR, enR, csR, tyf, Nat.reduceBEq, reduceIte, Nat.reduceEqDiff, Nat.reduceAdd, Nat.reduceLeDiff, reduceCtorEq, Nat.reduceMul, Int.reduceToNat, resA, Try.results7, Int.one_mul, e0, hb7]; rfl, ?_, fun l hl => absurd rfl hl, fun l hl => absurd rfl hl⟩
        simp only [packA]
        (repeat' (first | exact .nil | exact wkR_c | exact wkR_own | exact wkR_nils | refine wkR_int ?_ | refine wkR_bool ?_ | refine wkR_sl ?_ | refine wkR_osl ?_ | refine wkR_nsl ?_ | refine wkR_oo ?_ | refine wkR_no ?_ | refine .cons ?_ ?_ | refine wkR_agg ?_ | refine wkR_tup ?_))
  case b7 =>
    have hp7 := hb7
    try simp only [kb] at hp7
    all_goals try exact absurd hb7 (by decide)
    all_goals try (exfalso; omega)
    all_goals
      refine awp_skip ?_
      try simp only [rk_state]
      refine hK3 _ ?_
      refine awp_seq_k fun K10 hK10 => ?_
      refine awp_region_lit fun L11 hL11 => ?_
      refine aops_nilown 4 46 rfl rfl ?x12 ?_
      case x12 => simp only [q0, kz, kv, ka, kf, km, y_and, rwR, enR, csR, tyf, Nat.reduceBEq, reduceIte, Nat.reduceEqDiff, Nat.reduceAdd, Nat.reduceLeDiff, reduceCtorEq, Nat.reduceMul, Int.reduceToNat, Int.one_mul, e0, hb7]
      simp only [q0, kz, kv, ka, kf, km, y_and, rwR, enR, csR, tyf, Nat.reduceBEq, reduceIte, Nat.reduceEqDiff, Nat.reduceAdd, Nat.reduceLeDiff, reduceCtorEq, Nat.reduceMul, Int.reduceToNat, Int.one_mul, e0, hb7]
      refine aops_nil (hL11 _ ?_)
      simp only [q0, kz, kv, ka, kf, km, y_and, rwR, enR, csR, tyf, Nat.reduceBEq, reduceIte, Nat.reduceEqDiff, Nat.reduceAdd, Nat.reduceLeDiff, reduceCtorEq, Nat.reduceMul, Int.reduceToNat, Int.one_mul, e0, hb7]
      try simp only [rk_state]
      refine hK10 _ ?_
      refine awp_seq_k fun K13 hK13 => ?_
      refine awp_region_lit fun L14 hL14 => ?_
      refine aops_nilown 3 73 rfl rfl ?x15 ?_
      case x15 => simp only [q0, kz, kv, ka, kf, km, y_and, rwR, enR, csR, tyf, Nat.reduceBEq, reduceIte, Nat.reduceEqDiff, Nat.reduceAdd, Nat.reduceLeDiff, reduceCtorEq, Nat.reduceMul, Int.reduceToNat, Int.one_mul, e0, hb7]
      simp only [q0, kz, kv, ka, kf, km, y_and, rwR, enR, csR, tyf, Nat.reduceBEq, reduceIte, Nat.reduceEqDiff, Nat.reduceAdd, Nat.reduceLeDiff, reduceCtorEq, Nat.reduceMul, Int.reduceToNat, Int.one_mul, e0, hb7]
      refine aops_nilown 3 77 rfl rfl ?x16 ?_
      case x16 => simp only [q0, kz, kv, ka, kf, km, y_and, rwR, enR, csR, tyf, Nat.reduceBEq, reduceIte, Nat.reduceEqDiff, Nat.reduceAdd, Nat.reduceLeDiff, reduceCtorEq, Nat.reduceMul, Int.reduceToNat, Int.one_mul, e0, hb7]
      simp only [q0, kz, kv, ka, kf, km, y_and, rwR, enR, csR, tyf, Nat.reduceBEq, reduceIte, Nat.reduceEqDiff, Nat.reduceAdd, Nat.reduceLeDiff, reduceCtorEq, Nat.reduceMul, Int.reduceToNat, Int.one_mul, e0, hb7]
      refine aops_nil (hL14 _ ?_)
      simp only [q0, kz, kv, ka, kf, km, y_and, rwR, enR, csR, tyf, Nat.reduceBEq, reduceIte, Nat.reduceEqDiff, Nat.reduceAdd, Nat.reduceLeDiff, reduceCtorEq, Nat.reduceMul, Int.reduceToNat, Int.one_mul, e0, hb7]
      try simp only [rk_state]
      refine hK13 _ ?_
      refine awp_seq_k fun K17 hK17 => ?_
      refine awp_seq_k fun K18 hK18 => ?_
      refine awp_region_lit fun L19 hL19 => ?_
      refine aops_orunN 6 _ _ ?_
      simp only [q0, kz, kv, ka, kf, km, y_and, rwR, enR, csR, tyf, Nat.reduceBEq, reduceIte, Nat.reduceEqDiff, Nat.reduceAdd, Nat.reduceLeDiff, reduceCtorEq, Nat.reduceMul, Int.reduceToNat, Int.one_mul, e0, hb7]
      refine aops_nil (hL19 _ ?_)
      simp only [q0, kz, kv, ka, kf, km, y_and, rwR, enR, csR, tyf, Nat.reduceBEq, reduceIte, Nat.reduceEqDiff, Nat.reduceAdd, Nat.reduceLeDiff, reduceCtorEq, Nat.reduceMul, Int.reduceToNat, Int.one_mul, e0, hb7]
      try simp only [rk_state]
      refine hK18 _ ?_
      as_aux_lemma =>
        refine awp_block ?_
        refine awp_loopW (W := [28, 29, 10, 30, 31, 32, 33, 34, 11, 35, 36, 37, 38, 39, 40, 41, 12, 43, 44, 45, 46, 42, 47, 48, 13, 14, 49, 50, 51, 52, 53, 54, 55, 56, 57, 58, 59, 60, 61, 62, 63, 64, 65, 66, 67, 68, 6, 69, 70, 71, 72, 73, 74, 75, 76, 77, 7, 8, 9, 78, 27]) (M := []) rfl rfl (fun k s => ∃ (i : Nat), k = 30 - i ∧ (i ≤ ns.length) ∧ (i ≤ ws.length) ∧ (i ≤ 30) ∧ s.t 7 = .own false 46 4 (Rw boC (encB ns ws i)) ∧ s.t 8 = .own false 73 3 (Rw inC (vsB ns ws i)) ∧ s.t 9 = .own false 77 3 (Rw inC (wsB ws i)) ∧ s.t 27 = .c (.int .i64 (i : Int))) ((fun (i : Nat) => 30 - i) (0)) ?i20 ?r20
        case i20 =>
          refine ⟨0, rfl, ?_, ?_, ?_, ?_, ?_, ?_, ?_⟩
          · first | omega | simp
          · first | omega | simp
          · first | omega | simp
          · (try simp only [q0, kz, kv, ka, kf, km, y_and, rwR, enR, csR, tyf, Nat.reduceBEq, reduceIte, Nat.reduceEqDiff, Nat.reduceAdd, Nat.reduceLeDiff, reduceCtorEq, Nat.reduceMul, Int.reduceToNat, Int.one_mul, e0, hb7])
            all_goals (first | done | rfl | (simp only [AV.c.injEq, C.int.injEq, List.cons.injEq, and_true, true_and]; omega))
          · (try simp only [q0, kz, kv, ka, kf, km, y_and, rwR, enR, csR, tyf, Nat.reduceBEq, reduceIte, Nat.reduceEqDiff, Nat.reduceAdd, Nat.reduceLeDiff, reduceCtorEq, Nat.reduceMul, Int.reduceToNat, Int.one_mul, e0, hb7])
            all_goals (first | done | rfl | (simp only [AV.c.injEq, C.int.injEq, List.cons.injEq, and_true, true_and]; omega))
          · (try simp only [q0, kz, kv, ka, kf, km, y_and, rwR, enR, csR, tyf, Nat.reduceBEq, reduceIte, Nat.reduceEqDiff, Nat.reduceAdd, Nat.reduceLeDiff, reduceCtorEq, Nat.reduceMul, Int.reduceToNat, Int.one_mul, e0, hb7])
            all_goals (first | done | rfl | (simp only [AV.c.injEq, C.int.injEq, List.cons.injEq, and_true, true_and]; omega))
          · (try simp only [q0, kz, kv, ka, kf, km, y_and, rwR, enR, csR, tyf, Nat.reduceBEq, reduceIte, Nat.reduceEqDiff, Nat.reduceAdd, Nat.reduceLeDiff, reduceCtorEq, Nat.reduceMul, Int.reduceToNat, Int.one_mul, e0, hb7])
            all_goals (first | done | rfl | (simp only [AV.c.injEq, C.int.injEq, List.cons.injEq, and_true, true_and]; omega))
        case r20 =>
          rintro k s hf ⟨i, rfl, hq6_0, hq6_1, hq6_2, s20t7, s20t8, s20t9, s20t27⟩ K20 hK20
          have s20f0 := hf 0 rfl (by (try simp only [q0, kz, kv, ka, kf, km, y_and, rwR, enR, csR, tyf, Nat.reduceBEq, reduceIte, Nat.reduceEqDiff, Nat.reduceAdd, Nat.reduceLeDiff, reduceCtorEq, Nat.reduceMul, Int.reduceToNat, kn, Int.one_mul, e0, hb7]); all_goals rfl)
          simp only [q0, kz, kv, ka, kf, km, y_and, rwR, enR, csR, tyf, Nat.reduceBEq, reduceIte, Nat.reduceEqDiff, Nat.reduceAdd, Nat.reduceLeDiff, reduceCtorEq, Nat.reduceMul, Int.reduceToNat, Int.one_mul, e0, hb7] at s20f0
          have s20f1 := hf 1 rfl (by (try simp only [q0, kz, kv, ka, kf, km, y_and, rwR, enR, csR, tyf, Nat.reduceBEq, reduceIte, Nat.reduceEqDiff, Nat.reduceAdd, Nat.reduceLeDiff, reduceCtorEq, Nat.reduceMul, Int.reduceToNat, kn, Int.one_mul, e0, hb7]); all_goals rfl)
          simp only [q0, kz, kv, ka, kf, km, y_and, rwR, enR, csR, tyf, Nat.reduceBEq, reduceIte, Nat.reduceEqDiff, Nat.reduceAdd, Nat.reduceLeDiff, reduceCtorEq, Nat.reduceMul, Int.reduceToNat, Int.one_mul, e0, hb7] at s20f1
          have s20f2 := hf 2 rfl (by (try simp only [q0, kz, kv, ka, kf, km, y_and, rwR, enR, csR, tyf, Nat.reduceBEq, reduceIte, Nat.reduceEqDiff, Nat.reduceAdd, Nat.reduceLeDiff, reduceCtorEq, Nat.reduceMul, Int.reduceToNat, kn, Int.one_mul, e0, hb7]); all_goals rfl)
          simp only [q0, kz, kv, ka, kf, km, y_and, rwR, enR, csR, tyf, Nat.reduceBEq, reduceIte, Nat.reduceEqDiff, Nat.reduceAdd, Nat.reduceLeDiff, reduceCtorEq, Nat.reduceMul, Int.reduceToNat, Int.one_mul, e0, hb7] at s20f2
          have s20f26 := hf 26 rfl (by (try simp only [q0, kz, kv, ka, kf, km, y_and, rwR, enR, csR, tyf, Nat.reduceBEq, reduceIte, Nat.reduceEqDiff, Nat.reduceAdd, Nat.reduceLeDiff, reduceCtorEq, Nat.reduceMul, Int.reduceToNat, kn, Int.one_mul, e0, hb7]); all_goals rfl)
          simp only [q0, kz, kv, ka, kf, km, y_and, rwR, enR, csR, tyf, Nat.reduceBEq, reduceIte, Nat.reduceEqDiff, Nat.reduceAdd, Nat.reduceLeDiff, reduceCtorEq, Nat.reduceMul, Int.reduceToNat, Int.one_mul, e0, hb7] at s20f26
          clear hf
          refine awp_seq_k fun K21 hK21 => ?_
          have hN : ((min (min ns.length ws.length) 30 : Nat) : Int) = (if (30 : Int) < (if (ws.length : Int) < (ns.length : Int) then (ws.length : Int) else (ns.length : Int)) then 30 else (if (ws.length : Int) < (ns.length : Int) then (ws.length : Int) else (ns.length : Int))) := by split <;> split <;> omega
          refine awp_region_lit fun L22 hL22 => ?_
          refine aops_orunN 1 _ _ ?_
          simp only [q0, kz, kv, ka, kf, km, y_and, rwR, enR, csR, tyf, Nat.reduceBEq, reduceIte, Nat.reduceEqDiff, Nat.reduceAdd, Nat.reduceLeDiff, reduceCtorEq, Nat.reduceMul, Int.reduceToNat, Int.one_mul, e0, hb7, s20t7, s20t8, s20t9, s20t27, s20f0, s20f1, s20f2, s20f26]
          refine aops_nil (hL22 _ ?_)
          simp only [q0, kz, kv, ka, kf, km, y_and, rwR, enR, csR, tyf, Nat.reduceBEq, reduceIte, Nat.reduceEqDiff, Nat.reduceAdd, Nat.reduceLeDiff, reduceCtorEq, Nat.reduceMul, Int.reduceToNat, Int.one_mul, e0, hb7, s20t7, s20t8, s20t9, s20t27, s20f0, s20f1, s20f2, s20f26]
          try simp only [rk_state]
          refine hK21 _ ?_
          refine awp_seq_k fun K23 hK23 => ?_
          refine awp_cond (t := ?t24) ?h24 (fun hb24 => ?a24) (fun hb24 => ?b24)
          case h24 => simp only [q0, kz, kv, ka, kf, km, y_and, rwR, enR, csR, tyf, Nat.reduceBEq, reduceIte, Nat.reduceEqDiff, Nat.reduceAdd, Nat.reduceLeDiff, reduceCtorEq, Nat.reduceMul, Int.reduceToNat, Int.one_mul, e0, hb7, s20t7, s20t8, s20t9, s20t27, s20f0, s20f1, s20f2, s20f26]; rfl
          case a24 =>
            have hp24 := hb24
            try simp only [kb] at hp24
            all_goals try exact absurd hb24 (by decide)
            all_goals try (exfalso; omega)
            all_goals
              refine awp_skip ?_
              try simp only [rk_state]
              refine hK23 _ ?_
              refine awp_seq_k fun K25 hK25 => ?_
              refine awp_block ?_
              refine awp_seq_k fun K26 hK26 => ?_
              refine awp_region_lit fun L27 hL27 => ?_
              refine aops_orunN 2 _ _ ?_
              simp only [q0, kz, kv, ka, kf, km, y_and, rwR, enR, csR, tyf, Nat.reduceBEq, reduceIte, Nat.reduceEqDiff, Nat.reduceAdd, Nat.reduceLeDiff, reduceCtorEq, Nat.reduceMul, Int.reduceToNat, Int.one_mul, e0, hb7, s20t7, s20t8, s20t9, s20t27, s20f0, s20f1, s20f2, s20f26, hb24]
              refine aops_nil (hL27 _ ?_)
              simp only [q0, kz, kv, ka, kf, km, y_and, rwR, enR, csR, tyf, Nat.reduceBEq, reduceIte, Nat.reduceEqDiff, Nat.reduceAdd, Nat.reduceLeDiff, reduceCtorEq, Nat.reduceMul, Int.reduceToNat, Int.one_mul, e0, hb7, s20t7, s20t8, s20t9, s20t27, s20f0, s20f1, s20f2, s20f26, hb24]
              try simp only [rk_state]
              refine hK26 _ ?_
              refine awp_seq_k fun K28 hK28 => ?_
              refine awp_region_lit fun L29 hL29 => ?_
              refine aops_orunN 2 _ _ ?_
              simp only [q0, kz, kv, ka, kf, km, y_and, rwR, enR, csR, tyf, Nat.reduceBEq, reduceIte, Nat.reduceEqDiff, Nat.reduceAdd, Nat.reduceLeDiff, reduceCtorEq, Nat.reduceMul, Int.reduceToNat, Int.one_mul, e0, hb7, s20t7, s20t8, s20t9, s20t27, s20f0, s20f1, s20f2, s20f26, hb24]
              refine aops_val (v := ?v30) rfl ?h30 ?_
              case h30 => simp only [q0, kz, kv, ka, kf, km, y_and, rwR, enR, csR, tyf, Nat.reduceBEq, reduceIte, Nat.reduceEqDiff, Nat.reduceAdd, Nat.reduceLeDiff, reduceCtorEq, Nat.reduceMul, Int.reduceToNat, Int.one_mul, e0, hb7, s20t7, s20t8, s20t9, s20t27, s20f0, s20f1, s20f2, s20f26, hb24]; first | (rw [idx_c un43 if3] <;> omega) | (rw [idx_o un43 if3] <;> omega) | (rw [idx_a un43 if3] <;> omega)
              simp only [q0, kz, kv, ka, kf, km, y_and, rwR, enR, csR, tyf, Nat.reduceBEq, reduceIte, Nat.reduceEqDiff, Nat.reduceAdd, Nat.reduceLeDiff, reduceCtorEq, Nat.reduceMul, Int.reduceToNat, Int.one_mul, e0, hb7, s20t7, s20t8, s20t9, s20t27, s20f0, s20f1, s20f2, s20f26, hb24]
              refine aops_orunN 1 _ _ ?_
              simp only [q0, kz, kv, ka, kf, km, y_and, rwR, enR, csR, tyf, Nat.reduceBEq, reduceIte, Nat.reduceEqDiff, Nat.reduceAdd, Nat.reduceLeDiff, reduceCtorEq, Nat.reduceMul, Int.reduceToNat, Int.one_mul, e0, hb7, s20t7, s20t8, s20t9, s20t27, s20f0, s20f1, s20f2, s20f26, hb24]
              refine aops_call (at_fun _ _ ?s31_0 ?s31_1) rfl rfl rfl rfl (by (try simp only [q0, kz, kv, ka, kf, km, y_and, rwR, enR, csR, tyf, Nat.reduceBEq, reduceIte, Nat.reduceEqDiff, Nat.reduceAdd, Nat.reduceLeDiff, reduceCtorEq, Nat.reduceMul, Int.reduceToNat, Int.one_mul, e0, hb7, s20t7, s20t8, s20t9, s20t27, s20f0, s20f1, s20f2, s20f26, hb24]); (repeat' (first | exact .nil | exact wk_c | exact wk_ownc | exact wk_nilsc | exact wk_nils | exact wk_fn | refine .cons ?_ ?_ | refine wk_agg ?_ | refine wk_fnL ?_))) rfl rfl ?m31
              case s31_0 => omega
              case s31_1 => omega
              simp only [q0, kz, kv, ka, kf, km, y_and, rwR, enR, csR, tyf, Nat.reduceBEq, reduceIte, Nat.reduceEqDiff, Nat.reduceAdd, Nat.reduceLeDiff, reduceCtorEq, Nat.reduceMul, Int.reduceToNat, Int.one_mul, e0, hb7, s20t7, s20t8, s20t9, s20t27, s20f0, s20f1, s20f2, s20f26, hb24]
              have sW : ws.getD i default % 41 = wAt ws i := rfl
              have hW := wAt_in ws i
              have hp := pow40 (k := (wAt ws i).toNat) (by omega)
              have hmin : min (wAt ws i).toNat IntKind.i64.bits = (wAt ws i).toNat := by show min _ 64 = _; omega
              refine aops_orunN 1 _ _ ?_
              simp only [q0, kz, kv, ka, kf, km, y_and, rwR, enR, csR, tyf, Nat.reduceBEq, reduceIte, Nat.reduceEqDiff, Nat.reduceAdd, Nat.reduceLeDiff, reduceCtorEq, Nat.reduceMul, Int.reduceToNat, Int.one_mul, e0, hb7, s20t7, s20t8, s20t9, s20t27, s20f0, s20f1, s20f2, s20f26, hb24, sW]
              refine aops_nil (hL29 _ ?_)
              simp only [q0, kz, kv, ka, kf, km, y_and, rwR, enR, csR, tyf, Nat.reduceBEq, reduceIte, Nat.reduceEqDiff, Nat.reduceAdd, Nat.reduceLeDiff, reduceCtorEq, Nat.reduceMul, Int.reduceToNat, Int.one_mul, e0, hb7, s20t7, s20t8, s20t9, s20t27, s20f0, s20f1, s20f2, s20f26, hb24, sW]
              try simp only [rk_state]
              refine hK28 _ ?_
              as_aux_lemma =>
                refine awp_seq_k fun K32 hK32 => ?_
                have sV : ns.getD i default % (2 ^ (wAt ws i).toNat) = vAt ns ws i := by rw [vAt, Int.one_mul]
                have hV := vAt_in ns ws i
                refine awp_region_dr (by decide +kernel) fun L33 hL33 => ?_
                refine aops_orunN 2 _ _ ?_
                simp only [q0, kz, kv, ka, kf, km, y_and, rwR, enR, csR, tyf, Nat.reduceBEq, reduceIte, Nat.reduceEqDiff, Nat.reduceAdd, Nat.reduceLeDiff, reduceCtorEq, Nat.reduceMul, Int.reduceToNat, Int.one_mul, e0, hb7, s20t7, s20t8, s20t9, s20t27, s20f0, s20f1, s20f2, s20f26, hb24, sW, sV]
                refine aops_val (v := ?v34) rfl ?h34 ?_
                case h34 => simp only [q0, kz, kv, ka, kf, km, y_and, rwR, enR, csR, tyf, Nat.reduceBEq, reduceIte, Nat.reduceEqDiff, Nat.reduceAdd, Nat.reduceLeDiff, reduceCtorEq, Nat.reduceMul, Int.reduceToNat, Int.one_mul, e0, hb7, s20t7, s20t8, s20t9, s20t27, s20f0, s20f1, s20f2, s20f26, hb24, sW, sV]; first | (rw [idx_c un43 if3] <;> omega) | (rw [idx_o un43 if3] <;> omega) | (rw [idx_a un43 if3] <;> omega)
                simp only [q0, kz, kv, ka, kf, km, y_and, rwR, enR, csR, tyf, Nat.reduceBEq, reduceIte, Nat.reduceEqDiff, Nat.reduceAdd, Nat.reduceLeDiff, reduceCtorEq, Nat.reduceMul, Int.reduceToNat, Int.one_mul, e0, hb7, s20t7, s20t8, s20t9, s20t27, s20f0, s20f1, s20f2, s20f26, hb24, sW, sV]
                refine aops_orunN 2 _ _ ?_
                simp only [q0, kz, kv, ka, kf, km, y_and, rwR, enR, csR, tyf, Nat.reduceBEq, reduceIte, Nat.reduceEqDiff, Nat.reduceAdd, Nat.reduceLeDiff, reduceCtorEq, Nat.reduceMul, Int.reduceToNat, Int.one_mul, e0, hb7, s20t7, s20t8, s20t9, s20t27, s20f0, s20f1, s20f2, s20f26, hb24, sW, sV]
                refine aops_val (v := ?v35) rfl ?h35 ?_
                case h35 => simp only [q0, kz, kv, ka, kf, km, y_and, rwR, enR, csR, tyf, Nat.reduceBEq, reduceIte, Nat.reduceEqDiff, Nat.reduceAdd, Nat.reduceLeDiff, reduceCtorEq, Nat.reduceMul, Int.reduceToNat, Int.one_mul, e0, hb7, s20t7, s20t8, s20t9, s20t27, s20f0, s20f1, s20f2, s20f26, hb24, sW, sV]; (rw [y_shl (by omega), hmin, wr_id] <;> omega)
                simp only [q0, kz, kv, ka, kf, km, y_and, rwR, enR, csR, tyf, Nat.reduceBEq, reduceIte, Nat.reduceEqDiff, Nat.reduceAdd, Nat.reduceLeDiff, reduceCtorEq, Nat.reduceMul, Int.reduceToNat, Int.one_mul, e0, hb7, s20t7, s20t8, s20t9, s20t27, s20f0, s20f1, s20f2, s20f26, hb24, sW, sV]
                refine aops_call (at_fun _ _ ?s36_0 ?s36_1) rfl rfl rfl rfl (by (try simp only [q0, kz, kv, ka, kf, km, y_and, rwR, enR, csR, tyf, Nat.reduceBEq, reduceIte, Nat.reduceEqDiff, Nat.reduceAdd, Nat.reduceLeDiff, reduceCtorEq, Nat.reduceMul, Int.reduceToNat, Int.one_mul, e0, hb7, s20t7, s20t8, s20t9, s20t27, s20f0, s20f1, s20f2, s20f26, hb24, sW, sV]); (repeat' (first | exact .nil | exact wk_c | exact wk_ownc | exact wk_nilsc | exact wk_nils | exact wk_fn | refine .cons ?_ ?_ | refine wk_agg ?_ | refine wk_fnL ?_))) rfl rfl ?m36
                case s36_0 => omega
                case s36_1 => omega
                simp only [q0, kz, kv, ka, kf, km, y_and, rwR, enR, csR, tyf, Nat.reduceBEq, reduceIte, Nat.reduceEqDiff, Nat.reduceAdd, Nat.reduceLeDiff, reduceCtorEq, Nat.reduceMul, Int.reduceToNat, Int.one_mul, e0, hb7, s20t7, s20t8, s20t9, s20t27, s20f0, s20f1, s20f2, s20f26, hb24, sW, sV]
                refine aops_orunN 1 _ _ ?_
                simp only [q0, kz, kv, ka, kf, km, y_and, rwR, enR, csR, tyf, Nat.reduceBEq, reduceIte, Nat.reduceEqDiff, Nat.reduceAdd, Nat.reduceLeDiff, reduceCtorEq, Nat.reduceMul, Int.reduceToNat, Int.one_mul, e0, hb7, s20t7, s20t8, s20t9, s20t27, s20f0, s20f1, s20f2, s20f26, hb24, sW, sV]
                refine aops_nil (hL33 _ ?_)
                simp only [q0, kz, kv, ka, kf, km, y_and, rwR, enR, csR, tyf, Nat.reduceBEq, reduceIte, Nat.reduceEqDiff, Nat.reduceAdd, Nat.reduceLeDiff, reduceCtorEq, Nat.reduceMul, Int.reduceToNat, Int.one_mul, e0, hb7, s20t7, s20t8, s20t9, s20t27, s20f0, s20f1, s20f2, s20f26, hb24, sW, sV]
                try simp only [rk_state]
                refine hK32 _ ?_
                refine awp_seq_k fun K37 hK37 => ?_
                have sP := put_next ns ws i
                have hE := encB_len ns ws i
                have hE2 := encB_len ns ws (i + 1)
                refine awp_region_lit fun L38 hL38 => ?_
                refine aops_orunN 3 _ _ ?_
                simp only [q0, kz, kv, ka, kf, km, y_and, rwR, enR, csR, tyf, Nat.reduceBEq, reduceIte, Nat.reduceEqDiff, Nat.reduceAdd, Nat.reduceLeDiff, reduceCtorEq, Nat.reduceMul, Int.reduceToNat, Int.one_mul, e0, hb7, s20t7, s20t8, s20t9, s20t27, s20f0, s20f1, s20f2, s20f26, hb24, sW, sV, sP]
                refine aops_call_own (put_fun _ _ _ ?s39_0 ?s39_1) rfl rfl rfl rfl (by (try simp only [q0, kz, kv, ka, kf, km, y_and, rwR, enR, csR, tyf, Nat.reduceBEq, reduceIte, Nat.reduceEqDiff, Nat.reduceAdd, Nat.reduceLeDiff, reduceCtorEq, Nat.reduceMul, Int.reduceToNat, Int.one_mul, e0, hb7, s20t7, s20t8, s20t9, s20t27, s20f0, s20f1, s20f2, s20f26, hb24, sW, sV, sP]); (repeat' (first | exact .nil | exact wk_c | exact wk_ownc | exact wk_nilsc | exact wk_nils | exact wk_fn | refine .cons ?_ ?_ | refine wk_agg ?_ | refine wk_fnL ?_))) rfl rfl rfl (by simp only [q0, kz, kv, ka, kf, km, y_and, rwR, enR, csR, tyf, Nat.reduceBEq, reduceIte, Nat.reduceEqDiff, Nat.reduceAdd, Nat.reduceLeDiff, reduceCtorEq, Nat.reduceMul, Int.reduceToNat, Int.one_mul, e0, hb7, s20t7, s20t8, s20t9, s20t27, s20f0, s20f1, s20f2, s20f26, hb24, sW, sV, sP]) ?m39
                case s39_0 => first | assumption | omega | decide +kernel | (simp only [List.length_take, List.length_drop]; omega)
                case s39_1 => omega
                simp only [q0, kz, kv, ka, kf, km, y_and, rwR, enR, csR, tyf, Nat.reduceBEq, reduceIte, Nat.reduceEqDiff, Nat.reduceAdd, Nat.reduceLeDiff, reduceCtorEq, Nat.reduceMul, Int.reduceToNat, AV.setOwn, AV.setOwn1, Int.one_mul, e0, hb7, s20t7, s20t8, s20t9, s20t27, s20f0, s20f1, s20f2, s20f26, hb24, sW, sV, sP]
                refine aops_orunN 5 _ _ ?_
                simp only [q0, kz, kv, ka, kf, km, y_and, rwR, enR, csR, tyf, Nat.reduceBEq, reduceIte, Nat.reduceEqDiff, Nat.reduceAdd, Nat.reduceLeDiff, reduceCtorEq, Nat.reduceMul, Int.reduceToNat, Int.one_mul, e0, hb7, s20t7, s20t8, s20t9, s20t27, s20f0, s20f1, s20f2, s20f26, hb24, sW, sV, sP]
                refine aops_nil (hL38 _ ?_)
                simp only [q0, kz, kv, ka, kf, km, y_and, rwR, enR, csR, tyf, Nat.reduceBEq, reduceIte, Nat.reduceEqDiff, Nat.reduceAdd, Nat.reduceLeDiff, reduceCtorEq, Nat.reduceMul, Int.reduceToNat, Int.one_mul, e0, hb7, s20t7, s20t8, s20t9, s20t27, s20f0, s20f1, s20f2, s20f26, hb24, sW, sV, sP]
                try simp only [rk_state]
                refine hK37 _ ?_
                refine awp_seq_k fun K40 hK40 => ?_
                refine awp_seq_k fun K41 hK41 => ?_
                have sT : (encB ns ws (i + 1)).take (encB ns ws i).length = encB ns ws i := by rw [encB_next, List.take_left]
                have hL : ((encB ns ws (i + 1)).length : Int) = (encB ns ws i).length + wAt ws i := by (rw [encB_next, List.length_append, bitsN_len]; omega)
                refine awp_region_lit fun L42 hL42 => ?_
                refine aops_orunN 3 _ _ ?_
                simp only [q0, kz, kv, ka, kf, km, y_and, rwR, enR, csR, tyf, Nat.reduceBEq, reduceIte, Nat.reduceEqDiff, Nat.reduceAdd, Nat.reduceLeDiff, reduceCtorEq, Nat.reduceMul, Int.reduceToNat, Int.one_mul, e0, hb7, s20t7, s20t8, s20t9, s20t27, s20f0, s20f1, s20f2, s20f26, hb24, sW, sV, sP, sT]
                refine aops_part (b := ?p43) 51 ?h43 (fun hb43 => ?a43) (fun hb43 => ?b43)
                case h43 => simp only [q0, kz, kv, ka, kf, km, y_and, rwR, enR, csR, tyf, Nat.reduceBEq, reduceIte, Nat.reduceEqDiff, Nat.reduceAdd, Nat.reduceLeDiff, reduceCtorEq, Nat.reduceMul, Int.reduceToNat, Int.one_mul, e0, hb7, s20t7, s20t8, s20t9, s20t27, s20f0, s20f1, s20f2, s20f26, hb24, sW, sV, sP, sT]; rfl
                case a43 =>
                  have hp43 := hb43
                  try simp only [kb] at hp43
                  all_goals try exact absurd hb43 (by decide)
                  all_goals try (exfalso; omega)
                  all_goals
                    try simp only [hb43]
                    refine aops_orunN 17 _ _ ?_
                    simp only [q0, kz, kv, ka, kf, km, y_and, rwR, enR, csR, tyf, Nat.reduceBEq, reduceIte, Nat.reduceEqDiff, Nat.reduceAdd, Nat.reduceLeDiff, reduceCtorEq, Nat.reduceMul, Int.reduceToNat, Int.one_mul, e0, hb7, s20t7, s20t8, s20t9, s20t27, s20f0, s20f1, s20f2, s20f26, hb24, sW, sV, sP, sT, hb43]
                    refine aops_nil (hL42 _ ?_)
                    simp only [q0, kz, kv, ka, kf, km, y_and, rwR, enR, csR, tyf, Nat.reduceBEq, reduceIte, Nat.reduceEqDiff, Nat.reduceAdd, Nat.reduceLeDiff, reduceCtorEq, Nat.reduceMul, Int.reduceToNat, Int.one_mul, e0, hb7, s20t7, s20t8, s20t9, s20t27, s20f0, s20f1, s20f2, s20f26, hb24, sW, sV, sP, sT, hb43]
                    try simp only [rk_state]
                    refine hK41 _ ?_
                    as_aux_lemma =>
                      refine awp_cond (t := true) (by simp only [q0, kz, kv, ka, kf, km, y_and, rwR, enR, csR, tyf, Nat.reduceBEq, reduceIte, Nat.reduceEqDiff, Nat.reduceAdd, Nat.reduceLeDiff, reduceCtorEq, Nat.reduceMul, Int.reduceToNat, Int.one_mul, e0, hb7, s20t7, s20t8, s20t9, s20t27, s20f0, s20f1, s20f2, s20f26, hb24, sW, sV, sP, sT, hb43]) (fun _ => ?_) (fun h => ?_)
                      case refine_2 => cases h
                      refine awp_seq_k fun K44 hK44 => ?_
                      refine awp_region_lit fun L45 hL45 => ?_
                      refine aops_orunN 1 _ _ ?_
                      simp only [q0, kz, kv, ka, kf, km, y_and, rwR, enR, csR, tyf, Nat.reduceBEq, reduceIte, Nat.reduceEqDiff, Nat.reduceAdd, Nat.reduceLeDiff, reduceCtorEq, Nat.reduceMul, Int.reduceToNat, Int.one_mul, e0, hb7, s20t7, s20t8, s20t9, s20t27, s20f0, s20f1, s20f2, s20f26, hb24, sW, sV, sP, sT, hb43]
                      refine aops_nil (hL45 _ ?_)
                      simp only [q0, kz, kv, ka, kf, km, y_and, rwR, enR, csR, tyf, Nat.reduceBEq, reduceIte, Nat.reduceEqDiff, Nat.reduceAdd, Nat.reduceLeDiff, reduceCtorEq, Nat.reduceMul, Int.reduceToNat, Int.one_mul, e0, hb7, s20t7, s20t8, s20t9, s20t27, s20f0, s20f1, s20f2, s20f26, hb24, sW, sV, sP, sT, hb43]
                      try simp only [rk_state]
                      refine hK44 _ ?_
                      refine awp_ret ?_
                      try simp only [rk_state]
                      refine ⟨_, 0, by simp only [q0, kz, kv, ka, kf, km, y_and, rwR, enR, csR, tyf, Nat.reduceBEq, reduceIte, Nat.reduceEqDiff, Nat.reduceAdd, Nat.reduceLeDiff, reduceCtorEq, Nat.reduceMul, Int.reduceToNat, resA, Try.results7, Int.one_mul, e0, hb7, s20t7, s20t8, s20t9, s20t27, s20f0, s20f1, s20f2, s20f26, hb24, sW, sV, sP, sT, hb43]; rfl, ?_, fun l hl => absurd rfl hl, fun l hl => absurd rfl hl⟩
                      simp only [packA]
                      (repeat' (first | exact .nil | exact wkR_c | exact wkR_own | exact wkR_nils | refine wkR_int ?_ | refine wkR_bool ?_ | refine wkR_sl ?_ | refine wkR_osl ?_ | refine wkR_nsl ?_ | refine wkR_oo ?_ | refine wkR_no ?_ | refine .cons ?_ ?_ | refine wkR_agg ?_ | refine wkR_tup ?_))
                case b43 =>
                  have hp43 := hb43
                  try simp only [kb] at hp43
                  all_goals try exact absurd hb43 (by decide)
                  all_goals try (exfalso; omega)
                  all_goals
                    try simp only [hb43]
                    refine aops_orunN 5 _ _ ?_
                    simp only [q0, kz, kv, ka, kf, km, y_and, rwR, enR, csR, tyf, Nat.reduceBEq, reduceIte, Nat.reduceEqDiff, Nat.reduceAdd, Nat.reduceLeDiff, reduceCtorEq, Nat.reduceMul, Int.reduceToNat, Int.one_mul, e0, hb7, s20t7, s20t8, s20t9, s20t27, s20f0, s20f1, s20f2, s20f26, hb24, sW, sV, sP, sT, hb43]
                    refine aops_val (v := ?v46) (by simp only [q0, kz, kv, ka, kf, km, y_and, rwR, enR, csR, tyf, Nat.reduceBEq, reduceIte, Nat.reduceEqDiff, Nat.reduceAdd, Nat.reduceLeDiff, reduceCtorEq, Nat.reduceMul, Int.reduceToNat, Int.one_mul, e0, hb7, s20t7, s20t8, s20t9, s20t27, s20f0, s20f1, s20f2, s20f26, hb24, sW, sV, sP, sT, hb43]) ?h46 ?_
                    case h46 => simp only [q0, kz, kv, ka, kf, km, y_and, rwR, enR, csR, tyf, Nat.reduceBEq, reduceIte, Nat.reduceEqDiff, Nat.reduceAdd, Nat.reduceLeDiff, reduceCtorEq, Nat.reduceMul, Int.reduceToNat, Int.one_mul, e0, hb7, s20t7, s20t8, s20t9, s20t27, s20f0, s20f1, s20f2, s20f26, hb24, sW, sV, sP, sT, hb43]; first | (rw [wr_id] <;> omega) | rfl
                    simp only [q0, kz, kv, ka, kf, km, y_and, rwR, enR, csR, tyf, Nat.reduceBEq, reduceIte, Nat.reduceEqDiff, Nat.reduceAdd, Nat.reduceLeDiff, reduceCtorEq, Nat.reduceMul, Int.reduceToNat, Int.one_mul, e0, hb7, s20t7, s20t8, s20t9, s20t27, s20f0, s20f1, s20f2, s20f26, hb24, sW, sV, sP, sT, hb43]
                    refine aops_orunN 3 _ _ ?_
                    simp only [q0, kz, kv, ka, kf, km, y_and, rwR, enR, csR, tyf, Nat.reduceBEq, reduceIte, Nat.reduceEqDiff, Nat.reduceAdd, Nat.reduceLeDiff, reduceCtorEq, Nat.reduceMul, Int.reduceToNat, Int.one_mul, e0, hb7, s20t7, s20t8, s20t9, s20t27, s20f0, s20f1, s20f2, s20f26, hb24, sW, sV, sP, sT, hb43]
                    refine aops_part (b := ?p47) 60 ?h47 (fun hb47 => ?a47) (fun hb47 => ?b47)
                    case h47 => simp only [q0, kz, kv, ka, kf, km, y_and, rwR, enR, csR, tyf, Nat.reduceBEq, reduceIte, Nat.reduceEqDiff, Nat.reduceAdd, Nat.reduceLeDiff, reduceCtorEq, Nat.reduceMul, Int.reduceToNat, Int.one_mul, e0, hb7, s20t7, s20t8, s20t9, s20t27, s20f0, s20f1, s20f2, s20f26, hb24, sW, sV, sP, sT, hb43]; rfl
                    case a47 =>
                      have hp47 := hb47
                      try simp only [kb] at hp47
                      all_goals try exact absurd hb47 (by decide)
                      all_goals try (exfalso; omega)
                      all_goals
                        try simp only [hb47]
                        refine aops_orunN 8 _ _ ?_
                        simp only [q0, kz, kv, ka, kf, km, y_and, rwR, enR, csR, tyf, Nat.reduceBEq, reduceIte, Nat.reduceEqDiff, Nat.reduceAdd, Nat.reduceLeDiff, reduceCtorEq, Nat.reduceMul, Int.reduceToNat, Int.one_mul, e0, hb7, s20t7, s20t8, s20t9, s20t27, s20f0, s20f1, s20f2, s20f26, hb24, sW, sV, sP, sT, hb43, hb47]
                        refine aops_nil (hL42 _ ?_)
                        simp only [q0, kz, kv, ka, kf, km, y_and, rwR, enR, csR, tyf, Nat.reduceBEq, reduceIte, Nat.reduceEqDiff, Nat.reduceAdd, Nat.reduceLeDiff, reduceCtorEq, Nat.reduceMul, Int.reduceToNat, Int.one_mul, e0, hb7, s20t7, s20t8, s20t9, s20t27, s20f0, s20f1, s20f2, s20f26, hb24, sW, sV, sP, sT, hb43, hb47]
                        try simp only [rk_state]
                        refine hK41 _ ?_
                        refine awp_cond (t := true) (by simp only [q0, kz, kv, ka, kf, km, y_and, rwR, enR, csR, tyf, Nat.reduceBEq, reduceIte, Nat.reduceEqDiff, Nat.reduceAdd, Nat.reduceLeDiff, reduceCtorEq, Nat.reduceMul, Int.reduceToNat, Int.one_mul, e0, hb7, s20t7, s20t8, s20t9, s20t27, s20f0, s20f1, s20f2, s20f26, hb24, sW, sV, sP, sT, hb43, hb47]) (fun _ => ?_) (fun h => ?_)
                        case refine_2 => cases h
                        refine awp_seq_k fun K48 hK48 => ?_
                        refine awp_region_lit fun L49 hL49 => ?_
                        refine aops_orunN 1 _ _ ?_
                        simp only [q0, kz, kv, ka, kf, km, y_and, rwR, enR, csR, tyf, Nat.reduceBEq, reduceIte, Nat.reduceEqDiff, Nat.reduceAdd, Nat.reduceLeDiff, reduceCtorEq, Nat.reduceMul, Int.reduceToNat, Int.one_mul, e0, hb7, s20t7, s20t8, s20t9, s20t27, s20f0, s20f1, s20f2, s20f26, hb24, sW, sV, sP, sT, hb43, hb47]
                        refine aops_nil (hL49 _ ?_)
                        simp only [q0, kz, kv, ka, kf, km, y_and, rwR, enR, csR, tyf, Nat.reduceBEq, reduceIte, Nat.reduceEqDiff, Nat.reduceAdd, Nat.reduceLeDiff, reduceCtorEq, Nat.reduceMul, Int.reduceToNat, Int.one_mul, e0, hb7, s20t7, s20t8, s20t9, s20t27, s20f0, s20f1, s20f2, s20f26, hb24, sW, sV, sP, sT, hb43, hb47]
                        try simp only [rk_state]
                        refine hK48 _ ?_
                        refine awp_ret ?_
                        try simp only [rk_state]
                        refine ⟨_, 0, by simp only [q0, kz, kv, ka, kf, km, y_and, rwR, enR, csR, tyf, Nat.reduceBEq, reduceIte, Nat.reduceEqDiff, Nat.reduceAdd, Nat.reduceLeDiff, reduceCtorEq, Nat.reduceMul, Int.reduceToNat, resA, Try.results7, Int.one_mul, e0, hb7, s20t7, s20t8, s20t9, s20t27, s20f0, s20f1, s20f2, s20f26, hb24, sW, sV, sP, sT, hb43, hb47]; rfl, ?_, fun l hl => absurd rfl hl, fun l hl => absurd rfl hl⟩
                        simp only [packA]
                        (repeat' (first | exact .nil | exact wkR_c | exact wkR_own | exact wkR_nils | refine wkR_int ?_ | refine wkR_bool ?_ | refine wkR_sl ?_ | refine wkR_osl ?_ | refine wkR_nsl ?_ | refine wkR_oo ?_ | refine wkR_no ?_ | refine .cons ?_ ?_ | refine wkR_agg ?_ | refine wkR_tup ?_))
                    case b47 =>
                      have hp47 := hb47
                      try simp only [kb] at hp47
                      all_goals try exact absurd hb47 (by decide)
                      all_goals try (exfalso; omega)
                      all_goals
                        try simp only [hb47]
                        refine aops_orunN 3 _ _ ?_
                        simp only [q0, kz, kv, ka, kf, km, y_and, rwR, enR, csR, tyf, Nat.reduceBEq, reduceIte, Nat.reduceEqDiff, Nat.reduceAdd, Nat.reduceLeDiff, reduceCtorEq, Nat.reduceMul, Int.reduceToNat, Int.one_mul, e0, hb7, s20t7, s20t8, s20t9, s20t27, s20f0, s20f1, s20f2, s20f26, hb24, sW, sV, sP, sT, hb43, hb47]
                        refine aops_val (v := ?v50) (by simp only [q0, kz, kv, ka, kf, km, y_and, rwR, enR, csR, tyf, Nat.reduceBEq, reduceIte, Nat.reduceEqDiff, Nat.reduceAdd, Nat.reduceLeDiff, reduceCtorEq, Nat.reduceMul, Int.reduceToNat, Int.one_mul, e0, hb7, s20t7, s20t8, s20t9, s20t27, s20f0, s20f1, s20f2, s20f26, hb24, sW, sV, sP, sT, hb43, hb47]) ?h50 ?_
                        case h50 => simp only [q0, kz, kv, ka, kf, km, y_and, rwR, enR, csR, tyf, Nat.reduceBEq, reduceIte, Nat.reduceEqDiff, Nat.reduceAdd, Nat.reduceLeDiff, reduceCtorEq, Nat.reduceMul, Int.reduceToNat, Int.one_mul, e0, hb7, s20t7, s20t8, s20t9, s20t27, s20f0, s20f1, s20f2, s20f26, hb24, sW, sV, sP, sT, hb43, hb47]; first | (rw [slc_h un36 if4] <;> omega) | (rw [slc_ho un36 if4] <;> omega)
                        simp only [q0, kz, kv, ka, kf, km, y_and, rwR, enR, csR, tyf, Nat.reduceBEq, reduceIte, Nat.reduceEqDiff, Nat.reduceAdd, Nat.reduceLeDiff, reduceCtorEq, Nat.reduceMul, Int.reduceToNat, Int.one_mul, e0, hb7, s20t7, s20t8, s20t9, s20t27, s20f0, s20f1, s20f2, s20f26, hb24, sW, sV, sP, sT, hb43, hb47]
                        refine aops_orunN 1 _ _ ?_
                        simp only [q0, kz, kv, ka, kf, km, y_and, rwR, enR, csR, tyf, Nat.reduceBEq, reduceIte, Nat.reduceEqDiff, Nat.reduceAdd, Nat.reduceLeDiff, reduceCtorEq, Nat.reduceMul, Int.reduceToNat, Int.one_mul, e0, hb7, s20t7, s20t8, s20t9, s20t27, s20f0, s20f1, s20f2, s20f26, hb24, sW, sV, sP, sT, hb43, hb47]
                        refine aops_call (equal_bool_fun _ _ ?s51_0) (by simp only [q0, kz, kv, ka, kf, km, y_and, rwR, enR, csR, tyf, Nat.reduceBEq, reduceIte, Nat.reduceEqDiff, Nat.reduceAdd, Nat.reduceLeDiff, reduceCtorEq, Nat.reduceMul, Int.reduceToNat, Int.one_mul, e0, hb7, s20t7, s20t8, s20t9, s20t27, s20f0, s20f1, s20f2, s20f26, hb24, sW, sV, sP, sT, hb43, hb47]) rfl rfl rfl (by (try simp only [q0, kz, kv, ka, kf, km, y_and, rwR, enR, csR, tyf, Nat.reduceBEq, reduceIte, Nat.reduceEqDiff, Nat.reduceAdd, Nat.reduceLeDiff, reduceCtorEq, Nat.reduceMul, Int.reduceToNat, Int.one_mul, e0, hb7, s20t7, s20t8, s20t9, s20t27, s20f0, s20f1, s20f2, s20f26, hb24, sW, sV, sP, sT, hb43, hb47]); (repeat' (first | exact .nil | exact wk_c | exact wk_ownc | exact wk_nilsc | exact wk_nils | exact wk_fn | refine .cons ?_ ?_ | refine wk_agg ?_ | refine wk_fnL ?_))) rfl rfl ?m51
                        case s51_0 => first | assumption | omega | decide +kernel | (simp only [List.length_take, List.length_drop]; omega)
                        simp only [q0, kz, kv, ka, kf, km, y_and, rwR, enR, csR, tyf, Nat.reduceBEq, reduceIte, Nat.reduceEqDiff, Nat.reduceAdd, Nat.reduceLeDiff, reduceCtorEq, Nat.reduceMul, Int.reduceToNat, Int.one_mul, e0, hb7, s20t7, s20t8, s20t9, s20t27, s20f0, s20f1, s20f2, s20f26, hb24, sW, sV, sP, sT, hb43, hb47]
                        refine aops_orunN 2 _ _ ?_
                        simp only [q0, kz, kv, ka, kf, km, y_and, rwR, enR, csR, tyf, Nat.reduceBEq, reduceIte, Nat.reduceEqDiff, Nat.reduceAdd, Nat.reduceLeDiff, reduceCtorEq, Nat.reduceMul, Int.reduceToNat, Int.one_mul, e0, hb7, s20t7, s20t8, s20t9, s20t27, s20f0, s20f1, s20f2, s20f26, hb24, sW, sV, sP, sT, hb43, hb47]
                        refine aops_nil (hL42 _ ?_)
                        simp only [q0, kz, kv, ka, kf, km, y_and, rwR, enR, csR, tyf, Nat.reduceBEq, reduceIte, Nat.reduceEqDiff, Nat.reduceAdd, Nat.reduceLeDiff, reduceCtorEq, Nat.reduceMul, Int.reduceToNat, Int.one_mul, e0, hb7, s20t7, s20t8, s20t9, s20t27, s20f0, s20f1, s20f2, s20f26, hb24, sW, sV, sP, sT, hb43, hb47]
                        try simp only [rk_state]
                        refine hK41 _ ?_
                        refine awp_cond (t := ?t52) ?h52 (fun hb52 => ?a52) (fun hb52 => ?b52)
                        case h52 => simp only [q0, kz, kv, ka, kf, km, y_and, rwR, enR, csR, tyf, Nat.reduceBEq, reduceIte, Nat.reduceEqDiff, Nat.reduceAdd, Nat.reduceLeDiff, reduceCtorEq, Nat.reduceMul, Int.reduceToNat, Int.one_mul, e0, hb7, s20t7, s20t8, s20t9, s20t27, s20f0, s20f1, s20f2, s20f26, hb24, sW, sV, sP, sT, hb43, hb47]; rfl
                        case a52 =>
                          have hp52 := hb52
                          try simp only [kb] at hp52
                          all_goals try exact absurd hb52 (by decide)
                          all_goals try (exfalso; omega)
                          all_goals
                            refine awp_seq_k fun K53 hK53 => ?_
                            refine awp_region_lit fun L54 hL54 => ?_
                            refine aops_orunN 1 _ _ ?_
                            simp only [q0, kz, kv, ka, kf, km, y_and, rwR, enR, csR, tyf, Nat.reduceBEq, reduceIte, Nat.reduceEqDiff, Nat.reduceAdd, Nat.reduceLeDiff, reduceCtorEq, Nat.reduceMul, Int.reduceToNat, Int.one_mul, e0, hb7, s20t7, s20t8, s20t9, s20t27, s20f0, s20f1, s20f2, s20f26, hb24, sW, sV, sP, sT, hb43, hb47, hb52]
                            refine aops_nil (hL54 _ ?_)
                            simp only [q0, kz, kv, ka, kf, km, y_and, rwR, enR, csR, tyf, Nat.reduceBEq, reduceIte, Nat.reduceEqDiff, Nat.reduceAdd, Nat.reduceLeDiff, reduceCtorEq, Nat.reduceMul, Int.reduceToNat, Int.one_mul, e0, hb7, s20t7, s20t8, s20t9, s20t27, s20f0, s20f1, s20f2, s20f26, hb24, sW, sV, sP, sT, hb43, hb47, hb52]
                            try simp only [rk_state]
                            refine hK53 _ ?_
                            as_aux_lemma =>
                              refine awp_ret ?_
                              try simp only [rk_state]
                              refine ⟨_, 0, by simp only [q0, kz, kv, ka, kf, km, y_and, rwR, enR, csR, tyf, Nat.reduceBEq, reduceIte, Nat.reduceEqDiff, Nat.reduceAdd, Nat.reduceLeDiff, reduceCtorEq, Nat.reduceMul, Int.reduceToNat, resA, Try.results7, Int.one_mul, e0, hb7, s20t7, s20t8, s20t9, s20t27, s20f0, s20f1, s20f2, s20f26, hb24, sW, sV, sP, sT, hb43, hb47, hb52]; rfl, ?_, fun l hl => absurd rfl hl, fun l hl => absurd rfl hl⟩
                              simp only [packA]
                              (repeat' (first | exact .nil | exact wkR_c | exact wkR_own | exact wkR_nils | refine wkR_int ?_ | refine wkR_bool ?_ | refine wkR_sl ?_ | refine wkR_osl ?_ | refine wkR_nsl ?_ | refine wkR_oo ?_ | refine wkR_no ?_ | refine .cons ?_ ?_ | refine wkR_agg ?_ | refine wkR_tup ?_))
                        case b52 =>
                          have hp52 := hb52
                          try simp only [kb] at hp52
                          all_goals try exact absurd hb52 (by decide)
                          all_goals try (exfalso; omega)
                          all_goals
                            refine awp_skip ?_
                            try simp only [rk_state]
                            refine hK40 _ ?_
                            have hvl := vsB_len ns ws i
                            have hwl := wsB_len ws i
                            refine awp_region_lit fun L55 hL55 => ?_
                            refine aops_orunN 4 _ _ ?_
                            simp only [q0, kz, kv, ka, kf, km, y_and, rwR, enR, csR, tyf, Nat.reduceBEq, reduceIte, Nat.reduceEqDiff, Nat.reduceAdd, Nat.reduceLeDiff, reduceCtorEq, Nat.reduceMul, Int.reduceToNat, Int.one_mul, e0, hb7, s20t7, s20t8, s20t9, s20t27, s20f0, s20f1, s20f2, s20f26, hb24, sW, sV, sP, sT, hb43, hb47, hb52]
                            refine aops_append (rows := ?rows56) (new := ?new56) rfl rfl rfl rfl rfl rfl un43 ?hx56 (by simp only [q0, kz, kv, ka, kf, km, y_and, rwR, enR, csR, tyf, Nat.reduceBEq, reduceIte, Nat.reduceEqDiff, Nat.reduceAdd, Nat.reduceLeDiff, reduceCtorEq, Nat.reduceMul, Int.reduceToNat, maskO, maskN, Int.one_mul, e0, hb7, s20t7, s20t8, s20t9, s20t27, s20f0, s20f1, s20f2, s20f26, hb24, sW, sV, sP, sT, hb43, hb47, hb52]) (by simp only [q0, kz, kv, ka, kf, km, y_and, rwR, enR, csR, tyf, Nat.reduceBEq, reduceIte, Nat.reduceEqDiff, Nat.reduceAdd, Nat.reduceLeDiff, reduceCtorEq, Nat.reduceMul, Int.reduceToNat, maskO, maskN, Int.one_mul, e0, hb7, s20t7, s20t8, s20t9, s20t27, s20f0, s20f1, s20f2, s20f26, hb24, sW, sV, sP, sT, hb43, hb47, hb52]) (by simp only [q0, kz, kv, ka, kf, km, y_and, rwR, enR, csR, tyf, Nat.reduceBEq, reduceIte, Nat.reduceEqDiff, Nat.reduceAdd, Nat.reduceLeDiff, reduceCtorEq, Nat.reduceMul, Int.reduceToNat, Int.one_mul, e0, hb7, s20t7, s20t8, s20t9, s20t27, s20f0, s20f1, s20f2, s20f26, hb24, sW, sV, sP, sT, hb43, hb47, hb52]) ?hy56 (by simp only [tyf]; rfl) (by simp only [tyf]; decide) ?hsz56 ?hml56 ?hh56
                            case hx56 => simp only [q0, kz, kv, ka, kf, km, y_and, rwR, enR, csR, tyf, Nat.reduceBEq, reduceIte, Nat.reduceEqDiff, Nat.reduceAdd, Nat.reduceLeDiff, reduceCtorEq, Nat.reduceMul, Int.reduceToNat, AV.base, Int.one_mul, e0, hb7, s20t7, s20t8, s20t9, s20t27, s20f0, s20f1, s20f2, s20f26, hb24, sW, sV, sP, sT, hb43, hb47, hb52]; rfl
                            case hy56 => simp only [q0, kz, kv, ka, kf, km, y_and, rwR, enR, csR, tyf, Nat.reduceBEq, reduceIte, Nat.reduceEqDiff, Nat.reduceAdd, Nat.reduceLeDiff, reduceCtorEq, Nat.reduceMul, Int.reduceToNat, Int.one_mul, e0, hb7, s20t7, s20t8, s20t9, s20t27, s20f0, s20f1, s20f2, s20f26, hb24, sW, sV, sP, sT, hb43, hb47, hb52]; rfl
                            case hsz56 => ((try simp only [tyf, rwR, List.length_append, List.length_cons, List.length_nil, List.length_take, List.length_drop]); omega)
                            case hml56 => ((try simp only [maxLen, tyf, rwR, List.length_append, List.length_cons, List.length_nil, List.length_take, List.length_drop]); omega)
                            simp only [q0, kz, kv, ka, kf, km, y_and, rwR, enR, csR, tyf, Nat.reduceBEq, reduceIte, Nat.reduceEqDiff, Nat.reduceAdd, Nat.reduceLeDiff, reduceCtorEq, Nat.reduceMul, Int.reduceToNat, maskO, maskN, Int.one_mul, e0, hb7, s20t7, s20t8, s20t9, s20t27, s20f0, s20f1, s20f2, s20f26, hb24, sW, sV, sP, sT, hb43, hb47, hb52]
                            refine aops_orunN 3 _ _ ?_
                            simp only [q0, kz, kv, ka, kf, km, y_and, rwR, enR, csR, tyf, Nat.reduceBEq, reduceIte, Nat.reduceEqDiff, Nat.reduceAdd, Nat.reduceLeDiff, reduceCtorEq, Nat.reduceMul, Int.reduceToNat, Int.one_mul, e0, hb7, s20t7, s20t8, s20t9, s20t27, s20f0, s20f1, s20f2, s20f26, hb24, sW, sV, sP, sT, hb43, hb47, hb52]
                            refine aops_append (rows := ?rows57) (new := ?new57) rfl rfl rfl rfl rfl rfl un43 ?hx57 (by simp only [q0, kz, kv, ka, kf, km, y_and, rwR, enR, csR, tyf, Nat.reduceBEq, reduceIte, Nat.reduceEqDiff, Nat.reduceAdd, Nat.reduceLeDiff, reduceCtorEq, Nat.reduceMul, Int.reduceToNat, maskO, maskN, Int.one_mul, e0, hb7, s20t7, s20t8, s20t9, s20t27, s20f0, s20f1, s20f2, s20f26, hb24, sW, sV, sP, sT, hb43, hb47, hb52]) (by simp only [q0, kz, kv, ka, kf, km, y_and, rwR, enR, csR, tyf, Nat.reduceBEq, reduceIte, Nat.reduceEqDiff, Nat.reduceAdd, Nat.reduceLeDiff, reduceCtorEq, Nat.reduceMul, Int.reduceToNat, maskO, maskN, Int.one_mul, e0, hb7, s20t7, s20t8, s20t9, s20t27, s20f0, s20f1, s20f2, s20f26, hb24, sW, sV, sP, sT, hb43, hb47, hb52]) (by simp only [q0, kz, kv, ka, kf, km, y_and, rwR, enR, csR, tyf, Nat.reduceBEq, reduceIte, Nat.reduceEqDiff, Nat.reduceAdd, Nat.reduceLeDiff, reduceCtorEq, Nat.reduceMul, Int.reduceToNat, Int.one_mul, e0, hb7, s20t7, s20t8, s20t9, s20t27, s20f0, s20f1, s20f2, s20f26, hb24, sW, sV, sP, sT, hb43, hb47, hb52]) ?hy57 (by simp only [tyf]; rfl) (by simp only [tyf]; decide) ?hsz57 ?hml57 ?hh57
                            case hx57 => simp only [q0, kz, kv, ka, kf, km, y_and, rwR, enR, csR, tyf, Nat.reduceBEq, reduceIte, Nat.reduceEqDiff, Nat.reduceAdd, Nat.reduceLeDiff, reduceCtorEq, Nat.reduceMul, Int.reduceToNat, AV.base, Int.one_mul, e0, hb7, s20t7, s20t8, s20t9, s20t27, s20f0, s20f1, s20f2, s20f26, hb24, sW, sV, sP, sT, hb43, hb47, hb52]; rfl
                            case hy57 => simp only [q0, kz, kv, ka, kf, km, y_and, rwR, enR, csR, tyf, Nat.reduceBEq, reduceIte, Nat.reduceEqDiff, Nat.reduceAdd, Nat.reduceLeDiff, reduceCtorEq, Nat.reduceMul, Int.reduceToNat, Int.one_mul, e0, hb7, s20t7, s20t8, s20t9, s20t27, s20f0, s20f1, s20f2, s20f26, hb24, sW, sV, sP, sT, hb43, hb47, hb52]; rfl
                            case hsz57 => ((try simp only [tyf, rwR, List.length_append, List.length_cons, List.length_nil, List.length_take, List.length_drop]); omega)
                            case hml57 => ((try simp only [maxLen, tyf, rwR, List.length_append, List.length_cons, List.length_nil, List.length_take, List.length_drop]); omega)
                            simp only [q0, kz, kv, ka, kf, km, y_and, rwR, enR, csR, tyf, Nat.reduceBEq, reduceIte, Nat.reduceEqDiff, Nat.reduceAdd, Nat.reduceLeDiff, reduceCtorEq, Nat.reduceMul, Int.reduceToNat, maskO, maskN, Int.one_mul, e0, hb7, s20t7, s20t8, s20t9, s20t27, s20f0, s20f1, s20f2, s20f26, hb24, sW, sV, sP, sT, hb43, hb47, hb52]
                            refine aops_orunN 3 _ _ ?_
                            simp only [q0, kz, kv, ka, kf, km, y_and, rwR, enR, csR, tyf, Nat.reduceBEq, reduceIte, Nat.reduceEqDiff, Nat.reduceAdd, Nat.reduceLeDiff, reduceCtorEq, Nat.reduceMul, Int.reduceToNat, Int.one_mul, e0, hb7, s20t7, s20t8, s20t9, s20t27, s20f0, s20f1, s20f2, s20f26, hb24, sW, sV, sP, sT, hb43, hb47, hb52]
                            refine aops_nil (hL55 _ ?_)
                            simp only [q0, kz, kv, ka, kf, km, y_and, rwR, enR, csR, tyf, Nat.reduceBEq, reduceIte, Nat.reduceEqDiff, Nat.reduceAdd, Nat.reduceLeDiff, reduceCtorEq, Nat.reduceMul, Int.reduceToNat, Int.one_mul, e0, hb7, s20t7, s20t8, s20t9, s20t27, s20f0, s20f1, s20f2, s20f26, hb24, sW, sV, sP, sT, hb43, hb47, hb52]
                            try simp only [rk_state]
                            try simp only [rk_state]
                            refine hK25 _ ?_
                            refine awp_region_lit fun L58 hL58 => ?_
                            refine aops_val (v := ?v59) rfl ?h59 ?_
                            case h59 => simp only [q0, kz, kv, ka, kf, km, y_and, rwR, enR, csR, tyf, Nat.reduceBEq, reduceIte, Nat.reduceEqDiff, Nat.reduceAdd, Nat.reduceLeDiff, reduceCtorEq, Nat.reduceMul, Int.reduceToNat, Int.one_mul, e0, hb7, s20t7, s20t8, s20t9, s20t27, s20f0, s20f1, s20f2, s20f26, hb24, sW, sV, sP, sT, hb43, hb47, hb52]; first | (rw [wr_id] <;> omega) | rfl
                            simp only [q0, kz, kv, ka, kf, km, y_and, rwR, enR, csR, tyf, Nat.reduceBEq, reduceIte, Nat.reduceEqDiff, Nat.reduceAdd, Nat.reduceLeDiff, reduceCtorEq, Nat.reduceMul, Int.reduceToNat, Int.one_mul, e0, hb7, s20t7, s20t8, s20t9, s20t27, s20f0, s20f1, s20f2, s20f26, hb24, sW, sV, sP, sT, hb43, hb47, hb52]
                            refine aops_orunN 1 _ _ ?_
                            simp only [q0, kz, kv, ka, kf, km, y_and, rwR, enR, csR, tyf, Nat.reduceBEq, reduceIte, Nat.reduceEqDiff, Nat.reduceAdd, Nat.reduceLeDiff, reduceCtorEq, Nat.reduceMul, Int.reduceToNat, Int.one_mul, e0, hb7, s20t7, s20t8, s20t9, s20t27, s20f0, s20f1, s20f2, s20f26, hb24, sW, sV, sP, sT, hb43, hb47, hb52]
                            refine aops_nil (hL58 _ ?_)
                            simp only [q0, kz, kv, ka, kf, km, y_and, rwR, enR, csR, tyf, Nat.reduceBEq, reduceIte, Nat.reduceEqDiff, Nat.reduceAdd, Nat.reduceLeDiff, reduceCtorEq, Nat.reduceMul, Int.reduceToNat, Int.one_mul, e0, hb7, s20t7, s20t8, s20t9, s20t27, s20f0, s20f1, s20f2, s20f26, hb24, sW, sV, sP, sT, hb43, hb47, hb52]
                            try simp only [rk_state]
                            have sv1 := vsB_next ns ws i
                            have sw1 := wsB_next ws i
                            refine hK20 _ ((fun (i : Nat) => 30 - i) (i + 1)) ?_ ⟨i + 1, rfl, ?_, ?_, ?_, ?_, ?_, ?_, ?_⟩
                            · (try simp only []); omega
                            · first | omega | simp
                            · first | omega | simp
                            · first | omega | simp
                            · (try simp only [q0, kz, kv, ka, kf, km, y_and, rwR, enR, csR, tyf, Nat.reduceBEq, reduceIte, Nat.reduceEqDiff, Nat.reduceAdd, Nat.reduceLeDiff, reduceCtorEq, Nat.reduceMul, Int.reduceToNat, Int.one_mul, e0, hb7, s20t7, s20t8, s20t9, s20t27, s20f0, s20f1, s20f2, s20f26, hb24, sW, sV, sP, sT, hb43, hb47, hb52, sv1, sw1])
                              all_goals (first | done | rfl | (simp only [AV.c.injEq, C.int.injEq, List.cons.injEq, and_true, true_and]; omega))
                            · (try simp only [q0, kz, kv, ka, kf, km, y_and, rwR, enR, csR, tyf, Nat.reduceBEq, reduceIte, Nat.reduceEqDiff, Nat.reduceAdd, Nat.reduceLeDiff, reduceCtorEq, Nat.reduceMul, Int.reduceToNat, Int.one_mul, e0, hb7, s20t7, s20t8, s20t9, s20t27, s20f0, s20f1, s20f2, s20f26, hb24, sW, sV, sP, sT, hb43, hb47, hb52, sv1, sw1])
                              all_goals (first | done | rfl | (simp only [AV.c.injEq, C.int.injEq, List.cons.injEq, and_true, true_and]; omega))
                            · (try simp only [q0, kz, kv, ka, kf, km, y_and, rwR, enR, csR, tyf, Nat.reduceBEq, reduceIte, Nat.reduceEqDiff, Nat.reduceAdd, Nat.reduceLeDiff, reduceCtorEq, Nat.reduceMul, Int.reduceToNat, Int.one_mul, e0, hb7, s20t7, s20t8, s20t9, s20t27, s20f0, s20f1, s20f2, s20f26, hb24, sW, sV, sP, sT, hb43, hb47, hb52, sv1, sw1])
                              all_goals (first | done | rfl | (simp only [AV.c.injEq, C.int.injEq, List.cons.injEq, and_true, true_and]; omega))
                            · (try simp only [q0, kz, kv, ka, kf, km, y_and, rwR, enR, csR, tyf, Nat.reduceBEq, reduceIte, Nat.reduceEqDiff, Nat.reduceAdd, Nat.reduceLeDiff, reduceCtorEq, Nat.reduceMul, Int.reduceToNat, Int.one_mul, e0, hb7, s20t7, s20t8, s20t9, s20t27, s20f0, s20f1, s20f2, s20f26, hb24, sW, sV, sP, sT, hb43, hb47, hb52, sv1, sw1])
                              all_goals (first | done | rfl | (simp only [AV.c.injEq, C.int.injEq, List.cons.injEq, and_true, true_and]; omega))
          case b24 =>
            have hp24 := hb24
            try simp only [kb] at hp24
            all_goals try exact absurd hb24 (by decide)
            all_goals try (exfalso; omega)
            all_goals
              refine awp_exit ?_
              simp only [rk_state, reduceIte, Nat.reduceEqDiff]
              try simp only [rk_state]
              refine hK17 _ ?_
              refine awp_seq_k fun K60 hK60 => ?_
              have hE := encB_len ns ws i
              have s0 := restB_zero ns ws i more
              have hwl := wsB_len ws i
              refine awp_region_lit fun L61 hL61 => ?_
              refine aops_orunN 3 _ _ ?_
              simp only [q0, kz, kv, ka, kf, km, y_and, rwR, enR, csR, tyf, Nat.reduceBEq, reduceIte, Nat.reduceEqDiff, Nat.reduceAdd, Nat.reduceLeDiff, reduceCtorEq, Nat.reduceMul, Int.reduceToNat, Int.one_mul, e0, hb7, s20t7, s20t8, s20t9, s20t27, s20f0, s20f1, s20f2, s20f26, hb24, s0]
              refine aops_call_own (concat_bool_fun _ ?s62_0 ?s62_1) rfl rfl rfl rfl (by (try simp only [q0, kz, kv, ka, kf, km, y_and, rwR, enR, csR, tyf, Nat.reduceBEq, reduceIte, Nat.reduceEqDiff, Nat.reduceAdd, Nat.reduceLeDiff, reduceCtorEq, Nat.reduceMul, Int.reduceToNat, Int.one_mul, e0, hb7, s20t7, s20t8, s20t9, s20t27, s20f0, s20f1, s20f2, s20f26, hb24, s0]); (repeat' (first | exact .nil | exact wk_c | exact wk_ownc | exact wk_nilsc | exact wk_nils | exact wk_fn | refine .cons ?_ ?_ | refine wk_agg ?_ | refine wk_fnL ?_))) rfl rfl rfl (by simp only [q0, kz, kv, ka, kf, km, y_and, rwR, enR, csR, tyf, Nat.reduceBEq, reduceIte, Nat.reduceEqDiff, Nat.reduceAdd, Nat.reduceLeDiff, reduceCtorEq, Nat.reduceMul, Int.reduceToNat, Int.one_mul, e0, hb7, s20t7, s20t8, s20t9, s20t27, s20f0, s20f1, s20f2, s20f26, hb24, s0]) ?m62
              case s62_0 => (simp only [List.length_cons, List.length_nil]; omega)
              case s62_1 => (first | omega | (simp only [List.flatten_cons, List.flatten_nil, List.append_nil, List.length_append, rwR]; omega))
              simp only [q0, kz, kv, ka, kf, km, y_and, rwR, enR, csR, tyf, Nat.reduceBEq, reduceIte, Nat.reduceEqDiff, Nat.reduceAdd, Nat.reduceLeDiff, reduceCtorEq, Nat.reduceMul, Int.reduceToNat, List.flatten_cons, List.flatten_nil, List.append_nil, AV.setOwn, AV.setOwn1, Int.one_mul, e0, hb7, s20t7, s20t8, s20t9, s20t27, s20f0, s20f1, s20f2, s20f26, hb24, s0]
              refine aops_orunN 1 _ _ ?_
              simp only [q0, kz, kv, ka, kf, km, y_and, rwR, enR, csR, tyf, Nat.reduceBEq, reduceIte, Nat.reduceEqDiff, Nat.reduceAdd, Nat.reduceLeDiff, reduceCtorEq, Nat.reduceMul, Int.reduceToNat, Int.one_mul, e0, hb7, s20t7, s20t8, s20t9, s20t27, s20f0, s20f1, s20f2, s20f26, hb24, s0]
              refine aops_nil (hL61 _ ?_)
              simp only [q0, kz, kv, ka, kf, km, y_and, rwR, enR, csR, tyf, Nat.reduceBEq, reduceIte, Nat.reduceEqDiff, Nat.reduceAdd, Nat.reduceLeDiff, reduceCtorEq, Nat.reduceMul, Int.reduceToNat, Int.one_mul, e0, hb7, s20t7, s20t8, s20t9, s20t27, s20f0, s20f1, s20f2, s20f26, hb24, s0]
              try simp only [rk_state]
              refine hK60 _ ?_
              as_aux_lemma =>
                refine awp_seq_k fun K63 hK63 => ?_
                refine awp_seq_k fun K64 hK64 => ?_
                refine awp_region_lit fun L65 hL65 => ?_
                refine aops_orunN 3 _ _ ?_
                simp only [q0, kz, kv, ka, kf, km, y_and, rwR, enR, csR, tyf, Nat.reduceBEq, reduceIte, Nat.reduceEqDiff, Nat.reduceAdd, Nat.reduceLeDiff, reduceCtorEq, Nat.reduceMul, Int.reduceToNat, Int.one_mul, e0, hb7, s20t7, s20t8, s20t9, s20t27, s20f0, s20f1, s20f2, s20f26, hb24, s0]
                refine aops_nil (hL65 _ ?_)
                simp only [q0, kz, kv, ka, kf, km, y_and, rwR, enR, csR, tyf, Nat.reduceBEq, reduceIte, Nat.reduceEqDiff, Nat.reduceAdd, Nat.reduceLeDiff, reduceCtorEq, Nat.reduceMul, Int.reduceToNat, Int.one_mul, e0, hb7, s20t7, s20t8, s20t9, s20t27, s20f0, s20f1, s20f2, s20f26, hb24, s0]
                try simp only [rk_state]
                refine hK64 _ ?_
                refine awp_block ?_
                refine awp_loopW (W := [86, 87, 88, 89, 15, 16, 91, 92, 93, 90, 94, 95, 96, 17, 18, 19, 97, 98, 99, 100, 101, 102, 103, 104, 105, 106, 6, 107, 7, 108, 85]) (M := []) rfl rfl (fun k s => ∃ (q : Nat) (d : Nat), k = i - q ∧ (q ≤ i) ∧ s.t 7 = .own false d 4 (Rw boC (restB ns ws i q more)) ∧ s.t 85 = .c (.int .i64 (q : Int))) ((fun (q : Nat) (d : Nat) => i - q) (0) (82)) ?i66 ?r66
                case i66 =>
                  refine ⟨0, 82, rfl, ?_, ?_, ?_⟩
                  · first | omega | simp
                  · (try simp only [q0, kz, kv, ka, kf, km, y_and, rwR, enR, csR, tyf, Nat.reduceBEq, reduceIte, Nat.reduceEqDiff, Nat.reduceAdd, Nat.reduceLeDiff, reduceCtorEq, Nat.reduceMul, Int.reduceToNat, Int.one_mul, e0, hb7, s20t7, s20t8, s20t9, s20t27, s20f0, s20f1, s20f2, s20f26, hb24, s0])
                    all_goals (first | done | rfl | (simp only [AV.c.injEq, C.int.injEq, List.cons.injEq, and_true, true_and]; omega))
                  · (try simp only [q0, kz, kv, ka, kf, km, y_and, rwR, enR, csR, tyf, Nat.reduceBEq, reduceIte, Nat.reduceEqDiff, Nat.reduceAdd, Nat.reduceLeDiff, reduceCtorEq, Nat.reduceMul, Int.reduceToNat, Int.one_mul, e0, hb7, s20t7, s20t8, s20t9, s20t27, s20f0, s20f1, s20f2, s20f26, hb24, s0])
                    all_goals (first | done | rfl | (simp only [AV.c.injEq, C.int.injEq, List.cons.injEq, and_true, true_and]; omega))
                case r66 =>
                  rintro k s hf ⟨q, d, rfl, hq17_0, s66t7, s66t85⟩ K66 hK66
                  have s66f2 := hf 2 rfl (by (try simp only [q0, kz, kv, ka, kf, km, y_and, rwR, enR, csR, tyf, Nat.reduceBEq, reduceIte, Nat.reduceEqDiff, Nat.reduceAdd, Nat.reduceLeDiff, reduceCtorEq, Nat.reduceMul, Int.reduceToNat, kn, Int.one_mul, e0, hb7, s20t7, s20t8, s20t9, s20t27, s20f0, s20f1, s20f2, s20f26, hb24, s0]); all_goals rfl)
                  simp only [q0, kz, kv, ka, kf, km, y_and, rwR, enR, csR, tyf, Nat.reduceBEq, reduceIte, Nat.reduceEqDiff, Nat.reduceAdd, Nat.reduceLeDiff, reduceCtorEq, Nat.reduceMul, Int.reduceToNat, Int.one_mul, e0, hb7, s20t7, s20t8, s20t9, s20t27, s20f0, s20f1, s20f2, s20f26, hb24, s0] at s66f2
                  have s66f8 := hf 8 rfl (by (try simp only [q0, kz, kv, ka, kf, km, y_and, rwR, enR, csR, tyf, Nat.reduceBEq, reduceIte, Nat.reduceEqDiff, Nat.reduceAdd, Nat.reduceLeDiff, reduceCtorEq, Nat.reduceMul, Int.reduceToNat, kn, Int.one_mul, e0, hb7, s20t7, s20t8, s20t9, s20t27, s20f0, s20f1, s20f2, s20f26, hb24, s0]); all_goals rfl)
                  simp only [q0, kz, kv, ka, kf, km, y_and, rwR, enR, csR, tyf, Nat.reduceBEq, reduceIte, Nat.reduceEqDiff, Nat.reduceAdd, Nat.reduceLeDiff, reduceCtorEq, Nat.reduceMul, Int.reduceToNat, Int.one_mul, e0, hb7, s20t7, s20t8, s20t9, s20t27, s20f0, s20f1, s20f2, s20f26, hb24, s0] at s66f8
                  have s66f83 := hf 83 rfl (by (try simp only [q0, kz, kv, ka, kf, km, y_and, rwR, enR, csR, tyf, Nat.reduceBEq, reduceIte, Nat.reduceEqDiff, Nat.reduceAdd, Nat.reduceLeDiff, reduceCtorEq, Nat.reduceMul, Int.reduceToNat, kn, Int.one_mul, e0, hb7, s20t7, s20t8, s20t9, s20t27, s20f0, s20f1, s20f2, s20f26, hb24, s0]); all_goals rfl)
                  simp only [q0, kz, kv, ka, kf, km, y_and, rwR, enR, csR, tyf, Nat.reduceBEq, reduceIte, Nat.reduceEqDiff, Nat.reduceAdd, Nat.reduceLeDiff, reduceCtorEq, Nat.reduceMul, Int.reduceToNat, Int.one_mul, e0, hb7, s20t7, s20t8, s20t9, s20t27, s20f0, s20f1, s20f2, s20f26, hb24, s0] at s66f83
                  have s66f84 := hf 84 rfl (by (try simp only [q0, kz, kv, ka, kf, km, y_and, rwR, enR, csR, tyf, Nat.reduceBEq, reduceIte, Nat.reduceEqDiff, Nat.reduceAdd, Nat.reduceLeDiff, reduceCtorEq, Nat.reduceMul, Int.reduceToNat, kn, Int.one_mul, e0, hb7, s20t7, s20t8, s20t9, s20t27, s20f0, s20f1, s20f2, s20f26, hb24, s0]); all_goals rfl)
                  simp only [q0, kz, kv, ka, kf, km, y_and, rwR, enR, csR, tyf, Nat.reduceBEq, reduceIte, Nat.reduceEqDiff, Nat.reduceAdd, Nat.reduceLeDiff, reduceCtorEq, Nat.reduceMul, Int.reduceToNat, Int.one_mul, e0, hb7, s20t7, s20t8, s20t9, s20t27, s20f0, s20f1, s20f2, s20f26, hb24, s0] at s66f84
                  clear hf
                  refine awp_seq_k fun K67 hK67 => ?_
                  refine awp_region_lit fun L68 hL68 => ?_
                  refine aops_orunN 1 _ _ ?_
                  simp only [q0, kz, kv, ka, kf, km, y_and, rwR, enR, csR, tyf, Nat.reduceBEq, reduceIte, Nat.reduceEqDiff, Nat.reduceAdd, Nat.reduceLeDiff, reduceCtorEq, Nat.reduceMul, Int.reduceToNat, Int.one_mul, e0, hb7, s20t7, s20t8, s20t9, s20t27, s20f0, s20f1, s20f2, s20f26, hb24, s0, s66t7, s66t85, s66f2, s66f8, s66f83, s66f84]
                  refine aops_nil (hL68 _ ?_)
                  simp only [q0, kz, kv, ka, kf, km, y_and, rwR, enR, csR, tyf, Nat.reduceBEq, reduceIte, Nat.reduceEqDiff, Nat.reduceAdd, Nat.reduceLeDiff, reduceCtorEq, Nat.reduceMul, Int.reduceToNat, Int.one_mul, e0, hb7, s20t7, s20t8, s20t9, s20t27, s20f0, s20f1, s20f2, s20f26, hb24, s0, s66t7, s66t85, s66f2, s66f8, s66f83, s66f84]
                  try simp only [rk_state]
                  refine hK67 _ ?_
                  refine awp_seq_k fun K69 hK69 => ?_
                  refine awp_cond (t := ?t70) ?h70 (fun hb70 => ?a70) (fun hb70 => ?b70)
                  case h70 => simp only [q0, kz, kv, ka, kf, km, y_and, rwR, enR, csR, tyf, Nat.reduceBEq, reduceIte, Nat.reduceEqDiff, Nat.reduceAdd, Nat.reduceLeDiff, reduceCtorEq, Nat.reduceMul, Int.reduceToNat, Int.one_mul, e0, hb7, s20t7, s20t8, s20t9, s20t27, s20f0, s20f1, s20f2, s20f26, hb24, s0, s66t7, s66t85, s66f2, s66f8, s66f83, s66f84]; rfl
                  case a70 =>
                    have hp70 := hb70
                    try simp only [kb] at hp70
                    all_goals try exact absurd hb70 (by decide)
                    all_goals try (exfalso; omega)
                    all_goals
                      refine awp_skip ?_
                      try simp only [rk_state]
                      refine hK69 _ ?_
                      refine awp_seq_k fun K71 hK71 => ?_
                      refine awp_block ?_
                      refine awp_seq_k fun K72 hK72 => ?_
                      have sg := wsB_get (ws := ws) (i := q) (k := i) (by omega)
                      have sh := vsB_get (ns := ns) (ws := ws) (i := q) (k := i) (by omega)
                      refine awp_region_lit fun L73 hL73 => ?_
                      refine aops_orunN 1 _ _ ?_
                      simp only [q0, kz, kv, ka, kf, km, y_and, rwR, enR, csR, tyf, Nat.reduceBEq, reduceIte, Nat.reduceEqDiff, Nat.reduceAdd, Nat.reduceLeDiff, reduceCtorEq, Nat.reduceMul, Int.reduceToNat, Int.one_mul, e0, hb7, s20t7, s20t8, s20t9, s20t27, s20f0, s20f1, s20f2, s20f26, hb24, s0, s66t7, s66t85, s66f2, s66f8, s66f83, s66f84, hb70, sg, sh]
                      refine aops_val (v := ?v74) rfl ?h74 ?_
                      case h74 => simp only [q0, kz, kv, ka, kf, km, y_and, rwR, enR, csR, tyf, Nat.reduceBEq, reduceIte, Nat.reduceEqDiff, Nat.reduceAdd, Nat.reduceLeDiff, reduceCtorEq, Nat.reduceMul, Int.reduceToNat, Int.one_mul, e0, hb7, s20t7, s20t8, s20t9, s20t27, s20f0, s20f1, s20f2, s20f26, hb24, s0, s66t7, s66t85, s66f2, s66f8, s66f83, s66f84, hb70, sg, sh]; first | (rw [idx_c un43 if3] <;> omega) | (rw [idx_o un43 if3] <;> omega) | (rw [idx_a un43 if3] <;> omega)
                      simp only [q0, kz, kv, ka, kf, km, y_and, rwR, enR, csR, tyf, Nat.reduceBEq, reduceIte, Nat.reduceEqDiff, Nat.reduceAdd, Nat.reduceLeDiff, reduceCtorEq, Nat.reduceMul, Int.reduceToNat, Int.one_mul, e0, hb7, s20t7, s20t8, s20t9, s20t27, s20f0, s20f1, s20f2, s20f26, hb24, s0, s66t7, s66t85, s66f2, s66f8, s66f83, s66f84, hb70, sg, sh]
                      refine aops_orunN 3 _ _ ?_
                      simp only [q0, kz, kv, ka, kf, km, y_and, rwR, enR, csR, tyf, Nat.reduceBEq, reduceIte, Nat.reduceEqDiff, Nat.reduceAdd, Nat.reduceLeDiff, reduceCtorEq, Nat.reduceMul, Int.reduceToNat, Int.one_mul, e0, hb7, s20t7, s20t8, s20t9, s20t27, s20f0, s20f1, s20f2, s20f26, hb24, s0, s66t7, s66t85, s66f2, s66f8, s66f83, s66f84, hb70, sg, sh]
                      refine aops_nil (hL73 _ ?_)
                      simp only [q0, kz, kv, ka, kf, km, y_and, rwR, enR, csR, tyf, Nat.reduceBEq, reduceIte, Nat.reduceEqDiff, Nat.reduceAdd, Nat.reduceLeDiff, reduceCtorEq, Nat.reduceMul, Int.reduceToNat, Int.one_mul, e0, hb7, s20t7, s20t8, s20t9, s20t27, s20f0, s20f1, s20f2, s20f26, hb24, s0, s66t7, s66t85, s66f2, s66f8, s66f83, s66f84, hb70, sg, sh]
                      try simp only [rk_state]
                      refine hK72 _ ?_
                      as_aux_lemma =>
                        refine awp_seq_k fun K75 hK75 => ?_
                        have sQ := take_rest (ns := ns) (ws := ws) (n := i) (k := q) (more := more) (by omega)
                        have hR := restB_len ns ws i q more
                        refine awp_region_lit fun L76 hL76 => ?_
                        refine aops_orunN 2 _ _ ?_
                        simp only [q0, kz, kv, ka, kf, km, y_and, rwR, enR, csR, tyf, Nat.reduceBEq, reduceIte, Nat.reduceEqDiff, Nat.reduceAdd, Nat.reduceLeDiff, reduceCtorEq, Nat.reduceMul, Int.reduceToNat, Int.one_mul, e0, hb7, s20t7, s20t8, s20t9, s20t27, s20f0, s20f1, s20f2, s20f26, hb24, s0, s66t7, s66t85, s66f2, s66f8, s66f83, s66f84, hb70, sg, sh, sQ]
                        refine aops_call_own (take_fun _ _ ?s77_0) rfl rfl rfl rfl (by (try simp only [q0, kz, kv, ka, kf, km, y_and, rwR, enR, csR, tyf, Nat.reduceBEq, reduceIte, Nat.reduceEqDiff, Nat.reduceAdd, Nat.reduceLeDiff, reduceCtorEq, Nat.reduceMul, Int.reduceToNat, Int.one_mul, e0, hb7, s20t7, s20t8, s20t9, s20t27, s20f0, s20f1, s20f2, s20f26, hb24, s0, s66t7, s66t85, s66f2, s66f8, s66f83, s66f84, hb70, sg, sh, sQ]); (repeat' (first | exact .nil | exact wk_c | exact wk_ownc | exact wk_nilsc | exact wk_nils | exact wk_fn | refine .cons ?_ ?_ | refine wk_agg ?_ | refine wk_fnL ?_))) rfl rfl rfl (by simp only [q0, kz, kv, ka, kf, km, y_and, rwR, enR, csR, tyf, Nat.reduceBEq, reduceIte, Nat.reduceEqDiff, Nat.reduceAdd, Nat.reduceLeDiff, reduceCtorEq, Nat.reduceMul, Int.reduceToNat, Int.one_mul, e0, hb7, s20t7, s20t8, s20t9, s20t27, s20f0, s20f1, s20f2, s20f26, hb24, s0, s66t7, s66t85, s66f2, s66f8, s66f83, s66f84, hb70, sg, sh, sQ]) ?m77
                        case s77_0 => first | assumption | omega | decide +kernel | (simp only [List.length_take, List.length_drop]; omega)
                        simp only [q0, kz, kv, ka, kf, km, y_and, rwR, enR, csR, tyf, Nat.reduceBEq, reduceIte, Nat.reduceEqDiff, Nat.reduceAdd, Nat.reduceLeDiff, reduceCtorEq, Nat.reduceMul, Int.reduceToNat, AV.setOwn, AV.setOwn1, Int.one_mul, e0, hb7, s20t7, s20t8, s20t9, s20t27, s20f0, s20f1, s20f2, s20f26, hb24, s0, s66t7, s66t85, s66f2, s66f8, s66f83, s66f84, hb70, sg, sh, sQ]
                        refine aops_orunN 7 _ _ ?_
                        simp only [q0, kz, kv, ka, kf, km, y_and, rwR, enR, csR, tyf, Nat.reduceBEq, reduceIte, Nat.reduceEqDiff, Nat.reduceAdd, Nat.reduceLeDiff, reduceCtorEq, Nat.reduceMul, Int.reduceToNat, Int.one_mul, e0, hb7, s20t7, s20t8, s20t9, s20t27, s20f0, s20f1, s20f2, s20f26, hb24, s0, s66t7, s66t85, s66f2, s66f8, s66f83, s66f84, hb70, sg, sh, sQ]
                        refine aops_nil (hL76 _ ?_)
                        simp only [q0, kz, kv, ka, kf, km, y_and, rwR, enR, csR, tyf, Nat.reduceBEq, reduceIte, Nat.reduceEqDiff, Nat.reduceAdd, Nat.reduceLeDiff, reduceCtorEq, Nat.reduceMul, Int.reduceToNat, Int.one_mul, e0, hb7, s20t7, s20t8, s20t9, s20t27, s20f0, s20f1, s20f2, s20f26, hb24, s0, s66t7, s66t85, s66f2, s66f8, s66f83, s66f84, hb70, sg, sh, sQ]
                        try simp only [rk_state]
                        refine hK75 _ ?_
                        refine awp_seq_k fun K78 hK78 => ?_
                        refine awp_seq_k fun K79 hK79 => ?_
                        have hvl := vsB_len ns ws i
                        refine awp_region_lit fun L80 hL80 => ?_
                        refine aops_orunN 3 _ _ ?_
                        simp only [q0, kz, kv, ka, kf, km, y_and, rwR, enR, csR, tyf, Nat.reduceBEq, reduceIte, Nat.reduceEqDiff, Nat.reduceAdd, Nat.reduceLeDiff, reduceCtorEq, Nat.reduceMul, Int.reduceToNat, Int.one_mul, e0, hb7, s20t7, s20t8, s20t9, s20t27, s20f0, s20f1, s20f2, s20f26, hb24, s0, s66t7, s66t85, s66f2, s66f8, s66f83, s66f84, hb70, sg, sh, sQ]
                        refine aops_part (b := ?p81) 99 ?h81 (fun hb81 => ?a81) (fun hb81 => ?b81)
                        case h81 => simp only [q0, kz, kv, ka, kf, km, y_and, rwR, enR, csR, tyf, Nat.reduceBEq, reduceIte, Nat.reduceEqDiff, Nat.reduceAdd, Nat.reduceLeDiff, reduceCtorEq, Nat.reduceMul, Int.reduceToNat, Int.one_mul, e0, hb7, s20t7, s20t8, s20t9, s20t27, s20f0, s20f1, s20f2, s20f26, hb24, s0, s66t7, s66t85, s66f2, s66f8, s66f83, s66f84, hb70, sg, sh, sQ]; rfl
                        case a81 =>
                          have hp81 := hb81
                          try simp only [kb] at hp81
                          all_goals try exact absurd hb81 (by decide)
                          all_goals try (exfalso; omega)
                          all_goals
                            try simp only [hb81]
                            refine aops_orunN 7 _ _ ?_
                            simp only [q0, kz, kv, ka, kf, km, y_and, rwR, enR, csR, tyf, Nat.reduceBEq, reduceIte, Nat.reduceEqDiff, Nat.reduceAdd, Nat.reduceLeDiff, reduceCtorEq, Nat.reduceMul, Int.reduceToNat, Int.one_mul, e0, hb7, s20t7, s20t8, s20t9, s20t27, s20f0, s20f1, s20f2, s20f26, hb24, s0, s66t7, s66t85, s66f2, s66f8, s66f83, s66f84, hb70, sg, sh, sQ, hb81]
                            refine aops_nil (hL80 _ ?_)
                            simp only [q0, kz, kv, ka, kf, km, y_and, rwR, enR, csR, tyf, Nat.reduceBEq, reduceIte, Nat.reduceEqDiff, Nat.reduceAdd, Nat.reduceLeDiff, reduceCtorEq, Nat.reduceMul, Int.reduceToNat, Int.one_mul, e0, hb7, s20t7, s20t8, s20t9, s20t27, s20f0, s20f1, s20f2, s20f26, hb24, s0, s66t7, s66t85, s66f2, s66f8, s66f83, s66f84, hb70, sg, sh, sQ, hb81]
                            try simp only [rk_state]
                            refine hK79 _ ?_
                            refine awp_cond (t := true) (by simp only [q0, kz, kv, ka, kf, km, y_and, rwR, enR, csR, tyf, Nat.reduceBEq, reduceIte, Nat.reduceEqDiff, Nat.reduceAdd, Nat.reduceLeDiff, reduceCtorEq, Nat.reduceMul, Int.reduceToNat, Int.one_mul, e0, hb7, s20t7, s20t8, s20t9, s20t27, s20f0, s20f1, s20f2, s20f26, hb24, s0, s66t7, s66t85, s66f2, s66f8, s66f83, s66f84, hb70, sg, sh, sQ, hb81]) (fun _ => ?_) (fun h => ?_)
                            case refine_2 => cases h
                            refine awp_seq_k fun K82 hK82 => ?_
                            refine awp_region_lit fun L83 hL83 => ?_
                            refine aops_orunN 1 _ _ ?_
                            simp only [q0, kz, kv, ka, kf, km, y_and, rwR, enR, csR, tyf, Nat.reduceBEq, reduceIte, Nat.reduceEqDiff, Nat.reduceAdd, Nat.reduceLeDiff, reduceCtorEq, Nat.reduceMul, Int.reduceToNat, Int.one_mul, e0, hb7, s20t7, s20t8, s20t9, s20t27, s20f0, s20f1, s20f2, s20f26, hb24, s0, s66t7, s66t85, s66f2, s66f8, s66f83, s66f84, hb70, sg, sh, sQ, hb81]
                            refine aops_nil (hL83 _ ?_)
                            simp only [q0, kz, kv, ka, kf, km, y_and, rwR, enR, csR, tyf, Nat.reduceBEq, reduceIte, Nat.reduceEqDiff, Nat.reduceAdd, Nat.reduceLeDiff, reduceCtorEq, Nat.reduceMul, Int.reduceToNat, Int.one_mul, e0, hb7, s20t7, s20t8, s20t9, s20t27, s20f0, s20f1, s20f2, s20f26, hb24, s0, s66t7, s66t85, s66f2, s66f8, s66f83, s66f84, hb70, sg, sh, sQ, hb81]
                            try simp only [rk_state]
                            refine hK82 _ ?_
                            as_aux_lemma =>
                              refine awp_ret ?_
                              try simp only [rk_state]
                              refine ⟨_, 0, by simp only [q0, kz, kv, ka, kf, km, y_and, rwR, enR, csR, tyf, Nat.reduceBEq, reduceIte, Nat.reduceEqDiff, Nat.reduceAdd, Nat.reduceLeDiff, reduceCtorEq, Nat.reduceMul, Int.reduceToNat, resA, Try.results7, Int.one_mul, e0, hb7, s20t7, s20t8, s20t9, s20t27, s20f0, s20f1, s20f2, s20f26, hb24, s0, s66t7, s66t85, s66f2, s66f8, s66f83, s66f84, hb70, sg, sh, sQ, hb81]; rfl, ?_, fun l hl => absurd rfl hl, fun l hl => absurd rfl hl⟩
                              simp only [packA]
                              (repeat' (first | exact .nil | exact wkR_c | exact wkR_own | exact wkR_nils | refine wkR_int ?_ | refine wkR_bool ?_ | refine wkR_sl ?_ | refine wkR_osl ?_ | refine wkR_nsl ?_ | refine wkR_oo ?_ | refine wkR_no ?_ | refine .cons ?_ ?_ | refine wkR_agg ?_ | refine wkR_tup ?_))
                        case b81 =>
                          have hp81 := hb81
                          try simp only [kb] at hp81
                          all_goals try exact absurd hb81 (by decide)
                          all_goals try (exfalso; omega)
                          all_goals
                            try simp only [hb81]
                            refine aops_orunN 3 _ _ ?_
                            simp only [q0, kz, kv, ka, kf, km, y_and, rwR, enR, csR, tyf, Nat.reduceBEq, reduceIte, Nat.reduceEqDiff, Nat.reduceAdd, Nat.reduceLeDiff, reduceCtorEq, Nat.reduceMul, Int.reduceToNat, Int.one_mul, e0, hb7, s20t7, s20t8, s20t9, s20t27, s20f0, s20f1, s20f2, s20f26, hb24, s0, s66t7, s66t85, s66f2, s66f8, s66f83, s66f84, hb70, sg, sh, sQ, hb81]
                            refine aops_val (v := ?v84) (by simp only [q0, kz, kv, ka, kf, km, y_and, rwR, enR, csR, tyf, Nat.reduceBEq, reduceIte, Nat.reduceEqDiff, Nat.reduceAdd, Nat.reduceLeDiff, reduceCtorEq, Nat.reduceMul, Int.reduceToNat, Int.one_mul, e0, hb7, s20t7, s20t8, s20t9, s20t27, s20f0, s20f1, s20f2, s20f26, hb24, s0, s66t7, s66t85, s66f2, s66f8, s66f83, s66f84, hb70, sg, sh, sQ, hb81]) ?h84 ?_
                            case h84 => simp only [q0, kz, kv, ka, kf, km, y_and, rwR, enR, csR, tyf, Nat.reduceBEq, reduceIte, Nat.reduceEqDiff, Nat.reduceAdd, Nat.reduceLeDiff, reduceCtorEq, Nat.reduceMul, Int.reduceToNat, Int.one_mul, e0, hb7, s20t7, s20t8, s20t9, s20t27, s20f0, s20f1, s20f2, s20f26, hb24, s0, s66t7, s66t85, s66f2, s66f8, s66f83, s66f84, hb70, sg, sh, sQ, hb81]; first | (rw [idx_c un43 if3] <;> omega) | (rw [idx_o un43 if3] <;> omega) | (rw [idx_a un43 if3] <;> omega)
                            simp only [q0, kz, kv, ka, kf, km, y_and, rwR, enR, csR, tyf, Nat.reduceBEq, reduceIte, Nat.reduceEqDiff, Nat.reduceAdd, Nat.reduceLeDiff, reduceCtorEq, Nat.reduceMul, Int.reduceToNat, Int.one_mul, e0, hb7, s20t7, s20t8, s20t9, s20t27, s20f0, s20f1, s20f2, s20f26, hb24, s0, s66t7, s66t85, s66f2, s66f8, s66f83, s66f84, hb70, sg, sh, sQ, hb81]
                            refine aops_orunN 3 _ _ ?_
                            simp only [q0, kz, kv, ka, kf, km, y_and, rwR, enR, csR, tyf, Nat.reduceBEq, reduceIte, Nat.reduceEqDiff, Nat.reduceAdd, Nat.reduceLeDiff, reduceCtorEq, Nat.reduceMul, Int.reduceToNat, Int.one_mul, e0, hb7, s20t7, s20t8, s20t9, s20t27, s20f0, s20f1, s20f2, s20f26, hb24, s0, s66t7, s66t85, s66f2, s66f8, s66f83, s66f84, hb70, sg, sh, sQ, hb81]
                            refine aops_nil (hL80 _ ?_)
                            simp only [q0, kz, kv, ka, kf, km, y_and, rwR, enR, csR, tyf, Nat.reduceBEq, reduceIte, Nat.reduceEqDiff, Nat.reduceAdd, Nat.reduceLeDiff, reduceCtorEq, Nat.reduceMul, Int.reduceToNat, Int.one_mul, e0, hb7, s20t7, s20t8, s20t9, s20t27, s20f0, s20f1, s20f2, s20f26, hb24, s0, s66t7, s66t85, s66f2, s66f8, s66f83, s66f84, hb70, sg, sh, sQ, hb81]
                            try simp only [rk_state]
                            refine hK79 _ ?_
                            refine awp_cond (t := ?t85) ?h85 (fun hb85 => ?a85) (fun hb85 => ?b85)
                            case h85 => simp only [q0, kz, kv, ka, kf, km, y_and, rwR, enR, csR, tyf, Nat.reduceBEq, reduceIte, Nat.reduceEqDiff, Nat.reduceAdd, Nat.reduceLeDiff, reduceCtorEq, Nat.reduceMul, Int.reduceToNat, Int.one_mul, e0, hb7, s20t7, s20t8, s20t9, s20t27, s20f0, s20f1, s20f2, s20f26, hb24, s0, s66t7, s66t85, s66f2, s66f8, s66f83, s66f84, hb70, sg, sh, sQ, hb81]; rfl
                            case a85 =>
                              have hp85 := hb85
                              try simp only [kb] at hp85
                              all_goals try exact absurd hb85 (by decide)
                              all_goals try (exfalso; omega)
                              all_goals
                                refine awp_seq_k fun K86 hK86 => ?_
                                refine awp_region_lit fun L87 hL87 => ?_
                                refine aops_orunN 1 _ _ ?_
                                simp only [q0, kz, kv, ka, kf, km, y_and, rwR, enR, csR, tyf, Nat.reduceBEq, reduceIte, Nat.reduceEqDiff, Nat.reduceAdd, Nat.reduceLeDiff, reduceCtorEq, Nat.reduceMul, Int.reduceToNat, Int.one_mul, e0, hb7, s20t7, s20t8, s20t9, s20t27, s20f0, s20f1, s20f2, s20f26, hb24, s0, s66t7, s66t85, s66f2, s66f8, s66f83, s66f84, hb70, sg, sh, sQ, hb81, hb85]
                                refine aops_nil (hL87 _ ?_)
                                simp only [q0, kz, kv, ka, kf, km, y_and, rwR, enR, csR, tyf, Nat.reduceBEq, reduceIte, Nat.reduceEqDiff, Nat.reduceAdd, Nat.reduceLeDiff, reduceCtorEq, Nat.reduceMul, Int.reduceToNat, Int.one_mul, e0, hb7, s20t7, s20t8, s20t9, s20t27, s20f0, s20f1, s20f2, s20f26, hb24, s0, s66t7, s66t85, s66f2, s66f8, s66f83, s66f84, hb70, sg, sh, sQ, hb81, hb85]
                                try simp only [rk_state]
                                refine hK86 _ ?_
                                refine awp_ret ?_
                                try simp only [rk_state]
                                refine ⟨_, 0, by simp only [q0, kz, kv, ka, kf, km, y_and, rwR, enR, csR, tyf, Nat.reduceBEq, reduceIte, Nat.reduceEqDiff, Nat.reduceAdd, Nat.reduceLeDiff, reduceCtorEq, Nat.reduceMul, Int.reduceToNat, resA, Try.results7, Int.one_mul, e0, hb7, s20t7, s20t8, s20t9, s20t27, s20f0, s20f1, s20f2, s20f26, hb24, s0, s66t7, s66t85, s66f2, s66f8, s66f83, s66f84, hb70, sg, sh, sQ, hb81, hb85]; rfl, ?_, fun l hl => absurd rfl hl, fun l hl => absurd rfl hl⟩
                                simp only [packA]
                                (repeat' (first | exact .nil | exact wkR_c | exact wkR_own | exact wkR_nils | refine wkR_int ?_ | refine wkR_bool ?_ | refine wkR_sl ?_ | refine wkR_osl ?_ | refine wkR_nsl ?_ | refine wkR_oo ?_ | refine wkR_no ?_ | refine .cons ?_ ?_ | refine wkR_agg ?_ | refine wkR_tup ?_))
                            case b85 =>
                              have hp85 := hb85
                              try simp only [kb] at hp85
                              all_goals try exact absurd hb85 (by decide)
                              all_goals try (exfalso; omega)
                              all_goals
                                refine awp_skip ?_
                                try simp only [rk_state]
                                refine hK78 _ ?_
                                refine awp_region_lit fun L88 hL88 => ?_
                                refine aops_orunN 2 _ _ ?_
                                simp only [q0, kz, kv, ka, kf, km, y_and, rwR, enR, csR, tyf, Nat.reduceBEq, reduceIte, Nat.reduceEqDiff, Nat.reduceAdd, Nat.reduceLeDiff, reduceCtorEq, Nat.reduceMul, Int.reduceToNat, Int.one_mul, e0, hb7, s20t7, s20t8, s20t9, s20t27, s20f0, s20f1, s20f2, s20f26, hb24, s0, s66t7, s66t85, s66f2, s66f8, s66f83, s66f84, hb70, sg, sh, sQ, hb81, hb85]
                                refine aops_nil (hL88 _ ?_)
                                simp only [q0, kz, kv, ka, kf, km, y_and, rwR, enR, csR, tyf, Nat.reduceBEq, reduceIte, Nat.reduceEqDiff, Nat.reduceAdd, Nat.reduceLeDiff, reduceCtorEq, Nat.reduceMul, Int.reduceToNat, Int.one_mul, e0, hb7, s20t7, s20t8, s20t9, s20t27, s20f0, s20f1, s20f2, s20f26, hb24, s0, s66t7, s66t85, s66f2, s66f8, s66f83, s66f84, hb70, sg, sh, sQ, hb81, hb85]
                                try simp only [rk_state]
                                try simp only [rk_state]
                                refine hK71 _ ?_
                                refine awp_region_lit fun L89 hL89 => ?_
                                refine aops_val (v := ?v90) rfl ?h90 ?_
                                case h90 => simp only [q0, kz, kv, ka, kf, km, y_and, rwR, enR, csR, tyf, Nat.reduceBEq, reduceIte, Nat.reduceEqDiff, Nat.reduceAdd, Nat.reduceLeDiff, reduceCtorEq, Nat.reduceMul, Int.reduceToNat, Int.one_mul, e0, hb7, s20t7, s20t8, s20t9, s20t27, s20f0, s20f1, s20f2, s20f26, hb24, s0, s66t7, s66t85, s66f2, s66f8, s66f83, s66f84, hb70, sg, sh, sQ, hb81, hb85]; first | (rw [wr_id] <;> omega) | rfl
                                simp only [q0, kz, kv, ka, kf, km, y_and, rwR, enR, csR, tyf, Nat.reduceBEq, reduceIte, Nat.reduceEqDiff, Nat.reduceAdd, Nat.reduceLeDiff, reduceCtorEq, Nat.reduceMul, Int.reduceToNat, Int.one_mul, e0, hb7, s20t7, s20t8, s20t9, s20t27, s20f0, s20f1, s20f2, s20f26, hb24, s0, s66t7, s66t85, s66f2, s66f8, s66f83, s66f84, hb70, sg, sh, sQ, hb81, hb85]
                                refine aops_orunN 1 _ _ ?_
                                simp only [q0, kz, kv, ka, kf, km, y_and, rwR, enR, csR, tyf, Nat.reduceBEq, reduceIte, Nat.reduceEqDiff, Nat.reduceAdd, Nat.reduceLeDiff, reduceCtorEq, Nat.reduceMul, Int.reduceToNat, Int.one_mul, e0, hb7, s20t7, s20t8, s20t9, s20t27, s20f0, s20f1, s20f2, s20f26, hb24, s0, s66t7, s66t85, s66f2, s66f8, s66f83, s66f84, hb70, sg, sh, sQ, hb81, hb85]
                                refine aops_nil (hL89 _ ?_)
                                simp only [q0, kz, kv, ka, kf, km, y_and, rwR, enR, csR, tyf, Nat.reduceBEq, reduceIte, Nat.reduceEqDiff, Nat.reduceAdd, Nat.reduceLeDiff, reduceCtorEq, Nat.reduceMul, Int.reduceToNat, Int.one_mul, e0, hb7, s20t7, s20t8, s20t9, s20t27, s20f0, s20f1, s20f2, s20f26, hb24, s0, s66t7, s66t85, s66f2, s66f8, s66f83, s66f84, hb70, sg, sh, sQ, hb81, hb85]
                                try simp only [rk_state]
                                refine hK66 _ ((fun (q : Nat) (d : Nat) => i - q) (q + 1) (93)) ?_ ⟨q + 1, 93, rfl, ?_, ?_, ?_⟩
                                · (try simp only []); omega
                                · first | omega | simp
                                · (try simp only [q0, kz, kv, ka, kf, km, y_and, rwR, enR, csR, tyf, Nat.reduceBEq, reduceIte, Nat.reduceEqDiff, Nat.reduceAdd, Nat.reduceLeDiff, reduceCtorEq, Nat.reduceMul, Int.reduceToNat, Int.one_mul, e0, hb7, s20t7, s20t8, s20t9, s20t27, s20f0, s20f1, s20f2, s20f26, hb24, s0, s66t7, s66t85, s66f2, s66f8, s66f83, s66f84, hb70, sg, sh, sQ, hb81, hb85])
                                  all_goals (first | done | rfl | (simp only [AV.c.injEq, C.int.injEq, List.cons.injEq, and_true, true_and]; omega))
                                · (try simp only [q0, kz, kv, ka, kf, km, y_and, rwR, enR, csR, tyf, Nat.reduceBEq, reduceIte, Nat.reduceEqDiff, Nat.reduceAdd, Nat.reduceLeDiff, reduceCtorEq, Nat.reduceMul, Int.reduceToNat, Int.one_mul, e0, hb7, s20t7, s20t8, s20t9, s20t27, s20f0, s20f1, s20f2, s20f26, hb24, s0, s66t7, s66t85, s66f2, s66f8, s66f83, s66f84, hb70, sg, sh, sQ, hb81, hb85])
                                  all_goals (first | done | rfl | (simp only [AV.c.injEq, C.int.injEq, List.cons.injEq, and_true, true_and]; omega))
                  case b70 =>
                    have hp70 := hb70
                    try simp only [kb] at hp70
                    all_goals try exact absurd hb70 (by decide)
                    all_goals try (exfalso; omega)
                    all_goals
                      refine awp_exit ?_
                      simp only [rk_state, reduceIte, Nat.reduceEqDiff]
                      try simp only [rk_state]
                      refine hK63 _ ?_
                      as_aux_lemma =>
                        refine awp_seq_k fun K91 hK91 => ?_
                        have ek : q = i := by omega
                        subst ek
                        have sz := restB_all ns ws q more
                        refine awp_region_lit fun L92 hL92 => ?_
                        refine aops_orunN 2 _ _ ?_
                        simp only [q0, kz, kv, ka, kf, km, y_and, rwR, enR, csR, tyf, Nat.reduceBEq, reduceIte, Nat.reduceEqDiff, Nat.reduceAdd, Nat.reduceLeDiff, reduceCtorEq, Nat.reduceMul, Int.reduceToNat, Int.one_mul, e0, hb7, s20t7, s20t8, s20t9, s20t27, s20f0, s20f1, s20f2, s20f26, hb24, s0, s66t7, s66t85, s66f2, s66f8, s66f83, s66f84, hb70, sz]
                        refine aops_call (equal_bool_fun _ _ ?s93_0) rfl rfl rfl rfl (by (try simp only [q0, kz, kv, ka, kf, km, y_and, rwR, enR, csR, tyf, Nat.reduceBEq, reduceIte, Nat.reduceEqDiff, Nat.reduceAdd, Nat.reduceLeDiff, reduceCtorEq, Nat.reduceMul, Int.reduceToNat, Int.one_mul, e0, hb7, s20t7, s20t8, s20t9, s20t27, s20f0, s20f1, s20f2, s20f26, hb24, s0, s66t7, s66t85, s66f2, s66f8, s66f83, s66f84, hb70, sz]); (repeat' (first | exact .nil | exact wk_c | exact wk_ownc | exact wk_nilsc | exact wk_nils | exact wk_fn | refine .cons ?_ ?_ | refine wk_agg ?_ | refine wk_fnL ?_))) rfl rfl ?m93
                        case s93_0 => first | assumption | omega | decide +kernel | (simp only [List.length_take, List.length_drop]; omega)
                        simp only [q0, kz, kv, ka, kf, km, y_and, rwR, enR, csR, tyf, Nat.reduceBEq, reduceIte, Nat.reduceEqDiff, Nat.reduceAdd, Nat.reduceLeDiff, reduceCtorEq, Nat.reduceMul, Int.reduceToNat, Int.one_mul, e0, hb7, s20t7, s20t8, s20t9, s20t27, s20f0, s20f1, s20f2, s20f26, hb24, s0, s66t7, s66t85, s66f2, s66f8, s66f83, s66f84, hb70, sz]
                        refine aops_orunN 1 _ _ ?_
                        simp only [q0, kz, kv, ka, kf, km, y_and, rwR, enR, csR, tyf, Nat.reduceBEq, reduceIte, Nat.reduceEqDiff, Nat.reduceAdd, Nat.reduceLeDiff, reduceCtorEq, Nat.reduceMul, Int.reduceToNat, Int.one_mul, e0, hb7, s20t7, s20t8, s20t9, s20t27, s20f0, s20f1, s20f2, s20f26, hb24, s0, s66t7, s66t85, s66f2, s66f8, s66f83, s66f84, hb70, sz]
                        refine aops_nil (hL92 _ ?_)
                        simp only [q0, kz, kv, ka, kf, km, y_and, rwR, enR, csR, tyf, Nat.reduceBEq, reduceIte, Nat.reduceEqDiff, Nat.reduceAdd, Nat.reduceLeDiff, reduceCtorEq, Nat.reduceMul, Int.reduceToNat, Int.one_mul, e0, hb7, s20t7, s20t8, s20t9, s20t27, s20f0, s20f1, s20f2, s20f26, hb24, s0, s66t7, s66t85, s66f2, s66f8, s66f83, s66f84, hb70, sz]
                        try simp only [rk_state]
                        refine hK91 _ ?_
                        refine awp_ret ?_
                        try simp only [rk_state]
                        refine ⟨_, 0, by simp only [q0, kz, kv, ka, kf, km, y_and, rwR, enR, csR, tyf, Nat.reduceBEq, reduceIte, Nat.reduceEqDiff, Nat.reduceAdd, Nat.reduceLeDiff, reduceCtorEq, Nat.reduceMul, Int.reduceToNat, resA, Try.results7, Int.one_mul, e0, hb7, s20t7, s20t8, s20t9, s20t27, s20f0, s20f1, s20f2, s20f26, hb24, s0, s66t7, s66t85, s66f2, s66f8, s66f83, s66f84, hb70, sz]; rfl, ?_, fun l hl => absurd rfl hl, fun l hl => absurd rfl hl⟩
                        simp only [packA]
                        (repeat' (first | exact .nil | exact wkR_c | exact wkR_own | exact wkR_nils | refine wkR_int ?_ | refine wkR_bool ?_ | refine wkR_sl ?_ | refine wkR_osl ?_ | refine wkR_nsl ?_ | refine wkR_oo ?_ | refine wkR_no ?_ | refine .cons ?_ ?_ | refine wkR_agg ?_ | refine wkR_tup ?_))
end Go.Proofs.Y
