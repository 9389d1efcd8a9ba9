/-
  What is proved: what functions of the sum chapter compute. Conditions: none.
-/
import Derived.Test.YtoihccclnkhmaaaTy
import Derived.Test.YtoihccclnkhmaaaP4
set_option linter.unusedVariables false
set_option linter.unusedSimpArgs false
set_option maxRecDepth 4000
namespace Go.Proofs.Y
open Go.Rb
set_option maxHeartbeats 4000000 in
set_option maxRecDepth 50000 in
theorem join_fun (a b c d a2 b2 c2 d2 : Int) : Fun Try.prog 28 [.agg [.c (.int .i64 a), .c (.int .i64 b), .c (.int .i64 c), .c (.int .i64 d)], .agg [.c (.int .i64 a2), .c (.int .i64 b2), .c (.int .i64 c2), .c (.int .i64 d2)]] nomem ((join ⟨a, b, c, d⟩ ⟨a2, b2, c2, d2⟩).av) nomem := by
  refine fun_of_awp Try.func28 rfl (by decide +kernel) (by decide +kernel) (Nat.le_of_ble_eq_true rfl) (fun _ _ => rfl) (fun _ _ => rfl) ?_
  refine awp_seq_k fun K1 hK1 => ?_
  refine awp_region_lit fun L2 hL2 => ?_
  refine aops_orunN 3 _ _ ?_
  simp only [q0, kz, kv, ka, kf, km, y_and, rwR, enR, csR, tyf, Nat.reduceBEq, reduceIte, Nat.reduceEqDiff, Nat.reduceAdd, Nat.reduceLeDiff, reduceCtorEq, Nat.reduceMul, Int.reduceToNat]
  refine aops_nil (hL2 _ ?_)
  simp only [q0, kz, kv, ka, kf, km, y_and, rwR, enR, csR, tyf, Nat.reduceBEq, reduceIte, Nat.reduceEqDiff, Nat.reduceAdd, Nat.reduceLeDiff, reduceCtorEq, Nat.reduceMul, Int.reduceToNat]
  try simp only [rk_state]
  refine hK1 _ ?_
  refine awp_seq_k fun K3 hK3 => ?_
  refine awp_block ?_
  refine awp_seq_k fun K4 hK4 => ?_
  refine awp_region_lit fun L5 hL5 => ?_
  refine aops_orunN 4 _ _ ?_
  simp only [q0, kz, kv, ka, kf, km, y_and, rwR, enR, csR, tyf, Nat.reduceBEq, reduceIte, Nat.reduceEqDiff, Nat.reduceAdd, Nat.reduceLeDiff, reduceCtorEq, Nat.reduceMul, Int.reduceToNat]
  refine aops_nil (hL5 _ ?_)
  simp only [q0, kz, kv, ka, kf, km, y_and, rwR, enR, csR, tyf, Nat.reduceBEq, reduceIte, Nat.reduceEqDiff, Nat.reduceAdd, Nat.reduceLeDiff, reduceCtorEq, Nat.reduceMul, Int.reduceToNat]
  try simp only [rk_state]
  refine hK4 _ ?_
  refine awp_cond (t := ?t6) ?h6 (fun hb6 => ?a6) (fun hb6 => ?b6)
  case h6 => simp only [q0, kz, kv, ka, kf, km, y_and, rwR, enR, csR, tyf, Nat.reduceBEq, reduceIte, Nat.reduceEqDiff, Nat.reduceAdd, Nat.reduceLeDiff, reduceCtorEq, Nat.reduceMul, Int.reduceToNat]; rfl
  case a6 =>
    have hp6 := hb6
    try simp only [kb] at hp6
    all_goals try exact absurd hb6 (by decide)
    all_goals try (exfalso; omega)
    all_goals
      refine awp_seq_k fun K7 hK7 => ?_
      refine awp_region_lit fun L8 hL8 => ?_
      refine aops_orunN 2 _ _ ?_
      simp only [q0, kz, kv, ka, kf, km, y_and, rwR, enR, csR, tyf, Nat.reduceBEq, reduceIte, Nat.reduceEqDiff, Nat.reduceAdd, Nat.reduceLeDiff, reduceCtorEq, Nat.reduceMul, Int.reduceToNat, hb6]
      refine aops_nil (hL8 _ ?_)
      simp only [q0, kz, kv, ka, kf, km, y_and, rwR, enR, csR, tyf, Nat.reduceBEq, reduceIte, Nat.reduceEqDiff, Nat.reduceAdd, Nat.reduceLeDiff, reduceCtorEq, Nat.reduceMul, Int.reduceToNat, hb6]
      try simp only [rk_state]
      refine hK7 _ ?_
      as_aux_lemma =>
        refine awp_ret ?_
        try simp only [rk_state]
        refine ⟨_, 0, by simp only [q0, kz, kv, ka, kf, km, y_and, rwR, enR, csR, tyf, Nat.reduceBEq, reduceIte, Nat.reduceEqDiff, Nat.reduceAdd, Nat.reduceLeDiff, reduceCtorEq, Nat.reduceMul, Int.reduceToNat, resA, Try.results28, hb6]; rfl, ?_, fun l hl => absurd rfl hl, fun l hl => absurd rfl hl⟩
        simp only [packA]
        simp only [avR]; (repeat' (first | exact .nil | exact wkR_c | exact wkR_own | exact wkR_nils | refine wkR_int ?_ | refine wkR_bool ?_ | refine wkR_sl ?_ | refine wkR_osl ?_ | refine wkR_nsl ?_ | refine wkR_oo ?_ | refine wkR_no ?_ | refine .cons ?_ ?_ | refine wkR_agg ?_ | refine wkR_tup ?_)) <;> simp_all [join, w64]
  case b6 =>
    have hp6 := hb6
    try simp only [kb] at hp6
    all_goals try exact absurd hb6 (by decide)
    all_goals try (exfalso; omega)
    all_goals
      refine awp_seq_k fun K9 hK9 => ?_
      refine awp_region_lit fun L10 hL10 => ?_
      refine aops_orunN 4 _ _ ?_
      simp only [q0, kz, kv, ka, kf, km, y_and, rwR, enR, csR, tyf, Nat.reduceBEq, reduceIte, Nat.reduceEqDiff, Nat.reduceAdd, Nat.reduceLeDiff, reduceCtorEq, Nat.reduceMul, Int.reduceToNat, hb6]
      refine aops_nil (hL10 _ ?_)
      simp only [q0, kz, kv, ka, kf, km, y_and, rwR, enR, csR, tyf, Nat.reduceBEq, reduceIte, Nat.reduceEqDiff, Nat.reduceAdd, Nat.reduceLeDiff, reduceCtorEq, Nat.reduceMul, Int.reduceToNat, hb6]
      try simp only [rk_state]
      refine hK9 _ ?_
      refine awp_cond (t := ?t11) ?h11 (fun hb11 => ?a11) (fun hb11 => ?b11)
      case h11 => simp only [q0, kz, kv, ka, kf, km, y_and, rwR, enR, csR, tyf, Nat.reduceBEq, reduceIte, Nat.reduceEqDiff, Nat.reduceAdd, Nat.reduceLeDiff, reduceCtorEq, Nat.reduceMul, Int.reduceToNat, hb6]; rfl
      case a11 =>
        have hp11 := hb11
        try simp only [kb] at hp11
        all_goals try exact absurd hb11 (by decide)
        all_goals try (exfalso; omega)
        all_goals
          refine awp_seq_k fun K12 hK12 => ?_
          refine awp_region_lit fun L13 hL13 => ?_
          refine aops_orunN 2 _ _ ?_
          simp only [q0, kz, kv, ka, kf, km, y_and, rwR, enR, csR, tyf, Nat.reduceBEq, reduceIte, Nat.reduceEqDiff, Nat.reduceAdd, Nat.reduceLeDiff, reduceCtorEq, Nat.reduceMul, Int.reduceToNat, hb6, hb11]
          refine aops_nil (hL13 _ ?_)
          simp only [q0, kz, kv, ka, kf, km, y_and, rwR, enR, csR, tyf, Nat.reduceBEq, reduceIte, Nat.reduceEqDiff, Nat.reduceAdd, Nat.reduceLeDiff, reduceCtorEq, Nat.reduceMul, Int.reduceToNat, hb6, hb11]
          try simp only [rk_state]
          refine hK12 _ ?_
          refine awp_ret ?_
          try simp only [rk_state]
          refine ⟨_, 0, by simp only [q0, kz, kv, ka, kf, km, y_and, rwR, enR, csR, tyf, Nat.reduceBEq, reduceIte, Nat.reduceEqDiff, Nat.reduceAdd, Nat.reduceLeDiff, reduceCtorEq, Nat.reduceMul, Int.reduceToNat, resA, Try.results28, hb6, hb11]; rfl, ?_, fun l hl => absurd rfl hl, fun l hl => absurd rfl hl⟩
          simp only [packA]
          simp only [avR]; (repeat' (first | exact .nil | exact wkR_c | exact wkR_own | exact wkR_nils | refine wkR_int ?_ | refine wkR_bool ?_ | refine wkR_sl ?_ | refine wkR_osl ?_ | refine wkR_nsl ?_ | refine wkR_oo ?_ | refine wkR_no ?_ | refine .cons ?_ ?_ | refine wkR_agg ?_ | refine wkR_tup ?_)) <;> simp_all [join, w64]
      case b11 =>
        have hp11 := hb11
        try simp only [kb] at hp11
        all_goals try exact absurd hb11 (by decide)
        all_goals try (exfalso; omega)
        all_goals
          refine awp_skip ?_
          try simp only [rk_state]
          try simp only [rk_state]
          refine hK3 _ ?_
          refine awp_seq_k fun K14 hK14 => ?_
          refine awp_region_lit fun L15 hL15 => ?_
          refine aops_orunN 4 _ _ ?_
          simp only [q0, kz, kv, ka, kf, km, y_and, rwR, enR, csR, tyf, Nat.reduceBEq, reduceIte, Nat.reduceEqDiff, Nat.reduceAdd, Nat.reduceLeDiff, reduceCtorEq, Nat.reduceMul, Int.reduceToNat, hb6, hb11]
          refine aops_val (v := ?v16) rfl ?h16 ?_
          case h16 => simp only [q0, kz, kv, ka, kf, km, y_and, rwR, enR, csR, tyf, Nat.reduceBEq, reduceIte, Nat.reduceEqDiff, Nat.reduceAdd, Nat.reduceLeDiff, reduceCtorEq, Nat.reduceMul, Int.reduceToNat, hb6, hb11]; first | (rw [wr_id] <;> omega) | rfl
          simp only [q0, kz, kv, ka, kf, km, y_and, rwR, enR, csR, tyf, Nat.reduceBEq, reduceIte, Nat.reduceEqDiff, Nat.reduceAdd, Nat.reduceLeDiff, reduceCtorEq, Nat.reduceMul, Int.reduceToNat, hb6, hb11]
          refine aops_orunN 14 _ _ ?_
          simp only [q0, kz, kv, ka, kf, km, y_and, rwR, enR, csR, tyf, Nat.reduceBEq, reduceIte, Nat.reduceEqDiff, Nat.reduceAdd, Nat.reduceLeDiff, reduceCtorEq, Nat.reduceMul, Int.reduceToNat, hb6, hb11]
          refine aops_val (v := ?v17) rfl ?h17 ?_
          case h17 => simp only [q0, kz, kv, ka, kf, km, y_and, rwR, enR, csR, tyf, Nat.reduceBEq, reduceIte, Nat.reduceEqDiff, Nat.reduceAdd, Nat.reduceLeDiff, reduceCtorEq, Nat.reduceMul, Int.reduceToNat, hb6, hb11]; first | (rw [wr_id] <;> omega) | rfl
          simp only [q0, kz, kv, ka, kf, km, y_and, rwR, enR, csR, tyf, Nat.reduceBEq, reduceIte, Nat.reduceEqDiff, Nat.reduceAdd, Nat.reduceLeDiff, reduceCtorEq, Nat.reduceMul, Int.reduceToNat, hb6, hb11]
          refine aops_orunN 2 _ _ ?_
          simp only [q0, kz, kv, ka, kf, km, y_and, rwR, enR, csR, tyf, Nat.reduceBEq, reduceIte, Nat.reduceEqDiff, Nat.reduceAdd, Nat.reduceLeDiff, reduceCtorEq, Nat.reduceMul, Int.reduceToNat, hb6, hb11]
          refine aops_nil (hL15 _ ?_)
          simp only [q0, kz, kv, ka, kf, km, y_and, rwR, enR, csR, tyf, Nat.reduceBEq, reduceIte, Nat.reduceEqDiff, Nat.reduceAdd, Nat.reduceLeDiff, reduceCtorEq, Nat.reduceMul, Int.reduceToNat, hb6, hb11]
          try simp only [rk_state]
          refine hK14 _ ?_
          as_aux_lemma =>
            refine awp_ret ?_
            try simp only [rk_state]
            refine ⟨_, 0, by simp only [q0, kz, kv, ka, kf, km, y_and, rwR, enR, csR, tyf, Nat.reduceBEq, reduceIte, Nat.reduceEqDiff, Nat.reduceAdd, Nat.reduceLeDiff, reduceCtorEq, Nat.reduceMul, Int.reduceToNat, resA, Try.results28, hb6, hb11]; rfl, ?_, fun l hl => absurd rfl hl, fun l hl => absurd rfl hl⟩
            simp only [packA]
            simp only [avR]; (repeat' (first | exact .nil | exact wkR_c | exact wkR_own | exact wkR_nils | refine wkR_int ?_ | refine wkR_bool ?_ | refine wkR_sl ?_ | refine wkR_osl ?_ | refine wkR_nsl ?_ | refine wkR_oo ?_ | refine wkR_no ?_ | refine .cons ?_ ?_ | refine wkR_agg ?_ | refine wkR_tup ?_)) <;> simp_all [join, w64]
set_option maxHeartbeats 4000000 in
set_option maxRecDepth 50000 in
theorem joined_fun (a b c d a2 b2 c2 d2 : Int) : Fun Try.prog 29 [.agg [.c (.int .i64 a), .c (.int .i64 b), .c (.int .i64 c), .c (.int .i64 d)], .agg [.c (.int .i64 a2), .c (.int .i64 b2), .c (.int .i64 c2), .c (.int .i64 d2)]] nomem ((join ⟨a, b, c, d⟩ ⟨a2, b2, c2, d2⟩).av) nomem := by
  refine fun_of_awp Try.func29 rfl (by decide +kernel) (by decide +kernel) (Nat.le_of_ble_eq_true rfl) (fun _ _ => rfl) (fun _ _ => rfl) ?_
  refine awp_seq_k fun K1 hK1 => ?_
  refine awp_region_lit fun L2 hL2 => ?_
  refine aops_orunN 3 _ _ ?_
  simp only [q0, kz, kv, ka, kf, km, y_and, rwR, enR, csR, tyf, Nat.reduceBEq, reduceIte, Nat.reduceEqDiff, Nat.reduceAdd, Nat.reduceLeDiff, reduceCtorEq, Nat.reduceMul, Int.reduceToNat]
  refine aops_nil (hL2 _ ?_)
  simp only [q0, kz, kv, ka, kf, km, y_and, rwR, enR, csR, tyf, Nat.reduceBEq, reduceIte, Nat.reduceEqDiff, Nat.reduceAdd, Nat.reduceLeDiff, reduceCtorEq, Nat.reduceMul, Int.reduceToNat]
  try simp only [rk_state]
  refine hK1 _ ?_
  refine awp_seq_k fun K3 hK3 => ?_
  refine awp_seq_k fun K4 hK4 => ?_
  refine awp_region_lit fun L5 hL5 => ?_
  refine aops_orunN 3 _ _ ?_
  simp only [q0, kz, kv, ka, kf, km, y_and, rwR, enR, csR, tyf, Nat.reduceBEq, reduceIte, Nat.reduceEqDiff, Nat.reduceAdd, Nat.reduceLeDiff, reduceCtorEq, Nat.reduceMul, Int.reduceToNat]
  refine aops_nil (hL5 _ ?_)
  simp only [q0, kz, kv, ka, kf, km, y_and, rwR, enR, csR, tyf, Nat.reduceBEq, reduceIte, Nat.reduceEqDiff, Nat.reduceAdd, Nat.reduceLeDiff, reduceCtorEq, Nat.reduceMul, Int.reduceToNat]
  try simp only [rk_state]
  refine hK4 _ ?_
  refine awp_cond (t := ?t6) ?h6 (fun hb6 => ?a6) (fun hb6 => ?b6)
  case h6 => simp only [q0, kz, kv, ka, kf, km, y_and, rwR, enR, csR, tyf, Nat.reduceBEq, reduceIte, Nat.reduceEqDiff, Nat.reduceAdd, Nat.reduceLeDiff, reduceCtorEq, Nat.reduceMul, Int.reduceToNat]; rfl
  case a6 =>
    have hp6 := hb6
    try simp only [kb] at hp6
    all_goals try exact absurd hb6 (by decide)
    all_goals try (exfalso; omega)
    all_goals
      refine awp_seq_k fun K7 hK7 => ?_
      refine awp_region_lit fun L8 hL8 => ?_
      refine aops_orunN 2 _ _ ?_
      simp only [q0, kz, kv, ka, kf, km, y_and, rwR, enR, csR, tyf, Nat.reduceBEq, reduceIte, Nat.reduceEqDiff, Nat.reduceAdd, Nat.reduceLeDiff, reduceCtorEq, Nat.reduceMul, Int.reduceToNat, hb6]
      refine aops_nil (hL8 _ ?_)
      simp only [q0, kz, kv, ka, kf, km, y_and, rwR, enR, csR, tyf, Nat.reduceBEq, reduceIte, Nat.reduceEqDiff, Nat.reduceAdd, Nat.reduceLeDiff, reduceCtorEq, Nat.reduceMul, Int.reduceToNat, hb6]
      try simp only [rk_state]
      refine hK7 _ ?_
      as_aux_lemma =>
        refine awp_ret ?_
        try simp only [rk_state]
        refine ⟨_, 0, by simp only [q0, kz, kv, ka, kf, km, y_and, rwR, enR, csR, tyf, Nat.reduceBEq, reduceIte, Nat.reduceEqDiff, Nat.reduceAdd, Nat.reduceLeDiff, reduceCtorEq, Nat.reduceMul, Int.reduceToNat, resA, Try.results29, hb6]; rfl, ?_, fun l hl => absurd rfl hl, fun l hl => absurd rfl hl⟩
        simp only [packA]
        rw [← join_eq]; simp only [avR]; (repeat' (first | exact .nil | exact wkR_c | exact wkR_own | exact wkR_nils | refine wkR_int ?_ | refine wkR_bool ?_ | refine wkR_sl ?_ | refine wkR_osl ?_ | refine wkR_nsl ?_ | refine wkR_oo ?_ | refine wkR_no ?_ | refine .cons ?_ ?_ | refine wkR_agg ?_ | refine wkR_tup ?_)) <;> simp_all [joined, w64]
  case b6 =>
    have hp6 := hb6
    try simp only [kb] at hp6
    all_goals try exact absurd hb6 (by decide)
    all_goals try (exfalso; omega)
    all_goals
      refine awp_skip ?_
      try simp only [rk_state]
      refine hK3 _ ?_
      refine awp_seq_k fun K9 hK9 => ?_
      refine awp_seq_k fun K10 hK10 => ?_
      refine awp_region_lit fun L11 hL11 => ?_
      refine aops_orunN 3 _ _ ?_
      simp only [q0, kz, kv, ka, kf, km, y_and, rwR, enR, csR, tyf, Nat.reduceBEq, reduceIte, Nat.reduceEqDiff, Nat.reduceAdd, Nat.reduceLeDiff, reduceCtorEq, Nat.reduceMul, Int.reduceToNat, hb6]
      refine aops_nil (hL11 _ ?_)
      simp only [q0, kz, kv, ka, kf, km, y_and, rwR, enR, csR, tyf, Nat.reduceBEq, reduceIte, Nat.reduceEqDiff, Nat.reduceAdd, Nat.reduceLeDiff, reduceCtorEq, Nat.reduceMul, Int.reduceToNat, hb6]
      try simp only [rk_state]
      refine hK10 _ ?_
      refine awp_cond (t := ?t12) ?h12 (fun hb12 => ?a12) (fun hb12 => ?b12)
      case h12 => simp only [q0, kz, kv, ka, kf, km, y_and, rwR, enR, csR, tyf, Nat.reduceBEq, reduceIte, Nat.reduceEqDiff, Nat.reduceAdd, Nat.reduceLeDiff, reduceCtorEq, Nat.reduceMul, Int.reduceToNat, hb6]; rfl
      case a12 =>
        have hp12 := hb12
        try simp only [kb] at hp12
        all_goals try exact absurd hb12 (by decide)
        all_goals try (exfalso; omega)
        all_goals
          refine awp_region_lit fun L13 hL13 => ?_
          refine aops_orunN 4 _ _ ?_
          simp only [q0, kz, kv, ka, kf, km, y_and, rwR, enR, csR, tyf, Nat.reduceBEq, reduceIte, Nat.reduceEqDiff, Nat.reduceAdd, Nat.reduceLeDiff, reduceCtorEq, Nat.reduceMul, Int.reduceToNat, hb6, hb12]
          refine aops_val (v := ?v14) rfl ?h14 ?_
          case h14 => simp only [q0, kz, kv, ka, kf, km, y_and, rwR, enR, csR, tyf, Nat.reduceBEq, reduceIte, Nat.reduceEqDiff, Nat.reduceAdd, Nat.reduceLeDiff, reduceCtorEq, Nat.reduceMul, Int.reduceToNat, hb6, hb12]; first | (rw [wr_id] <;> omega) | rfl
          simp only [q0, kz, kv, ka, kf, km, y_and, rwR, enR, csR, tyf, Nat.reduceBEq, reduceIte, Nat.reduceEqDiff, Nat.reduceAdd, Nat.reduceLeDiff, reduceCtorEq, Nat.reduceMul, Int.reduceToNat, hb6, hb12]
          refine aops_orunN 14 _ _ ?_
          simp only [q0, kz, kv, ka, kf, km, y_and, rwR, enR, csR, tyf, Nat.reduceBEq, reduceIte, Nat.reduceEqDiff, Nat.reduceAdd, Nat.reduceLeDiff, reduceCtorEq, Nat.reduceMul, Int.reduceToNat, hb6, hb12]
          refine aops_val (v := ?v15) rfl ?h15 ?_
          case h15 => simp only [q0, kz, kv, ka, kf, km, y_and, rwR, enR, csR, tyf, Nat.reduceBEq, reduceIte, Nat.reduceEqDiff, Nat.reduceAdd, Nat.reduceLeDiff, reduceCtorEq, Nat.reduceMul, Int.reduceToNat, hb6, hb12]; first | (rw [wr_id] <;> omega) | rfl
          simp only [q0, kz, kv, ka, kf, km, y_and, rwR, enR, csR, tyf, Nat.reduceBEq, reduceIte, Nat.reduceEqDiff, Nat.reduceAdd, Nat.reduceLeDiff, reduceCtorEq, Nat.reduceMul, Int.reduceToNat, hb6, hb12]
          refine aops_orunN 2 _ _ ?_
          simp only [q0, kz, kv, ka, kf, km, y_and, rwR, enR, csR, tyf, Nat.reduceBEq, reduceIte, Nat.reduceEqDiff, Nat.reduceAdd, Nat.reduceLeDiff, reduceCtorEq, Nat.reduceMul, Int.reduceToNat, hb6, hb12]
          refine aops_nil (hL13 _ ?_)
          simp only [q0, kz, kv, ka, kf, km, y_and, rwR, enR, csR, tyf, Nat.reduceBEq, reduceIte, Nat.reduceEqDiff, Nat.reduceAdd, Nat.reduceLeDiff, reduceCtorEq, Nat.reduceMul, Int.reduceToNat, hb6, hb12]
          try simp only [rk_state]
          refine hK9 _ ?_
          refine awp_seq_k fun K16 hK16 => ?_
          refine awp_region_lit fun L17 hL17 => ?_
          refine aops_orunN 2 _ _ ?_
          simp only [q0, kz, kv, ka, kf, km, y_and, rwR, enR, csR, tyf, Nat.reduceBEq, reduceIte, Nat.reduceEqDiff, Nat.reduceAdd, Nat.reduceLeDiff, reduceCtorEq, Nat.reduceMul, Int.reduceToNat, hb6, hb12]
          refine aops_nil (hL17 _ ?_)
          simp only [q0, kz, kv, ka, kf, km, y_and, rwR, enR, csR, tyf, Nat.reduceBEq, reduceIte, Nat.reduceEqDiff, Nat.reduceAdd, Nat.reduceLeDiff, reduceCtorEq, Nat.reduceMul, Int.reduceToNat, hb6, hb12]
          try simp only [rk_state]
          refine hK16 _ ?_
          as_aux_lemma =>
            refine awp_ret ?_
            try simp only [rk_state]
            refine ⟨_, 0, by simp only [q0, kz, kv, ka, kf, km, y_and, rwR, enR, csR, tyf, Nat.reduceBEq, reduceIte, Nat.reduceEqDiff, Nat.reduceAdd, Nat.reduceLeDiff, reduceCtorEq, Nat.reduceMul, Int.reduceToNat, resA, Try.results29, hb6, hb12]; rfl, ?_, fun l hl => absurd rfl hl, fun l hl => absurd rfl hl⟩
            simp only [packA]
            rw [← join_eq]; simp only [avR]; (repeat' (first | exact .nil | exact wkR_c | exact wkR_own | exact wkR_nils | refine wkR_int ?_ | refine wkR_bool ?_ | refine wkR_sl ?_ | refine wkR_osl ?_ | refine wkR_nsl ?_ | refine wkR_oo ?_ | refine wkR_no ?_ | refine .cons ?_ ?_ | refine wkR_agg ?_ | refine wkR_tup ?_)) <;> simp_all [joined, w64]
      case b12 =>
        have hp12 := hb12
        try simp only [kb] at hp12
        all_goals try exact absurd hb12 (by decide)
        all_goals try (exfalso; omega)
        all_goals
          refine awp_skip ?_
          try simp only [rk_state]
          refine hK9 _ ?_
          refine awp_seq_k fun K18 hK18 => ?_
          refine awp_region_lit fun L19 hL19 => ?_
          refine aops_orunN 2 _ _ ?_
          simp only [q0, kz, kv, ka, kf, km, y_and, rwR, enR, csR, tyf, Nat.reduceBEq, reduceIte, Nat.reduceEqDiff, Nat.reduceAdd, Nat.reduceLeDiff, reduceCtorEq, Nat.reduceMul, Int.reduceToNat, hb6, hb12]
          refine aops_nil (hL19 _ ?_)
          simp only [q0, kz, kv, ka, kf, km, y_and, rwR, enR, csR, tyf, Nat.reduceBEq, reduceIte, Nat.reduceEqDiff, Nat.reduceAdd, Nat.reduceLeDiff, reduceCtorEq, Nat.reduceMul, Int.reduceToNat, hb6, hb12]
          try simp only [rk_state]
          refine hK18 _ ?_
          refine awp_ret ?_
          try simp only [rk_state]
          refine ⟨_, 0, by simp only [q0, kz, kv, ka, kf, km, y_and, rwR, enR, csR, tyf, Nat.reduceBEq, reduceIte, Nat.reduceEqDiff, Nat.reduceAdd, Nat.reduceLeDiff, reduceCtorEq, Nat.reduceMul, Int.reduceToNat, resA, Try.results29, hb6, hb12]; rfl, ?_, fun l hl => absurd rfl hl, fun l hl => absurd rfl hl⟩
          simp only [packA]
          rw [← join_eq]; simp only [avR]; (repeat' (first | exact .nil | exact wkR_c | exact wkR_own | exact wkR_nils | refine wkR_int ?_ | refine wkR_bool ?_ | refine wkR_sl ?_ | refine wkR_osl ?_ | refine wkR_nsl ?_ | refine wkR_oo ?_ | refine wkR_no ?_ | refine .cons ?_ ?_ | refine wkR_agg ?_ | refine wkR_tup ?_)) <;> simp_all [joined, w64]
set_option maxHeartbeats 4000000 in
set_option maxRecDepth 50000 in
theorem of_fun (ps : List Pt) (hn : ps.length < 4611686018427387904) : Fun Try.prog 26 [.c (.sl 34 (Rw Pt.cs ps))] nomem ((sumOf ps).av) nomem := by
  refine fun_of_awp Try.func26 rfl (by decide +kernel) (by decide +kernel) (Nat.le_of_ble_eq_true rfl) (fun _ _ => rfl) (fun _ _ => rfl) ?_
  refine awp_seq_k fun K1 hK1 => ?_
  refine awp_region_lit fun L2 hL2 => ?_
  refine aops_orunN 1 _ _ ?_
  simp only [q0, kz, kv, ka, kf, km, y_and, rwR, enR, csR, tyf, Nat.reduceBEq, reduceIte, Nat.reduceEqDiff, Nat.reduceAdd, Nat.reduceLeDiff, reduceCtorEq, Nat.reduceMul, Int.reduceToNat]
  refine aops_nil (hL2 _ ?_)
  simp only [q0, kz, kv, ka, kf, km, y_and, rwR, enR, csR, tyf, Nat.reduceBEq, reduceIte, Nat.reduceEqDiff, Nat.reduceAdd, Nat.reduceLeDiff, reduceCtorEq, Nat.reduceMul, Int.reduceToNat]
  try simp only [rk_state]
  refine hK1 _ ?_
  refine awp_seq_k fun K3 hK3 => ?_
  refine awp_region_lit fun L4 hL4 => ?_
  refine aops_orunN 1 _ _ ?_
  simp only [q0, kz, kv, ka, kf, km, y_and, rwR, enR, csR, tyf, Nat.reduceBEq, reduceIte, Nat.reduceEqDiff, Nat.reduceAdd, Nat.reduceLeDiff, reduceCtorEq, Nat.reduceMul, Int.reduceToNat]
  refine aops_nil (hL4 _ ?_)
  simp only [q0, kz, kv, ka, kf, km, y_and, rwR, enR, csR, tyf, Nat.reduceBEq, reduceIte, Nat.reduceEqDiff, Nat.reduceAdd, Nat.reduceLeDiff, reduceCtorEq, Nat.reduceMul, Int.reduceToNat]
  try simp only [rk_state]
  refine hK3 _ ?_
  refine awp_seq_k fun K5 hK5 => ?_
  refine awp_seq_k fun K6 hK6 => ?_
  refine awp_region_lit fun L7 hL7 => ?_
  refine aops_orunN 3 _ _ ?_
  simp only [q0, kz, kv, ka, kf, km, y_and, rwR, enR, csR, tyf, Nat.reduceBEq, reduceIte, Nat.reduceEqDiff, Nat.reduceAdd, Nat.reduceLeDiff, reduceCtorEq, Nat.reduceMul, Int.reduceToNat]
  refine aops_nil (hL7 _ ?_)
  simp only [q0, kz, kv, ka, kf, km, y_and, rwR, enR, csR, tyf, Nat.reduceBEq, reduceIte, Nat.reduceEqDiff, Nat.reduceAdd, Nat.reduceLeDiff, reduceCtorEq, Nat.reduceMul, Int.reduceToNat]
  try simp only [rk_state]
  refine hK6 _ ?_
  as_aux_lemma =>
    refine awp_block ?_
    refine awp_loopW (W := [9, 10, 11, 5, 12, 13, 14, 15, 16, 17, 18, 19, 20, 21, 8]) (M := [5]) rfl rfl (fun k s => ∃ (i : Nat), k = ps.length - i ∧ (i ≤ ps.length) ∧ s.t 8 = .c (.int .i64 (i : Int)) ∧ s.m 2 = [.c (.int .i64 0), .c (.int .i64 0), .c (.int .i64 0), .c (.int .i64 0)] ∧ s.m 3 = [.c (.int .i64 (sumOf (ps.take i)).n), .c (.int .i64 (sumOf (ps.take i)).mn), .c (.int .i64 (sumOf (ps.take i)).mx), .c (.int .i64 (sumOf (ps.take i)).tot)] ∧ s.m 5 = []) ((fun (i : Nat) => ps.length - i) (0)) ?i8 ?r8
    case i8 =>
      refine ⟨0, rfl, ?_, ?_, ?_, ?_, ?_⟩
      · first | omega | simp
      · (try simp only [q0, kz, kv, ka, kf, km, y_and, rwR, enR, csR, tyf, Nat.reduceBEq, reduceIte, Nat.reduceEqDiff, Nat.reduceAdd, Nat.reduceLeDiff, reduceCtorEq, Nat.reduceMul, Int.reduceToNat])
        all_goals (first | done | rfl | (simp only [AV.c.injEq, C.int.injEq, List.cons.injEq, and_true, true_and]; omega))
      · (try simp only [q0, kz, kv, ka, kf, km, y_and, rwR, enR, csR, tyf, Nat.reduceBEq, reduceIte, Nat.reduceEqDiff, Nat.reduceAdd, Nat.reduceLeDiff, reduceCtorEq, Nat.reduceMul, Int.reduceToNat])
        all_goals (first | done | rfl | (simp only [AV.c.injEq, C.int.injEq, List.cons.injEq, and_true, true_and]; omega))
      · (try simp only [q0, kz, kv, ka, kf, km, y_and, rwR, enR, csR, tyf, Nat.reduceBEq, reduceIte, Nat.reduceEqDiff, Nat.reduceAdd, Nat.reduceLeDiff, reduceCtorEq, Nat.reduceMul, Int.reduceToNat])
        all_goals (first | done | rfl | (simp only [AV.c.injEq, C.int.injEq, List.cons.injEq, and_true, true_and]; omega))
      · (try simp only [q0, kz, kv, ka, kf, km, y_and, rwR, enR, csR, tyf, Nat.reduceBEq, reduceIte, Nat.reduceEqDiff, Nat.reduceAdd, Nat.reduceLeDiff, reduceCtorEq, Nat.reduceMul, Int.reduceToNat])
        all_goals (first | done | rfl | (simp only [AV.c.injEq, C.int.injEq, List.cons.injEq, and_true, true_and]; omega))
    case r8 =>
      rintro k s hf ⟨i, rfl, hq3_0, s8t8, s8m2, s8m3, s8z5⟩ K8 hK8
      have s8f2 := hf 2 rfl (by (try simp only [q0, kz, kv, ka, kf, km, y_and, rwR, enR, csR, tyf, Nat.reduceBEq, reduceIte, Nat.reduceEqDiff, Nat.reduceAdd, Nat.reduceLeDiff, reduceCtorEq, Nat.reduceMul, Int.reduceToNat, kn]); all_goals rfl)
      simp only [q0, kz, kv, ka, kf, km, y_and, rwR, enR, csR, tyf, Nat.reduceBEq, reduceIte, Nat.reduceEqDiff, Nat.reduceAdd, Nat.reduceLeDiff, reduceCtorEq, Nat.reduceMul, Int.reduceToNat] at s8f2
      have s8f3 := hf 3 rfl (by (try simp only [q0, kz, kv, ka, kf, km, y_and, rwR, enR, csR, tyf, Nat.reduceBEq, reduceIte, Nat.reduceEqDiff, Nat.reduceAdd, Nat.reduceLeDiff, reduceCtorEq, Nat.reduceMul, Int.reduceToNat, kn]); all_goals rfl)
      simp only [q0, kz, kv, ka, kf, km, y_and, rwR, enR, csR, tyf, Nat.reduceBEq, reduceIte, Nat.reduceEqDiff, Nat.reduceAdd, Nat.reduceLeDiff, reduceCtorEq, Nat.reduceMul, Int.reduceToNat] at s8f3
      have s8f6 := hf 6 rfl (by (try simp only [q0, kz, kv, ka, kf, km, y_and, rwR, enR, csR, tyf, Nat.reduceBEq, reduceIte, Nat.reduceEqDiff, Nat.reduceAdd, Nat.reduceLeDiff, reduceCtorEq, Nat.reduceMul, Int.reduceToNat, kn]); all_goals rfl)
      simp only [q0, kz, kv, ka, kf, km, y_and, rwR, enR, csR, tyf, Nat.reduceBEq, reduceIte, Nat.reduceEqDiff, Nat.reduceAdd, Nat.reduceLeDiff, reduceCtorEq, Nat.reduceMul, Int.reduceToNat] at s8f6
      have s8f7 := hf 7 rfl (by (try simp only [q0, kz, kv, ka, kf, km, y_and, rwR, enR, csR, tyf, Nat.reduceBEq, reduceIte, Nat.reduceEqDiff, Nat.reduceAdd, Nat.reduceLeDiff, reduceCtorEq, Nat.reduceMul, Int.reduceToNat, kn]); all_goals rfl)
      simp only [q0, kz, kv, ka, kf, km, y_and, rwR, enR, csR, tyf, Nat.reduceBEq, reduceIte, Nat.reduceEqDiff, Nat.reduceAdd, Nat.reduceLeDiff, reduceCtorEq, Nat.reduceMul, Int.reduceToNat] at s8f7
      clear hf
      refine awp_seq_k fun K9 hK9 => ?_
      refine awp_region_lit fun L10 hL10 => ?_
      refine aops_orunN 1 _ _ ?_
      simp only [q0, kz, kv, ka, kf, km, y_and, rwR, enR, csR, tyf, Nat.reduceBEq, reduceIte, Nat.reduceEqDiff, Nat.reduceAdd, Nat.reduceLeDiff, reduceCtorEq, Nat.reduceMul, Int.reduceToNat, s8t8, s8m2, s8m3, s8z5, s8f2, s8f3, s8f6, s8f7]
      refine aops_nil (hL10 _ ?_)
      simp only [q0, kz, kv, ka, kf, km, y_and, rwR, enR, csR, tyf, Nat.reduceBEq, reduceIte, Nat.reduceEqDiff, Nat.reduceAdd, Nat.reduceLeDiff, reduceCtorEq, Nat.reduceMul, Int.reduceToNat, s8t8, s8m2, s8m3, s8z5, s8f2, s8f3, s8f6, s8f7]
      try simp only [rk_state]
      refine hK9 _ ?_
      refine awp_seq_k fun K11 hK11 => ?_
      refine awp_cond (t := ?t12) ?h12 (fun hb12 => ?a12) (fun hb12 => ?b12)
      case h12 => simp only [q0, kz, kv, ka, kf, km, y_and, rwR, enR, csR, tyf, Nat.reduceBEq, reduceIte, Nat.reduceEqDiff, Nat.reduceAdd, Nat.reduceLeDiff, reduceCtorEq, Nat.reduceMul, Int.reduceToNat, s8t8, s8m2, s8m3, s8z5, s8f2, s8f3, s8f6, s8f7]; rfl
      case a12 =>
        have hp12 := hb12
        try simp only [kb] at hp12
        all_goals try exact absurd hb12 (by decide)
        all_goals try (exfalso; omega)
        all_goals
          refine awp_skip ?_
          try simp only [rk_state]
          refine hK11 _ ?_
          refine awp_seq_k fun K13 hK13 => ?_
          refine awp_block ?_
          refine awp_seq_k fun K14 hK14 => ?_
          refine awp_region_lit fun L15 hL15 => ?_
          refine aops_val (v := ?v16) rfl ?h16 ?_
          case h16 => simp only [q0, kz, kv, ka, kf, km, y_and, rwR, enR, csR, tyf, Nat.reduceBEq, reduceIte, Nat.reduceEqDiff, Nat.reduceAdd, Nat.reduceLeDiff, reduceCtorEq, Nat.reduceMul, Int.reduceToNat, s8t8, s8m2, s8m3, s8z5, s8f2, s8f3, s8f6, s8f7, hb12]; first | (rw [idx_c un22 if34] <;> omega) | (rw [idx_o un22 if34] <;> omega) | (rw [idx_a un22 if34] <;> omega)
          simp only [q0, kz, kv, ka, kf, km, y_and, rwR, enR, csR, tyf, Nat.reduceBEq, reduceIte, Nat.reduceEqDiff, Nat.reduceAdd, Nat.reduceLeDiff, reduceCtorEq, Nat.reduceMul, Int.reduceToNat, s8t8, s8m2, s8m3, s8z5, s8f2, s8f3, s8f6, s8f7, hb12]
          refine aops_orunN 3 _ _ ?_
          simp only [q0, kz, kv, ka, kf, km, y_and, rwR, enR, csR, tyf, Nat.reduceBEq, reduceIte, Nat.reduceEqDiff, Nat.reduceAdd, Nat.reduceLeDiff, reduceCtorEq, Nat.reduceMul, Int.reduceToNat, s8t8, s8m2, s8m3, s8z5, s8f2, s8f3, s8f6, s8f7, hb12]
          refine aops_nil (hL15 _ ?_)
          simp only [q0, kz, kv, ka, kf, km, y_and, rwR, enR, csR, tyf, Nat.reduceBEq, reduceIte, Nat.reduceEqDiff, Nat.reduceAdd, Nat.reduceLeDiff, reduceCtorEq, Nat.reduceMul, Int.reduceToNat, s8t8, s8m2, s8m3, s8z5, s8f2, s8f3, s8f6, s8f7, hb12]
          try simp only [rk_state]
          refine hK14 _ ?_
          refine awp_region_lit fun L17 hL17 => ?_
          refine aops_orunN 8 _ _ ?_
          simp only [q0, kz, kv, ka, kf, km, y_and, rwR, enR, csR, tyf, Nat.reduceBEq, reduceIte, Nat.reduceEqDiff, Nat.reduceAdd, Nat.reduceLeDiff, reduceCtorEq, Nat.reduceMul, Int.reduceToNat, s8t8, s8m2, s8m3, s8z5, s8f2, s8f3, s8f6, s8f7, hb12]
          refine aops_call (join_fun _ _ _ _ _ _ _ _) rfl rfl rfl rfl (by (try simp only [q0, kz, kv, ka, kf, km, y_and, rwR, enR, csR, tyf, Nat.reduceBEq, reduceIte, Nat.reduceEqDiff, Nat.reduceAdd, Nat.reduceLeDiff, reduceCtorEq, Nat.reduceMul, Int.reduceToNat, s8t8, s8m2, s8m3, s8z5, s8f2, s8f3, s8f6, s8f7, hb12]); (repeat' (first | exact .nil | exact wk_c | exact wk_ownc | exact wk_nilsc | exact wk_nils | exact wk_fn | refine .cons ?_ ?_ | refine wk_agg ?_ | refine wk_fnL ?_))) rfl rfl ?_
          simp only [q0, kz, kv, ka, kf, km, y_and, rwR, enR, csR, tyf, Nat.reduceBEq, reduceIte, Nat.reduceEqDiff, Nat.reduceAdd, Nat.reduceLeDiff, reduceCtorEq, Nat.reduceMul, Int.reduceToNat, avR, s8t8, s8m2, s8m3, s8z5, s8f2, s8f3, s8f6, s8f7, hb12]
          refine aops_orunN 1 _ _ ?_
          simp only [q0, kz, kv, ka, kf, km, y_and, rwR, enR, csR, tyf, Nat.reduceBEq, reduceIte, Nat.reduceEqDiff, Nat.reduceAdd, Nat.reduceLeDiff, reduceCtorEq, Nat.reduceMul, Int.reduceToNat, s8t8, s8m2, s8m3, s8z5, s8f2, s8f3, s8f6, s8f7, hb12]
          refine aops_nil (hL17 _ ?_)
          simp only [q0, kz, kv, ka, kf, km, y_and, rwR, enR, csR, tyf, Nat.reduceBEq, reduceIte, Nat.reduceEqDiff, Nat.reduceAdd, Nat.reduceLeDiff, reduceCtorEq, Nat.reduceMul, Int.reduceToNat, s8t8, s8m2, s8m3, s8z5, s8f2, s8f3, s8f6, s8f7, hb12]
          try simp only [rk_state]
          try simp only [rk_state]
          refine hK13 _ ?_
          as_aux_lemma =>
            refine awp_region_lit fun L19 hL19 => ?_
            refine aops_val (v := ?v20) rfl ?h20 ?_
            case h20 => simp only [q0, kz, kv, ka, kf, km, y_and, rwR, enR, csR, tyf, Nat.reduceBEq, reduceIte, Nat.reduceEqDiff, Nat.reduceAdd, Nat.reduceLeDiff, reduceCtorEq, Nat.reduceMul, Int.reduceToNat, s8t8, s8m2, s8m3, s8z5, s8f2, s8f3, s8f6, s8f7, hb12]; first | (rw [wr_id] <;> omega) | rfl
            simp only [q0, kz, kv, ka, kf, km, y_and, rwR, enR, csR, tyf, Nat.reduceBEq, reduceIte, Nat.reduceEqDiff, Nat.reduceAdd, Nat.reduceLeDiff, reduceCtorEq, Nat.reduceMul, Int.reduceToNat, s8t8, s8m2, s8m3, s8z5, s8f2, s8f3, s8f6, s8f7, hb12]
            refine aops_orunN 1 _ _ ?_
            simp only [q0, kz, kv, ka, kf, km, y_and, rwR, enR, csR, tyf, Nat.reduceBEq, reduceIte, Nat.reduceEqDiff, Nat.reduceAdd, Nat.reduceLeDiff, reduceCtorEq, Nat.reduceMul, Int.reduceToNat, s8t8, s8m2, s8m3, s8z5, s8f2, s8f3, s8f6, s8f7, hb12]
            refine aops_nil (hL19 _ ?_)
            simp only [q0, kz, kv, ka, kf, km, y_and, rwR, enR, csR, tyf, Nat.reduceBEq, reduceIte, Nat.reduceEqDiff, Nat.reduceAdd, Nat.reduceLeDiff, reduceCtorEq, Nat.reduceMul, Int.reduceToNat, s8t8, s8m2, s8m3, s8z5, s8f2, s8f3, s8f6, s8f7, hb12]
            try simp only [rk_state]
            have sn := sumOf_next (l := ps) (i := i) (by omega)
            refine hK8 _ ((fun (i : Nat) => ps.length - i) (i + 1)) ?_ ⟨i + 1, rfl, ?_, ?_, ?_, ?_, ?_⟩
            · (try simp only []); omega
            · first | omega | simp
            · (try simp only [q0, kz, kv, ka, kf, km, y_and, rwR, enR, csR, tyf, Nat.reduceBEq, reduceIte, Nat.reduceEqDiff, Nat.reduceAdd, Nat.reduceLeDiff, reduceCtorEq, Nat.reduceMul, Int.reduceToNat, s8t8, s8m2, s8m3, s8z5, s8f2, s8f3, s8f6, s8f7, hb12, sn])
              all_goals (first | done | rfl | (simp only [AV.c.injEq, C.int.injEq, List.cons.injEq, and_true, true_and]; omega))
            · (try simp only [q0, kz, kv, ka, kf, km, y_and, rwR, enR, csR, tyf, Nat.reduceBEq, reduceIte, Nat.reduceEqDiff, Nat.reduceAdd, Nat.reduceLeDiff, reduceCtorEq, Nat.reduceMul, Int.reduceToNat, s8t8, s8m2, s8m3, s8z5, s8f2, s8f3, s8f6, s8f7, hb12, sn])
              all_goals (first | done | rfl | (simp only [AV.c.injEq, C.int.injEq, List.cons.injEq, and_true, true_and]; omega))
            · (try simp only [q0, kz, kv, ka, kf, km, y_and, rwR, enR, csR, tyf, Nat.reduceBEq, reduceIte, Nat.reduceEqDiff, Nat.reduceAdd, Nat.reduceLeDiff, reduceCtorEq, Nat.reduceMul, Int.reduceToNat, s8t8, s8m2, s8m3, s8z5, s8f2, s8f3, s8f6, s8f7, hb12, sn])
              all_goals (first | done | rfl | (simp only [AV.c.injEq, C.int.injEq, List.cons.injEq, and_true, true_and]; omega))
            · (try simp only [q0, kz, kv, ka, kf, km, y_and, rwR, enR, csR, tyf, Nat.reduceBEq, reduceIte, Nat.reduceEqDiff, Nat.reduceAdd, Nat.reduceLeDiff, reduceCtorEq, Nat.reduceMul, Int.reduceToNat, s8t8, s8m2, s8m3, s8z5, s8f2, s8f3, s8f6, s8f7, hb12, sn])
              all_goals (first | done | rfl | (simp only [AV.c.injEq, C.int.injEq, List.cons.injEq, and_true, true_and]; omega))
      case b12 =>
        have hp12 := hb12
        try simp only [kb] at hp12
        all_goals try exact absurd hb12 (by decide)
        all_goals try (exfalso; omega)
        all_goals
          refine awp_exit ?_
          simp only [rk_state, reduceIte, Nat.reduceEqDiff]
          try simp only [rk_state]
          refine hK5 _ ?_
          refine awp_seq_k fun K21 hK21 => ?_
          refine awp_region_lit fun L22 hL22 => ?_
          refine aops_orunN 2 _ _ ?_
          simp only [q0, kz, kv, ka, kf, km, y_and, rwR, enR, csR, tyf, Nat.reduceBEq, reduceIte, Nat.reduceEqDiff, Nat.reduceAdd, Nat.reduceLeDiff, reduceCtorEq, Nat.reduceMul, Int.reduceToNat, s8t8, s8m2, s8m3, s8z5, s8f2, s8f3, s8f6, s8f7, hb12]
          refine aops_nil (hL22 _ ?_)
          simp only [q0, kz, kv, ka, kf, km, y_and, rwR, enR, csR, tyf, Nat.reduceBEq, reduceIte, Nat.reduceEqDiff, Nat.reduceAdd, Nat.reduceLeDiff, reduceCtorEq, Nat.reduceMul, Int.reduceToNat, s8t8, s8m2, s8m3, s8z5, s8f2, s8f3, s8f6, s8f7, hb12]
          try simp only [rk_state]
          refine hK21 _ ?_
          refine awp_ret ?_
          try simp only [rk_state]
          refine ⟨_, 0, by simp only [q0, kz, kv, ka, kf, km, y_and, rwR, enR, csR, tyf, Nat.reduceBEq, reduceIte, Nat.reduceEqDiff, Nat.reduceAdd, Nat.reduceLeDiff, reduceCtorEq, Nat.reduceMul, Int.reduceToNat, resA, Try.results26, s8t8, s8m2, s8m3, s8z5, s8f2, s8f3, s8f6, s8f7, hb12]; rfl, ?_, fun l hl => absurd rfl hl, fun l hl => absurd rfl hl⟩
          simp only [packA]
          have e : ps.take i = ps := List.take_of_length_le (by omega); simp only [avR, e]; (repeat' (first | exact .nil | exact wkR_c | exact wkR_own | exact wkR_nils | refine wkR_int ?_ | refine wkR_bool ?_ | refine wkR_sl ?_ | refine wkR_osl ?_ | refine wkR_nsl ?_ | refine wkR_oo ?_ | refine wkR_no ?_ | refine .cons ?_ ?_ | refine wkR_agg ?_ | refine wkR_tup ?_))
set_option maxHeartbeats 4000000 in
set_option maxRecDepth 50000 in
theorem refof_fun (ps : List Pt) (hn : ps.length < 4611686018427387904) (hk : ∀ p ∈ ps, inR64 p.v) : Fun Try.prog 27 [.c (.sl 34 (Rw Pt.cs ps))] nomem ((sumOf ps).av) nomem := by
  refine fun_of_awp Try.func27 rfl (by decide +kernel) (by decide +kernel) (Nat.le_of_ble_eq_true rfl) (fun _ _ => rfl) (fun _ _ => rfl) ?_
  refine awp_seq_k fun K1 hK1 => ?_
  refine awp_region_lit fun L2 hL2 => ?_
  refine aops_orunN 1 _ _ ?_
  simp only [q0, kz, kv, ka, kf, km, y_and, rwR, enR, csR, tyf, Nat.reduceBEq, reduceIte, Nat.reduceEqDiff, Nat.reduceAdd, Nat.reduceLeDiff, reduceCtorEq, Nat.reduceMul, Int.reduceToNat]
  refine aops_nil (hL2 _ ?_)
  simp only [q0, kz, kv, ka, kf, km, y_and, rwR, enR, csR, tyf, Nat.reduceBEq, reduceIte, Nat.reduceEqDiff, Nat.reduceAdd, Nat.reduceLeDiff, reduceCtorEq, Nat.reduceMul, Int.reduceToNat]
  try simp only [rk_state]
  refine hK1 _ ?_
  refine awp_seq_k fun K3 hK3 => ?_
  refine awp_seq_k fun K4 hK4 => ?_
  refine awp_region_lit fun L5 hL5 => ?_
  refine aops_orunN 3 _ _ ?_
  simp only [q0, kz, kv, ka, kf, km, y_and, rwR, enR, csR, tyf, Nat.reduceBEq, reduceIte, Nat.reduceEqDiff, Nat.reduceAdd, Nat.reduceLeDiff, reduceCtorEq, Nat.reduceMul, Int.reduceToNat]
  refine aops_nil (hL5 _ ?_)
  simp only [q0, kz, kv, ka, kf, km, y_and, rwR, enR, csR, tyf, Nat.reduceBEq, reduceIte, Nat.reduceEqDiff, Nat.reduceAdd, Nat.reduceLeDiff, reduceCtorEq, Nat.reduceMul, Int.reduceToNat]
  try simp only [rk_state]
  refine hK4 _ ?_
  refine awp_cond (t := ?t6) ?h6 (fun hb6 => ?a6) (fun hb6 => ?b6)
  case h6 => simp only [q0, kz, kv, ka, kf, km, y_and, rwR, enR, csR, tyf, Nat.reduceBEq, reduceIte, Nat.reduceEqDiff, Nat.reduceAdd, Nat.reduceLeDiff, reduceCtorEq, Nat.reduceMul, Int.reduceToNat]; rfl
  case a6 =>
    have hp6 := hb6
    try simp only [kb] at hp6
    all_goals try exact absurd hb6 (by decide)
    all_goals try (exfalso; omega)
    all_goals
      refine awp_seq_k fun K7 hK7 => ?_
      refine awp_region_lit fun L8 hL8 => ?_
      refine aops_orunN 2 _ _ ?_
      simp only [q0, kz, kv, ka, kf, km, y_and, rwR, enR, csR, tyf, Nat.reduceBEq, reduceIte, Nat.reduceEqDiff, Nat.reduceAdd, Nat.reduceLeDiff, reduceCtorEq, Nat.reduceMul, Int.reduceToNat, hb6]
      refine aops_nil (hL8 _ ?_)
      simp only [q0, kz, kv, ka, kf, km, y_and, rwR, enR, csR, tyf, Nat.reduceBEq, reduceIte, Nat.reduceEqDiff, Nat.reduceAdd, Nat.reduceLeDiff, reduceCtorEq, Nat.reduceMul, Int.reduceToNat, hb6]
      try simp only [rk_state]
      refine hK7 _ ?_
      as_aux_lemma =>
        refine awp_ret ?_
        try simp only [rk_state]
        refine ⟨_, 0, by simp only [q0, kz, kv, ka, kf, km, y_and, rwR, enR, csR, tyf, Nat.reduceBEq, reduceIte, Nat.reduceEqDiff, Nat.reduceAdd, Nat.reduceLeDiff, reduceCtorEq, Nat.reduceMul, Int.reduceToNat, resA, Try.results27, hb6]; rfl, ?_, fun l hl => absurd rfl hl, fun l hl => absurd rfl hl⟩
        simp only [packA]
        first | (have e : ps = [] := by (apply List.eq_nil_of_length_eq_zero; omega)); subst e; simp only [avR]; (repeat' (first | exact .nil | exact wkR_c | exact wkR_own | exact wkR_nils | refine wkR_int ?_ | refine wkR_bool ?_ | refine wkR_sl ?_ | refine wkR_osl ?_ | refine wkR_nsl ?_ | refine wkR_oo ?_ | refine wkR_no ?_ | refine .cons ?_ ?_ | refine wkR_agg ?_ | refine wkR_tup ?_)); all_goals rfl | (have e : i = ps.length := by omega); subst e; rw [sumRef_eq ps hn hk (by omega)]; simp only [avR]; (repeat' (first | exact .nil | exact wkR_c | exact wkR_own | exact wkR_nils | refine wkR_int ?_ | refine wkR_bool ?_ | refine wkR_sl ?_ | refine wkR_osl ?_ | refine wkR_nsl ?_ | refine wkR_oo ?_ | refine wkR_no ?_ | refine .cons ?_ ?_ | refine wkR_agg ?_ | refine wkR_tup ?_))
  case b6 =>
    have hp6 := hb6
    try simp only [kb] at hp6
    all_goals try exact absurd hb6 (by decide)
    all_goals try (exfalso; omega)
    all_goals
      refine awp_skip ?_
      try simp only [rk_state]
      refine hK3 _ ?_
      refine awp_seq_k fun K9 hK9 => ?_
      refine awp_region_dr (by decide +kernel) fun L10 hL10 => ?_
      refine aops_orunN 3 _ _ ?_
      simp only [q0, kz, kv, ka, kf, km, y_and, rwR, enR, csR, tyf, Nat.reduceBEq, reduceIte, Nat.reduceEqDiff, Nat.reduceAdd, Nat.reduceLeDiff, reduceCtorEq, Nat.reduceMul, Int.reduceToNat, hb6]
      refine aops_val (v := ?v11) rfl ?h11 ?_
      case h11 => simp only [q0, kz, kv, ka, kf, km, y_and, rwR, enR, csR, tyf, Nat.reduceBEq, reduceIte, Nat.reduceEqDiff, Nat.reduceAdd, Nat.reduceLeDiff, reduceCtorEq, Nat.reduceMul, Int.reduceToNat, hb6]; first | (rw [idx_c un22 if34] <;> omega) | (rw [idx_o un22 if34] <;> omega) | (rw [idx_a un22 if34] <;> omega)
      simp only [q0, kz, kv, ka, kf, km, y_and, rwR, enR, csR, tyf, Nat.reduceBEq, reduceIte, Nat.reduceEqDiff, Nat.reduceAdd, Nat.reduceLeDiff, reduceCtorEq, Nat.reduceMul, Int.reduceToNat, hb6]
      refine aops_orunN 3 _ _ ?_
      simp only [q0, kz, kv, ka, kf, km, y_and, rwR, enR, csR, tyf, Nat.reduceBEq, reduceIte, Nat.reduceEqDiff, Nat.reduceAdd, Nat.reduceLeDiff, reduceCtorEq, Nat.reduceMul, Int.reduceToNat, hb6]
      refine aops_val (v := ?v12) rfl ?h12 ?_
      case h12 => simp only [q0, kz, kv, ka, kf, km, y_and, rwR, enR, csR, tyf, Nat.reduceBEq, reduceIte, Nat.reduceEqDiff, Nat.reduceAdd, Nat.reduceLeDiff, reduceCtorEq, Nat.reduceMul, Int.reduceToNat, hb6]; first | (rw [idx_c un22 if34] <;> omega) | (rw [idx_o un22 if34] <;> omega) | (rw [idx_a un22 if34] <;> omega)
      simp only [q0, kz, kv, ka, kf, km, y_and, rwR, enR, csR, tyf, Nat.reduceBEq, reduceIte, Nat.reduceEqDiff, Nat.reduceAdd, Nat.reduceLeDiff, reduceCtorEq, Nat.reduceMul, Int.reduceToNat, hb6]
      refine aops_orunN 5 _ _ ?_
      simp only [q0, kz, kv, ka, kf, km, y_and, rwR, enR, csR, tyf, Nat.reduceBEq, reduceIte, Nat.reduceEqDiff, Nat.reduceAdd, Nat.reduceLeDiff, reduceCtorEq, Nat.reduceMul, Int.reduceToNat, hb6]
      refine aops_nil (hL10 _ ?_)
      simp only [q0, kz, kv, ka, kf, km, y_and, rwR, enR, csR, tyf, Nat.reduceBEq, reduceIte, Nat.reduceEqDiff, Nat.reduceAdd, Nat.reduceLeDiff, reduceCtorEq, Nat.reduceMul, Int.reduceToNat, hb6]
      try simp only [rk_state]
      refine hK9 _ ?_
      refine awp_seq_k fun K13 hK13 => ?_
      refine awp_seq_k fun K14 hK14 => ?_
      refine awp_region_lit fun L15 hL15 => ?_
      refine aops_orunN 3 _ _ ?_
      simp only [q0, kz, kv, ka, kf, km, y_and, rwR, enR, csR, tyf, Nat.reduceBEq, reduceIte, Nat.reduceEqDiff, Nat.reduceAdd, Nat.reduceLeDiff, reduceCtorEq, Nat.reduceMul, Int.reduceToNat, hb6]
      refine aops_nil (hL15 _ ?_)
      simp only [q0, kz, kv, ka, kf, km, y_and, rwR, enR, csR, tyf, Nat.reduceBEq, reduceIte, Nat.reduceEqDiff, Nat.reduceAdd, Nat.reduceLeDiff, reduceCtorEq, Nat.reduceMul, Int.reduceToNat, hb6]
      try simp only [rk_state]
      refine hK14 _ ?_
      refine awp_block ?_
      refine awp_loopW (W := [24, 25, 26, 5, 27, 28, 29, 30, 31, 32, 33, 34, 35, 36, 37, 38, 39, 40, 41, 42, 43, 44, 45, 23]) (M := [5]) rfl rfl (fun k s => ∃ (i : Nat), k = ps.length - i ∧ (i ≤ ps.length) ∧ s.t 23 = .c (.int .i64 (i : Int)) ∧ s.m 2 = [.c (.int .i64 0), .c (.int .i64 0), .c (.int .i64 0), .c (.int .i64 0)] ∧ s.m 3 = [.c (.int .i64 (sumRefAt ps i).n), .c (.int .i64 (sumRefAt ps i).mn), .c (.int .i64 (sumRefAt ps i).mx), .c (.int .i64 (sumRefAt ps i).tot)] ∧ s.m 5 = []) ((fun (i : Nat) => ps.length - i) (0)) ?i16 ?r16
      case i16 =>
        refine ⟨0, rfl, ?_, ?_, ?_, ?_, ?_⟩
        · first | omega | simp
        · (try simp only [q0, kz, kv, ka, kf, km, y_and, rwR, enR, csR, tyf, Nat.reduceBEq, reduceIte, Nat.reduceEqDiff, Nat.reduceAdd, Nat.reduceLeDiff, reduceCtorEq, Nat.reduceMul, Int.reduceToNat, hb6])
          all_goals (first | done | rfl | (simp only [AV.c.injEq, C.int.injEq, List.cons.injEq, and_true, true_and]; omega))
        · (try simp only [q0, kz, kv, ka, kf, km, y_and, rwR, enR, csR, tyf, Nat.reduceBEq, reduceIte, Nat.reduceEqDiff, Nat.reduceAdd, Nat.reduceLeDiff, reduceCtorEq, Nat.reduceMul, Int.reduceToNat, hb6])
          all_goals (first | done | rfl | (simp only [AV.c.injEq, C.int.injEq, List.cons.injEq, and_true, true_and]; omega))
        · (try simp only [q0, kz, kv, ka, kf, km, y_and, rwR, enR, csR, tyf, Nat.reduceBEq, reduceIte, Nat.reduceEqDiff, Nat.reduceAdd, Nat.reduceLeDiff, reduceCtorEq, Nat.reduceMul, Int.reduceToNat, hb6])
          all_goals (first | done | rfl | (simp only [AV.c.injEq, C.int.injEq, List.cons.injEq, and_true, true_and]; omega))
        · (try simp only [q0, kz, kv, ka, kf, km, y_and, rwR, enR, csR, tyf, Nat.reduceBEq, reduceIte, Nat.reduceEqDiff, Nat.reduceAdd, Nat.reduceLeDiff, reduceCtorEq, Nat.reduceMul, Int.reduceToNat, hb6])
          all_goals (first | done | rfl | (simp only [AV.c.injEq, C.int.injEq, List.cons.injEq, and_true, true_and]; omega))
      case r16 =>
        rintro k s hf ⟨i, rfl, hq5_0, s16t23, s16m2, s16m3, s16z5⟩ K16 hK16
        have s16f2 := hf 2 rfl (by (try simp only [q0, kz, kv, ka, kf, km, y_and, rwR, enR, csR, tyf, Nat.reduceBEq, reduceIte, Nat.reduceEqDiff, Nat.reduceAdd, Nat.reduceLeDiff, reduceCtorEq, Nat.reduceMul, Int.reduceToNat, kn, hb6]); all_goals rfl)
        simp only [q0, kz, kv, ka, kf, km, y_and, rwR, enR, csR, tyf, Nat.reduceBEq, reduceIte, Nat.reduceEqDiff, Nat.reduceAdd, Nat.reduceLeDiff, reduceCtorEq, Nat.reduceMul, Int.reduceToNat, hb6] at s16f2
        have s16f3 := hf 3 rfl (by (try simp only [q0, kz, kv, ka, kf, km, y_and, rwR, enR, csR, tyf, Nat.reduceBEq, reduceIte, Nat.reduceEqDiff, Nat.reduceAdd, Nat.reduceLeDiff, reduceCtorEq, Nat.reduceMul, Int.reduceToNat, kn, hb6]); all_goals rfl)
        simp only [q0, kz, kv, ka, kf, km, y_and, rwR, enR, csR, tyf, Nat.reduceBEq, reduceIte, Nat.reduceEqDiff, Nat.reduceAdd, Nat.reduceLeDiff, reduceCtorEq, Nat.reduceMul, Int.reduceToNat, hb6] at s16f3
        have s16f21 := hf 21 rfl (by (try simp only [q0, kz, kv, ka, kf, km, y_and, rwR, enR, csR, tyf, Nat.reduceBEq, reduceIte, Nat.reduceEqDiff, Nat.reduceAdd, Nat.reduceLeDiff, reduceCtorEq, Nat.reduceMul, Int.reduceToNat, kn, hb6]); all_goals rfl)
        simp only [q0, kz, kv, ka, kf, km, y_and, rwR, enR, csR, tyf, Nat.reduceBEq, reduceIte, Nat.reduceEqDiff, Nat.reduceAdd, Nat.reduceLeDiff, reduceCtorEq, Nat.reduceMul, Int.reduceToNat, hb6] at s16f21
        have s16f22 := hf 22 rfl (by (try simp only [q0, kz, kv, ka, kf, km, y_and, rwR, enR, csR, tyf, Nat.reduceBEq, reduceIte, Nat.reduceEqDiff, Nat.reduceAdd, Nat.reduceLeDiff, reduceCtorEq, Nat.reduceMul, Int.reduceToNat, kn, hb6]); all_goals rfl)
        simp only [q0, kz, kv, ka, kf, km, y_and, rwR, enR, csR, tyf, Nat.reduceBEq, reduceIte, Nat.reduceEqDiff, Nat.reduceAdd, Nat.reduceLeDiff, reduceCtorEq, Nat.reduceMul, Int.reduceToNat, hb6] at s16f22
        clear hf
        refine awp_seq_k fun K17 hK17 => ?_
        refine awp_region_lit fun L18 hL18 => ?_
        refine aops_orunN 1 _ _ ?_
        simp only [q0, kz, kv, ka, kf, km, y_and, rwR, enR, csR, tyf, Nat.reduceBEq, reduceIte, Nat.reduceEqDiff, Nat.reduceAdd, Nat.reduceLeDiff, reduceCtorEq, Nat.reduceMul, Int.reduceToNat, hb6, s16t23, s16m2, s16m3, s16z5, s16f2, s16f3, s16f21, s16f22]
        refine aops_nil (hL18 _ ?_)
        simp only [q0, kz, kv, ka, kf, km, y_and, rwR, enR, csR, tyf, Nat.reduceBEq, reduceIte, Nat.reduceEqDiff, Nat.reduceAdd, Nat.reduceLeDiff, reduceCtorEq, Nat.reduceMul, Int.reduceToNat, hb6, s16t23, s16m2, s16m3, s16z5, s16f2, s16f3, s16f21, s16f22]
        try simp only [rk_state]
        refine hK17 _ ?_
        as_aux_lemma =>
          refine awp_seq_k fun K19 hK19 => ?_
          refine awp_cond (t := ?t20) ?h20 (fun hb20 => ?a20) (fun hb20 => ?b20)
          case h20 => simp only [q0, kz, kv, ka, kf, km, y_and, rwR, enR, csR, tyf, Nat.reduceBEq, reduceIte, Nat.reduceEqDiff, Nat.reduceAdd, Nat.reduceLeDiff, reduceCtorEq, Nat.reduceMul, Int.reduceToNat, hb6, s16t23, s16m2, s16m3, s16z5, s16f2, s16f3, s16f21, s16f22]; rfl
          case a20 =>
            have hp20 := hb20
            try simp only [kb] at hp20
            all_goals try exact absurd hb20 (by decide)
            all_goals try (exfalso; omega)
            all_goals
              refine awp_skip ?_
              try simp only [rk_state]
              refine hK19 _ ?_
              refine awp_seq_k fun K21 hK21 => ?_
              refine awp_block ?_
              refine awp_seq_k fun K22 hK22 => ?_
              refine awp_region_lit fun L23 hL23 => ?_
              refine aops_val (v := ?v24) rfl ?h24 ?_
              case h24 => simp only [q0, kz, kv, ka, kf, km, y_and, rwR, enR, csR, tyf, Nat.reduceBEq, reduceIte, Nat.reduceEqDiff, Nat.reduceAdd, Nat.reduceLeDiff, reduceCtorEq, Nat.reduceMul, Int.reduceToNat, hb6, s16t23, s16m2, s16m3, s16z5, s16f2, s16f3, s16f21, s16f22, hb20]; first | (rw [idx_c un22 if34] <;> omega) | (rw [idx_o un22 if34] <;> omega) | (rw [idx_a un22 if34] <;> omega)
              simp only [q0, kz, kv, ka, kf, km, y_and, rwR, enR, csR, tyf, Nat.reduceBEq, reduceIte, Nat.reduceEqDiff, Nat.reduceAdd, Nat.reduceLeDiff, reduceCtorEq, Nat.reduceMul, Int.reduceToNat, hb6, s16t23, s16m2, s16m3, s16z5, s16f2, s16f3, s16f21, s16f22, hb20]
              refine aops_orunN 3 _ _ ?_
              simp only [q0, kz, kv, ka, kf, km, y_and, rwR, enR, csR, tyf, Nat.reduceBEq, reduceIte, Nat.reduceEqDiff, Nat.reduceAdd, Nat.reduceLeDiff, reduceCtorEq, Nat.reduceMul, Int.reduceToNat, hb6, s16t23, s16m2, s16m3, s16z5, s16f2, s16f3, s16f21, s16f22, hb20]
              refine aops_nil (hL23 _ ?_)
              simp only [q0, kz, kv, ka, kf, km, y_and, rwR, enR, csR, tyf, Nat.reduceBEq, reduceIte, Nat.reduceEqDiff, Nat.reduceAdd, Nat.reduceLeDiff, reduceCtorEq, Nat.reduceMul, Int.reduceToNat, hb6, s16t23, s16m2, s16m3, s16z5, s16f2, s16f3, s16f21, s16f22, hb20]
              try simp only [rk_state]
              refine hK22 _ ?_
              refine awp_region_drk [(3, some 3), (5, some 5), (27, some 3), (29, some 5), (32, some 3), (34, some 5), (37, some 3), (39, some 5), (42, some 3), (43, some 3), (44, some 3)] [27, 29, 32, 34, 37, 39, 42, 43, 44] (by decide +kernel) (by decide +kernel) (by simp only [q0, kz, kv, ka, kf, km, y_and, rwR, enR, csR, tyf, Nat.reduceBEq, reduceIte, Nat.reduceEqDiff, Nat.reduceAdd, Nat.reduceLeDiff, reduceCtorEq, Nat.reduceMul, Int.reduceToNat, hb6, s16t23, s16m2, s16m3, s16z5, s16f2, s16f3, s16f21, s16f22, hb20, List.all_cons, List.all_nil, forget, AV.tb]) fun L25 hL25 => ?_
              refine aops_orunN 14 _ _ ?_
              simp only [q0, kz, kv, ka, kf, km, y_and, rwR, enR, csR, tyf, Nat.reduceBEq, reduceIte, Nat.reduceEqDiff, Nat.reduceAdd, Nat.reduceLeDiff, reduceCtorEq, Nat.reduceMul, Int.reduceToNat, hb6, s16t23, s16m2, s16m3, s16z5, s16f2, s16f3, s16f21, s16f22, hb20]
              refine aops_val (v := ?v26) rfl ?h26 ?_
              case h26 => simp only [q0, kz, kv, ka, kf, km, y_and, rwR, enR, csR, tyf, Nat.reduceBEq, reduceIte, Nat.reduceEqDiff, Nat.reduceAdd, Nat.reduceLeDiff, reduceCtorEq, Nat.reduceMul, Int.reduceToNat, hb6, s16t23, s16m2, s16m3, s16z5, s16f2, s16f3, s16f21, s16f22, hb20]; first | (rw [wr_id] <;> omega) | rfl
              simp only [q0, kz, kv, ka, kf, km, y_and, rwR, enR, csR, tyf, Nat.reduceBEq, reduceIte, Nat.reduceEqDiff, Nat.reduceAdd, Nat.reduceLeDiff, reduceCtorEq, Nat.reduceMul, Int.reduceToNat, hb6, s16t23, s16m2, s16m3, s16z5, s16f2, s16f3, s16f21, s16f22, hb20]
              refine aops_orunN 6 _ _ ?_
              simp only [q0, kz, kv, ka, kf, km, y_and, rwR, enR, csR, tyf, Nat.reduceBEq, reduceIte, Nat.reduceEqDiff, Nat.reduceAdd, Nat.reduceLeDiff, reduceCtorEq, Nat.reduceMul, Int.reduceToNat, hb6, s16t23, s16m2, s16m3, s16z5, s16f2, s16f3, s16f21, s16f22, hb20]
              refine aops_nil (hL25 _ ?_)
              simp only [q0, kz, kv, ka, kf, km, y_and, rwR, enR, csR, tyf, Nat.reduceBEq, reduceIte, Nat.reduceEqDiff, Nat.reduceAdd, Nat.reduceLeDiff, reduceCtorEq, Nat.reduceMul, Int.reduceToNat, hb6, s16t23, s16m2, s16m3, s16z5, s16f2, s16f3, s16f21, s16f22, hb20]
              try simp only [rk_state]
              try simp only [rk_state]
              refine hK21 _ ?_
              refine awp_region_lit fun L27 hL27 => ?_
              refine aops_val (v := ?v28) rfl ?h28 ?_
              case h28 => simp only [q0, kz, kv, ka, kf, km, y_and, rwR, enR, csR, tyf, Nat.reduceBEq, reduceIte, Nat.reduceEqDiff, Nat.reduceAdd, Nat.reduceLeDiff, reduceCtorEq, Nat.reduceMul, Int.reduceToNat, hb6, s16t23, s16m2, s16m3, s16z5, s16f2, s16f3, s16f21, s16f22, hb20]; first | (rw [wr_id] <;> omega) | rfl
              simp only [q0, kz, kv, ka, kf, km, y_and, rwR, enR, csR, tyf, Nat.reduceBEq, reduceIte, Nat.reduceEqDiff, Nat.reduceAdd, Nat.reduceLeDiff, reduceCtorEq, Nat.reduceMul, Int.reduceToNat, hb6, s16t23, s16m2, s16m3, s16z5, s16f2, s16f3, s16f21, s16f22, hb20]
              refine aops_orunN 1 _ _ ?_
              simp only [q0, kz, kv, ka, kf, km, y_and, rwR, enR, csR, tyf, Nat.reduceBEq, reduceIte, Nat.reduceEqDiff, Nat.reduceAdd, Nat.reduceLeDiff, reduceCtorEq, Nat.reduceMul, Int.reduceToNat, hb6, s16t23, s16m2, s16m3, s16z5, s16f2, s16f3, s16f21, s16f22, hb20]
              refine aops_nil (hL27 _ ?_)
              simp only [q0, kz, kv, ka, kf, km, y_and, rwR, enR, csR, tyf, Nat.reduceBEq, reduceIte, Nat.reduceEqDiff, Nat.reduceAdd, Nat.reduceLeDiff, reduceCtorEq, Nat.reduceMul, Int.reduceToNat, hb6, s16t23, s16m2, s16m3, s16z5, s16f2, s16f3, s16f21, s16f22, hb20]
              try simp only [rk_state]
              have sn := sumRef_next (l := ps) (i := i) (by omega)
              refine hK16 _ ((fun (i : Nat) => ps.length - i) (i + 1)) ?_ ⟨i + 1, rfl, ?_, ?_, ?_, ?_, ?_⟩
              · (try simp only []); omega
              · first | omega | simp
              · (try simp only [q0, kz, kv, ka, kf, km, y_and, rwR, enR, csR, tyf, Nat.reduceBEq, reduceIte, Nat.reduceEqDiff, Nat.reduceAdd, Nat.reduceLeDiff, reduceCtorEq, Nat.reduceMul, Int.reduceToNat, hb6, s16t23, s16m2, s16m3, s16z5, s16f2, s16f3, s16f21, s16f22, hb20, sn])
                all_goals (first | done | rfl | (simp only [AV.c.injEq, C.int.injEq, List.cons.injEq, and_true, true_and]; omega))
              · (try simp only [q0, kz, kv, ka, kf, km, y_and, rwR, enR, csR, tyf, Nat.reduceBEq, reduceIte, Nat.reduceEqDiff, Nat.reduceAdd, Nat.reduceLeDiff, reduceCtorEq, Nat.reduceMul, Int.reduceToNat, hb6, s16t23, s16m2, s16m3, s16z5, s16f2, s16f3, s16f21, s16f22, hb20, sn])
                all_goals (first | done | rfl | (simp only [AV.c.injEq, C.int.injEq, List.cons.injEq, and_true, true_and]; omega))
              · (try simp only [q0, kz, kv, ka, kf, km, y_and, rwR, enR, csR, tyf, Nat.reduceBEq, reduceIte, Nat.reduceEqDiff, Nat.reduceAdd, Nat.reduceLeDiff, reduceCtorEq, Nat.reduceMul, Int.reduceToNat, hb6, s16t23, s16m2, s16m3, s16z5, s16f2, s16f3, s16f21, s16f22, hb20, sn])
                all_goals (first | done | rfl | (simp only [AV.c.injEq, C.int.injEq, List.cons.injEq, and_true, true_and]; omega))
              · (try simp only [q0, kz, kv, ka, kf, km, y_and, rwR, enR, csR, tyf, Nat.reduceBEq, reduceIte, Nat.reduceEqDiff, Nat.reduceAdd, Nat.reduceLeDiff, reduceCtorEq, Nat.reduceMul, Int.reduceToNat, hb6, s16t23, s16m2, s16m3, s16z5, s16f2, s16f3, s16f21, s16f22, hb20, sn])
                all_goals (first | done | rfl | (simp only [AV.c.injEq, C.int.injEq, List.cons.injEq, and_true, true_and]; omega))
          case b20 =>
            have hp20 := hb20
            try simp only [kb] at hp20
            all_goals try exact absurd hb20 (by decide)
            all_goals try (exfalso; omega)
            all_goals
              refine awp_exit ?_
              simp only [rk_state, reduceIte, Nat.reduceEqDiff]
              try simp only [rk_state]
              refine hK13 _ ?_
              as_aux_lemma =>
                refine awp_seq_k fun K29 hK29 => ?_
                refine awp_region_lit fun L30 hL30 => ?_
                refine aops_orunN 2 _ _ ?_
                simp only [q0, kz, kv, ka, kf, km, y_and, rwR, enR, csR, tyf, Nat.reduceBEq, reduceIte, Nat.reduceEqDiff, Nat.reduceAdd, Nat.reduceLeDiff, reduceCtorEq, Nat.reduceMul, Int.reduceToNat, hb6, s16t23, s16m2, s16m3, s16z5, s16f2, s16f3, s16f21, s16f22, hb20]
                refine aops_nil (hL30 _ ?_)
                simp only [q0, kz, kv, ka, kf, km, y_and, rwR, enR, csR, tyf, Nat.reduceBEq, reduceIte, Nat.reduceEqDiff, Nat.reduceAdd, Nat.reduceLeDiff, reduceCtorEq, Nat.reduceMul, Int.reduceToNat, hb6, s16t23, s16m2, s16m3, s16z5, s16f2, s16f3, s16f21, s16f22, hb20]
                try simp only [rk_state]
                refine hK29 _ ?_
                refine awp_ret ?_
                try simp only [rk_state]
                refine ⟨_, 0, by simp only [q0, kz, kv, ka, kf, km, y_and, rwR, enR, csR, tyf, Nat.reduceBEq, reduceIte, Nat.reduceEqDiff, Nat.reduceAdd, Nat.reduceLeDiff, reduceCtorEq, Nat.reduceMul, Int.reduceToNat, resA, Try.results27, hb6, s16t23, s16m2, s16m3, s16z5, s16f2, s16f3, s16f21, s16f22, hb20]; rfl, ?_, fun l hl => absurd rfl hl, fun l hl => absurd rfl hl⟩
                simp only [packA]
                first | (have e : ps = [] := by (apply List.eq_nil_of_length_eq_zero; omega)); subst e; simp only [avR]; (repeat' (first | exact .nil | exact wkR_c | exact wkR_own | exact wkR_nils | refine wkR_int ?_ | refine wkR_bool ?_ | refine wkR_sl ?_ | refine wkR_osl ?_ | refine wkR_nsl ?_ | refine wkR_oo ?_ | refine wkR_no ?_ | refine .cons ?_ ?_ | refine wkR_agg ?_ | refine wkR_tup ?_)); all_goals rfl | (have e : i = ps.length := by omega); subst e; rw [sumRef_eq ps hn hk (by omega)]; simp only [avR]; (repeat' (first | exact .nil | exact wkR_c | exact wkR_own | exact wkR_nils | refine wkR_int ?_ | refine wkR_bool ?_ | refine wkR_sl ?_ | refine wkR_osl ?_ | refine wkR_nsl ?_ | refine wkR_oo ?_ | refine wkR_no ?_ | refine .cons ?_ ?_ | refine wkR_agg ?_ | refine wkR_tup ?_))
set_option maxHeartbeats 4000000 in
set_option maxRecDepth 50000 in
theorem points_fun  : Fun Try.prog 92 [] nomem (.own false 0 34 (Rw Pt.cs pts3)) nomem := by
  refine fun_of_awp Try.func92 rfl (by decide +kernel) (by decide +kernel) (Nat.le_of_ble_eq_true rfl) (fun _ _ => rfl) (fun _ _ => rfl) ?_
  refine awp_seq_k fun K1 hK1 => ?_
  refine awp_region_lit fun L2 hL2 => ?_
  refine aops_orunN 1 _ _ ?_
  simp only [q0, kz, kv, ka, kf, km, y_and, rwR, enR, csR, tyf, Nat.reduceBEq, reduceIte, Nat.reduceEqDiff, Nat.reduceAdd, Nat.reduceLeDiff, reduceCtorEq, Nat.reduceMul, Int.reduceToNat]
  refine aops_nil (hL2 _ ?_)
  simp only [q0, kz, kv, ka, kf, km, y_and, rwR, enR, csR, tyf, Nat.reduceBEq, reduceIte, Nat.reduceEqDiff, Nat.reduceAdd, Nat.reduceLeDiff, reduceCtorEq, Nat.reduceMul, Int.reduceToNat]
  try simp only [rk_state]
  refine hK1 _ ?_
  refine awp_seq_k fun K3 hK3 => ?_
  refine awp_region_lit fun L4 hL4 => ?_
  refine aops_orunN 5 _ _ ?_
  simp only [q0, kz, kv, ka, kf, km, y_and, rwR, enR, csR, tyf, Nat.reduceBEq, reduceIte, Nat.reduceEqDiff, Nat.reduceAdd, Nat.reduceLeDiff, reduceCtorEq, Nat.reduceMul, Int.reduceToNat]
  refine aops_nil (hL4 _ ?_)
  simp only [q0, kz, kv, ka, kf, km, y_and, rwR, enR, csR, tyf, Nat.reduceBEq, reduceIte, Nat.reduceEqDiff, Nat.reduceAdd, Nat.reduceLeDiff, reduceCtorEq, Nat.reduceMul, Int.reduceToNat]
  try simp only [rk_state]
  refine hK3 _ ?_
  refine awp_ret ?_
  try simp only [rk_state]
  refine ⟨_, 0, by simp only [q0, kz, kv, ka, kf, km, y_and, rwR, enR, csR, tyf, Nat.reduceBEq, reduceIte, Nat.reduceEqDiff, Nat.reduceAdd, Nat.reduceLeDiff, reduceCtorEq, Nat.reduceMul, Int.reduceToNat, resA, Try.results92]; rfl, ?_, fun l hl => absurd rfl hl, fun l hl => absurd rfl hl⟩
  simp only [packA]
  exact wkR_own
set_option maxHeartbeats 4000000 in
set_option maxRecDepth 50000 in
theorem added_fun  : Fun Try.prog 25 [] nomem (.c (.bool true)) nomem := by
  refine fun_of_awp Try.func25 rfl (by decide +kernel) (by decide +kernel) (Nat.le_of_ble_eq_true rfl) (fun _ _ => rfl) (fun _ _ => rfl) ?_
  refine awp_seq_k fun K1 hK1 => ?_
  refine awp_region_lit fun L2 hL2 => ?_
  refine aops_orunN 1 _ _ ?_
  simp only [q0, kz, kv, ka, kf, km, y_and, rwR, enR, csR, tyf, Nat.reduceBEq, reduceIte, Nat.reduceEqDiff, Nat.reduceAdd, Nat.reduceLeDiff, reduceCtorEq, Nat.reduceMul, Int.reduceToNat]
  refine aops_nil (hL2 _ ?_)
  simp only [q0, kz, kv, ka, kf, km, y_and, rwR, enR, csR, tyf, Nat.reduceBEq, reduceIte, Nat.reduceEqDiff, Nat.reduceAdd, Nat.reduceLeDiff, reduceCtorEq, Nat.reduceMul, Int.reduceToNat]
  try simp only [rk_state]
  refine hK1 _ ?_
  refine awp_seq_k fun K3 hK3 => ?_
  have s1 : sumOf pts3 = ⟨3, 5, 7, 17⟩ := by decide +kernel
  refine awp_region_lit fun L4 hL4 => ?_
  refine aops_call_own points_fun rfl rfl rfl rfl (by (try simp only [q0, kz, kv, ka, kf, km, y_and, rwR, enR, csR, tyf, Nat.reduceBEq, reduceIte, Nat.reduceEqDiff, Nat.reduceAdd, Nat.reduceLeDiff, reduceCtorEq, Nat.reduceMul, Int.reduceToNat, s1]); (repeat' (first | exact .nil | exact wk_c | exact wk_ownc | exact wk_nilsc | exact wk_nils | exact wk_fn | refine .cons ?_ ?_ | refine wk_agg ?_ | refine wk_fnL ?_))) rfl rfl rfl (by simp only [q0, kz, kv, ka, kf, km, y_and, rwR, enR, csR, tyf, Nat.reduceBEq, reduceIte, Nat.reduceEqDiff, Nat.reduceAdd, Nat.reduceLeDiff, reduceCtorEq, Nat.reduceMul, Int.reduceToNat, s1]) ?_
  simp only [q0, kz, kv, ka, kf, km, y_and, rwR, enR, csR, tyf, Nat.reduceBEq, reduceIte, Nat.reduceEqDiff, Nat.reduceAdd, Nat.reduceLeDiff, reduceCtorEq, Nat.reduceMul, Int.reduceToNat, AV.setOwn, AV.setOwn1, s1]
  refine aops_call (of_fun _ ?s6_0) rfl rfl rfl rfl (by (try simp only [q0, kz, kv, ka, kf, km, y_and, rwR, enR, csR, tyf, Nat.reduceBEq, reduceIte, Nat.reduceEqDiff, Nat.reduceAdd, Nat.reduceLeDiff, reduceCtorEq, Nat.reduceMul, Int.reduceToNat, s1]); (repeat' (first | exact .nil | exact wk_c | exact wk_ownc | exact wk_nilsc | exact wk_nils | exact wk_fn | refine .cons ?_ ?_ | refine wk_agg ?_ | refine wk_fnL ?_))) rfl rfl ?m6
  case s6_0 => first | assumption | omega | decide +kernel | (simp only [List.length_take, List.length_drop]; omega)
  simp only [q0, kz, kv, ka, kf, km, y_and, rwR, enR, csR, tyf, Nat.reduceBEq, reduceIte, Nat.reduceEqDiff, Nat.reduceAdd, Nat.reduceLeDiff, reduceCtorEq, Nat.reduceMul, Int.reduceToNat, avR, s1]
  refine aops_orunN 2 _ _ ?_
  simp only [q0, kz, kv, ka, kf, km, y_and, rwR, enR, csR, tyf, Nat.reduceBEq, reduceIte, Nat.reduceEqDiff, Nat.reduceAdd, Nat.reduceLeDiff, reduceCtorEq, Nat.reduceMul, Int.reduceToNat, s1]
  refine aops_nil (hL4 _ ?_)
  simp only [q0, kz, kv, ka, kf, km, y_and, rwR, enR, csR, tyf, Nat.reduceBEq, reduceIte, Nat.reduceEqDiff, Nat.reduceAdd, Nat.reduceLeDiff, reduceCtorEq, Nat.reduceMul, Int.reduceToNat, s1]
  try simp only [rk_state]
  refine hK3 _ ?_
  refine awp_seq_k fun K7 hK7 => ?_
  have s2 : sumOf [] = ⟨0, 0, 0, 0⟩ := rfl
  have s3 : join ⟨3, 5, 7, 17⟩ ⟨0, 0, 0, 0⟩ = ⟨3, 5, 7, 17⟩ := by decide +kernel
  have s4 : ([3, 5, 7, 17] = [(3 : Int), 5, 7, 17]) = True := by simp
  have s5 : ([0, 0, 0, 0] = [(0 : Int), 0, 0, 0]) = True := by simp
  refine awp_region_dr (by decide +kernel) fun L8 hL8 => ?_
  refine aops_orunN 2 _ _ ?_
  simp only [q0, kz, kv, ka, kf, km, y_and, rwR, enR, csR, tyf, Nat.reduceBEq, reduceIte, Nat.reduceEqDiff, Nat.reduceAdd, Nat.reduceLeDiff, reduceCtorEq, Nat.reduceMul, Int.reduceToNat, s1, s2, s3, s4, s5]
  refine aops_eq (xs := ?xs9) (ys := ?ys9) eqi24 rfl rfl (by decide) ?hx9 ?hy9 ?hn9 ?hm9 ?hh9
  case hx9 => simp only [q0, kz, kv, ka, kf, km, y_and, rwR, enR, csR, tyf, Nat.reduceBEq, reduceIte, Nat.reduceEqDiff, Nat.reduceAdd, Nat.reduceLeDiff, reduceCtorEq, Nat.reduceMul, Int.reduceToNat, AV.ints, intsOf, s1, s2, s3, s4, s5]; rfl
  case hy9 => simp only [q0, kz, kv, ka, kf, km, y_and, rwR, enR, csR, tyf, Nat.reduceBEq, reduceIte, Nat.reduceEqDiff, Nat.reduceAdd, Nat.reduceLeDiff, reduceCtorEq, Nat.reduceMul, Int.reduceToNat, AV.ints, intsOf, s1, s2, s3, s4, s5]; rfl
  case hn9 => rfl
  case hm9 => rfl
  simp only [q0, kz, kv, ka, kf, km, y_and, rwR, enR, csR, tyf, Nat.reduceBEq, reduceIte, Nat.reduceEqDiff, Nat.reduceAdd, Nat.reduceLeDiff, reduceCtorEq, Nat.reduceMul, Int.reduceToNat, s1, s2, s3, s4, s5]
  refine aops_orunN 1 _ _ ?_
  simp only [q0, kz, kv, ka, kf, km, y_and, rwR, enR, csR, tyf, Nat.reduceBEq, reduceIte, Nat.reduceEqDiff, Nat.reduceAdd, Nat.reduceLeDiff, reduceCtorEq, Nat.reduceMul, Int.reduceToNat, s1, s2, s3, s4, s5]
  refine aops_part (b := ?p10) 7 ?h10 (fun hb10 => ?a10) (fun hb10 => ?b10)
  case h10 => simp only [q0, kz, kv, ka, kf, km, y_and, rwR, enR, csR, tyf, Nat.reduceBEq, reduceIte, Nat.reduceEqDiff, Nat.reduceAdd, Nat.reduceLeDiff, reduceCtorEq, Nat.reduceMul, Int.reduceToNat, s1, s2, s3, s4, s5]; rfl
  case a10 =>
    have hp10 := hb10
    try simp only [kb] at hp10
    all_goals try exact absurd hb10 (by decide)
    all_goals try (exfalso; omega)
    all_goals
      try simp only [hb10]
      refine aops_call (of_fun [] (by simp)) (by simp only [q0, kz, kv, ka, kf, km, y_and, rwR, enR, csR, tyf, Nat.reduceBEq, reduceIte, Nat.reduceEqDiff, Nat.reduceAdd, Nat.reduceLeDiff, reduceCtorEq, Nat.reduceMul, Int.reduceToNat, s1, s2, s3, s4, s5, hb10]) rfl rfl rfl (by (try simp only [q0, kz, kv, ka, kf, km, y_and, rwR, enR, csR, tyf, Nat.reduceBEq, reduceIte, Nat.reduceEqDiff, Nat.reduceAdd, Nat.reduceLeDiff, reduceCtorEq, Nat.reduceMul, Int.reduceToNat, s1, s2, s3, s4, s5, hb10]); (repeat' (first | exact .nil | exact wk_c | exact wk_ownc | exact wk_nilsc | exact wk_nils | exact wk_fn | refine .cons ?_ ?_ | refine wk_agg ?_ | refine wk_fnL ?_))) rfl rfl ?_
      simp only [q0, kz, kv, ka, kf, km, y_and, rwR, enR, csR, tyf, Nat.reduceBEq, reduceIte, Nat.reduceEqDiff, Nat.reduceAdd, Nat.reduceLeDiff, reduceCtorEq, Nat.reduceMul, Int.reduceToNat, avR, s1, s2, s3, s4, s5, hb10]
      refine aops_orunN 1 _ _ ?_
      simp only [q0, kz, kv, ka, kf, km, y_and, rwR, enR, csR, tyf, Nat.reduceBEq, reduceIte, Nat.reduceEqDiff, Nat.reduceAdd, Nat.reduceLeDiff, reduceCtorEq, Nat.reduceMul, Int.reduceToNat, s1, s2, s3, s4, s5, hb10]
      refine aops_eq (xs := ?xs12) (ys := ?ys12) eqi24 (by simp only [q0, kz, kv, ka, kf, km, y_and, rwR, enR, csR, tyf, Nat.reduceBEq, reduceIte, Nat.reduceEqDiff, Nat.reduceAdd, Nat.reduceLeDiff, reduceCtorEq, Nat.reduceMul, Int.reduceToNat, s1, s2, s3, s4, s5, hb10]) rfl (by decide) ?hx12 ?hy12 ?hn12 ?hm12 ?hh12
      case hx12 => simp only [q0, kz, kv, ka, kf, km, y_and, rwR, enR, csR, tyf, Nat.reduceBEq, reduceIte, Nat.reduceEqDiff, Nat.reduceAdd, Nat.reduceLeDiff, reduceCtorEq, Nat.reduceMul, Int.reduceToNat, AV.ints, intsOf, s1, s2, s3, s4, s5, hb10]; rfl
      case hy12 => simp only [q0, kz, kv, ka, kf, km, y_and, rwR, enR, csR, tyf, Nat.reduceBEq, reduceIte, Nat.reduceEqDiff, Nat.reduceAdd, Nat.reduceLeDiff, reduceCtorEq, Nat.reduceMul, Int.reduceToNat, AV.ints, intsOf, s1, s2, s3, s4, s5, hb10]; rfl
      case hn12 => rfl
      case hm12 => rfl
      simp only [q0, kz, kv, ka, kf, km, y_and, rwR, enR, csR, tyf, Nat.reduceBEq, reduceIte, Nat.reduceEqDiff, Nat.reduceAdd, Nat.reduceLeDiff, reduceCtorEq, Nat.reduceMul, Int.reduceToNat, s1, s2, s3, s4, s5, hb10]
      refine aops_orunN 2 _ _ ?_
      simp only [q0, kz, kv, ka, kf, km, y_and, rwR, enR, csR, tyf, Nat.reduceBEq, reduceIte, Nat.reduceEqDiff, Nat.reduceAdd, Nat.reduceLeDiff, reduceCtorEq, Nat.reduceMul, Int.reduceToNat, s1, s2, s3, s4, s5, hb10]
      refine aops_part (b := ?p13) 12 ?h13 (fun hb13 => ?a13) (fun hb13 => ?b13)
      case h13 => simp only [q0, kz, kv, ka, kf, km, y_and, rwR, enR, csR, tyf, Nat.reduceBEq, reduceIte, Nat.reduceEqDiff, Nat.reduceAdd, Nat.reduceLeDiff, reduceCtorEq, Nat.reduceMul, Int.reduceToNat, s1, s2, s3, s4, s5, hb10]; rfl
      case a13 =>
        have hp13 := hb13
        try simp only [kb] at hp13
        all_goals try exact absurd hb13 (by decide)
        all_goals try (exfalso; omega)
        all_goals
          try simp only [hb13]
          refine aops_orunN 2 _ _ ?_
          simp only [q0, kz, kv, ka, kf, km, y_and, rwR, enR, csR, tyf, Nat.reduceBEq, reduceIte, Nat.reduceEqDiff, Nat.reduceAdd, Nat.reduceLeDiff, reduceCtorEq, Nat.reduceMul, Int.reduceToNat, s1, s2, s3, s4, s5, hb10, hb13]
          refine aops_call (join_fun _ _ _ _ _ _ _ _) (by simp only [q0, kz, kv, ka, kf, km, y_and, rwR, enR, csR, tyf, Nat.reduceBEq, reduceIte, Nat.reduceEqDiff, Nat.reduceAdd, Nat.reduceLeDiff, reduceCtorEq, Nat.reduceMul, Int.reduceToNat, s1, s2, s3, s4, s5, hb10, hb13]) rfl rfl rfl (by (try simp only [q0, kz, kv, ka, kf, km, y_and, rwR, enR, csR, tyf, Nat.reduceBEq, reduceIte, Nat.reduceEqDiff, Nat.reduceAdd, Nat.reduceLeDiff, reduceCtorEq, Nat.reduceMul, Int.reduceToNat, s1, s2, s3, s4, s5, hb10, hb13]); (repeat' (first | exact .nil | exact wk_c | exact wk_ownc | exact wk_nilsc | exact wk_nils | exact wk_fn | refine .cons ?_ ?_ | refine wk_agg ?_ | refine wk_fnL ?_))) rfl rfl ?_
          simp only [q0, kz, kv, ka, kf, km, y_and, rwR, enR, csR, tyf, Nat.reduceBEq, reduceIte, Nat.reduceEqDiff, Nat.reduceAdd, Nat.reduceLeDiff, reduceCtorEq, Nat.reduceMul, Int.reduceToNat, avR, s1, s2, s3, s4, s5, hb10, hb13]
          refine aops_orunN 1 _ _ ?_
          simp only [q0, kz, kv, ka, kf, km, y_and, rwR, enR, csR, tyf, Nat.reduceBEq, reduceIte, Nat.reduceEqDiff, Nat.reduceAdd, Nat.reduceLeDiff, reduceCtorEq, Nat.reduceMul, Int.reduceToNat, s1, s2, s3, s4, s5, hb10, hb13]
          refine aops_eq (xs := ?xs15) (ys := ?ys15) eqi24 (by simp only [q0, kz, kv, ka, kf, km, y_and, rwR, enR, csR, tyf, Nat.reduceBEq, reduceIte, Nat.reduceEqDiff, Nat.reduceAdd, Nat.reduceLeDiff, reduceCtorEq, Nat.reduceMul, Int.reduceToNat, s1, s2, s3, s4, s5, hb10, hb13]) rfl (by decide) ?hx15 ?hy15 ?hn15 ?hm15 ?hh15
          case hx15 => simp only [q0, kz, kv, ka, kf, km, y_and, rwR, enR, csR, tyf, Nat.reduceBEq, reduceIte, Nat.reduceEqDiff, Nat.reduceAdd, Nat.reduceLeDiff, reduceCtorEq, Nat.reduceMul, Int.reduceToNat, AV.ints, intsOf, s1, s2, s3, s4, s5, hb10, hb13]; rfl
          case hy15 => simp only [q0, kz, kv, ka, kf, km, y_and, rwR, enR, csR, tyf, Nat.reduceBEq, reduceIte, Nat.reduceEqDiff, Nat.reduceAdd, Nat.reduceLeDiff, reduceCtorEq, Nat.reduceMul, Int.reduceToNat, AV.ints, intsOf, s1, s2, s3, s4, s5, hb10, hb13]; rfl
          case hn15 => rfl
          case hm15 => rfl
          simp only [q0, kz, kv, ka, kf, km, y_and, rwR, enR, csR, tyf, Nat.reduceBEq, reduceIte, Nat.reduceEqDiff, Nat.reduceAdd, Nat.reduceLeDiff, reduceCtorEq, Nat.reduceMul, Int.reduceToNat, s1, s2, s3, s4, s5, hb10, hb13]
          refine aops_orunN 2 _ _ ?_
          simp only [q0, kz, kv, ka, kf, km, y_and, rwR, enR, csR, tyf, Nat.reduceBEq, reduceIte, Nat.reduceEqDiff, Nat.reduceAdd, Nat.reduceLeDiff, reduceCtorEq, Nat.reduceMul, Int.reduceToNat, s1, s2, s3, s4, s5, hb10, hb13]
          refine aops_nil (hL8 _ ?_)
          simp only [q0, kz, kv, ka, kf, km, y_and, rwR, enR, csR, tyf, Nat.reduceBEq, reduceIte, Nat.reduceEqDiff, Nat.reduceAdd, Nat.reduceLeDiff, reduceCtorEq, Nat.reduceMul, Int.reduceToNat, s1, s2, s3, s4, s5, hb10, hb13]
          try simp only [rk_state]
          refine hK7 _ ?_
          as_aux_lemma =>
            refine awp_ret ?_
            try simp only [rk_state]
            refine ⟨_, 0, by simp only [q0, kz, kv, ka, kf, km, y_and, rwR, enR, csR, tyf, Nat.reduceBEq, reduceIte, Nat.reduceEqDiff, Nat.reduceAdd, Nat.reduceLeDiff, reduceCtorEq, Nat.reduceMul, Int.reduceToNat, resA, Try.results25, s1, s2, s3, s4, s5, hb10, hb13]; rfl, ?_, fun l hl => absurd rfl hl, fun l hl => absurd rfl hl⟩
            simp only [packA]
            (repeat' (first | exact .nil | exact wkR_c | exact wkR_own | exact wkR_nils | refine wkR_int ?_ | refine wkR_bool ?_ | refine wkR_sl ?_ | refine wkR_osl ?_ | refine wkR_nsl ?_ | refine wkR_oo ?_ | refine wkR_no ?_ | refine .cons ?_ ?_ | refine wkR_agg ?_ | refine wkR_tup ?_))
      case b13 =>
        have hp13 := hb13
        try simp only [kb] at hp13
        all_goals try exact absurd hb13 (by decide)
        all_goals try (exfalso; omega)
        all_goals
          try simp only [hb13]
          refine aops_orunN 7 _ _ ?_
          simp only [q0, kz, kv, ka, kf, km, y_and, rwR, enR, csR, tyf, Nat.reduceBEq, reduceIte, Nat.reduceEqDiff, Nat.reduceAdd, Nat.reduceLeDiff, reduceCtorEq, Nat.reduceMul, Int.reduceToNat, s1, s2, s3, s4, s5, hb10, hb13]
          try simp (disch := omega) only [dec_t, dec_f, beq_t, beq_f, bne_t, bne_f]
          try simp only [q0, kz, kv, ka, kf, km, y_and, rwR, enR, csR, tyf, Nat.reduceBEq, reduceIte, Nat.reduceEqDiff, Nat.reduceAdd, Nat.reduceLeDiff, reduceCtorEq, Nat.reduceMul, Int.reduceToNat, s1, s2, s3, s4, s5, hb10, hb13]
          refine aops_nil (hL8 _ ?_)
          simp only [q0, kz, kv, ka, kf, km, y_and, rwR, enR, csR, tyf, Nat.reduceBEq, reduceIte, Nat.reduceEqDiff, Nat.reduceAdd, Nat.reduceLeDiff, reduceCtorEq, Nat.reduceMul, Int.reduceToNat, s1, s2, s3, s4, s5, hb10, hb13]
          try simp only [rk_state]
          refine hK7 _ ?_
          refine awp_ret ?_
          try simp only [rk_state]
          refine ⟨_, 0, by simp only [q0, kz, kv, ka, kf, km, y_and, rwR, enR, csR, tyf, Nat.reduceBEq, reduceIte, Nat.reduceEqDiff, Nat.reduceAdd, Nat.reduceLeDiff, reduceCtorEq, Nat.reduceMul, Int.reduceToNat, resA, Try.results25, s1, s2, s3, s4, s5, hb10, hb13]; rfl, ?_, fun l hl => absurd rfl hl, fun l hl => absurd rfl hl⟩
          simp only [packA]
          (repeat' (first | exact .nil | exact wkR_c | exact wkR_own | exact wkR_nils | refine wkR_int ?_ | refine wkR_bool ?_ | refine wkR_sl ?_ | refine wkR_osl ?_ | refine wkR_nsl ?_ | refine wkR_oo ?_ | refine wkR_no ?_ | refine .cons ?_ ?_ | refine wkR_agg ?_ | refine wkR_tup ?_))
  case b10 =>
    have hp10 := hb10
    try simp only [kb] at hp10
    all_goals try exact absurd hb10 (by decide)
    all_goals try (exfalso; omega)
    all_goals
      try simp only [hb10]
      refine aops_orunN 12 _ _ ?_
      simp only [q0, kz, kv, ka, kf, km, y_and, rwR, enR, csR, tyf, Nat.reduceBEq, reduceIte, Nat.reduceEqDiff, Nat.reduceAdd, Nat.reduceLeDiff, reduceCtorEq, Nat.reduceMul, Int.reduceToNat, s1, s2, s3, s4, s5, hb10]
      try simp (disch := omega) only [dec_t, dec_f, beq_t, beq_f, bne_t, bne_f]
      try simp only [q0, kz, kv, ka, kf, km, y_and, rwR, enR, csR, tyf, Nat.reduceBEq, reduceIte, Nat.reduceEqDiff, Nat.reduceAdd, Nat.reduceLeDiff, reduceCtorEq, Nat.reduceMul, Int.reduceToNat, s1, s2, s3, s4, s5, hb10]
      refine aops_nil (hL8 _ ?_)
      simp only [q0, kz, kv, ka, kf, km, y_and, rwR, enR, csR, tyf, Nat.reduceBEq, reduceIte, Nat.reduceEqDiff, Nat.reduceAdd, Nat.reduceLeDiff, reduceCtorEq, Nat.reduceMul, Int.reduceToNat, s1, s2, s3, s4, s5, hb10]
      try simp only [rk_state]
      refine hK7 _ ?_
      refine awp_ret ?_
      try simp only [rk_state]
      refine ⟨_, 0, by simp only [q0, kz, kv, ka, kf, km, y_and, rwR, enR, csR, tyf, Nat.reduceBEq, reduceIte, Nat.reduceEqDiff, Nat.reduceAdd, Nat.reduceLeDiff, reduceCtorEq, Nat.reduceMul, Int.reduceToNat, resA, Try.results25, s1, s2, s3, s4, s5, hb10]; rfl, ?_, fun l hl => absurd rfl hl, fun l hl => absurd rfl hl⟩
      simp only [packA]
      (repeat' (first | exact .nil | exact wkR_c | exact wkR_own | exact wkR_nils | refine wkR_int ?_ | refine wkR_bool ?_ | refine wkR_sl ?_ | refine wkR_osl ?_ | refine wkR_nsl ?_ | refine wkR_oo ?_ | refine wkR_no ?_ | refine .cons ?_ ?_ | refine wkR_agg ?_ | refine wkR_tup ?_))
end Go.Proofs.Y
