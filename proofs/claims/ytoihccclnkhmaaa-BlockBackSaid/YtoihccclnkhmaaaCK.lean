/-
  What is proved: when points are some: what line.Check computes. Conditions: none.
-/
import Derived.Test.YtoihccclnkhmaaaTy
import Derived.Test.YtoihccclnkhmaaaPA
set_option linter.unusedVariables false
set_option linter.unusedSimpArgs false
set_option maxRecDepth 4000
namespace Go.Proofs.Y
open Go.Rb
set_option maxHeartbeats 4000000 in
set_option maxRecDepth 50000 in
theorem check_fun (ps : List Pt) : Fun Try.prog 31 [.c (.sl 34 (Rw Pt.cs ps))] nomem (.c (.int .i64 (checkL ps))) nomem := by
 refine fun_of_awp Try.func31 rfl (by decide +kernel) (by decide +kernel) (Nat.le_of_ble_eq_true rfl) (fun _ _ => rfl) (fun _ _ => rfl) ?_
 refine seq_reg 1 fun L1 hL1 => ?_
 simp only [qq, seval, -Nat.reducePow, reduceIte, reduceCtorEq]
 refine nil_z hL1 ?_
 refine awp_seq_k fun K2 hK2 => ?_
 refine seq_reg 3 fun L3 hL3 => ?_
 simp only [qq, seval, -Nat.reducePow, reduceIte, reduceCtorEq]
 refine nil_z hL3 ?_
 refine awp_cond (t := ?t4) ?h4 (fun hb4 => ?a4) (fun hb4 => ?b4)
 case h4 => simp only [qq, seval, -Nat.reducePow, reduceIte, reduceCtorEq]; rfl
 case a4 =>
  have hp4 := hb4
  try simp only [kb] at hp4
  refine seq_reg 1 fun L5 hL5 => ?_
  simp only [qq, seval, -Nat.reducePow, reduceIte, reduceCtorEq, hb4]
  refine nil_z hL5 ?_
  as_aux_lemma =>
   refine awp_ret ?_
   try simp only [rk_state]
   refine ⟨_, 0, by simp only [qq, seval, -Nat.reducePow, reduceIte, reduceCtorEq, resA, Try.results31, hb4]; rfl, ?_, nomem_a, nomem_a⟩
   simp only [packA]
   (repeat' (first | exact .nil | exact wkR_c | exact wkR_own | exact wkR_nils | refine wkR_int ?_ | refine wkR_bool ?_ | refine wkR_sl ?_ | refine wkR_osl ?_ | refine wkR_nsl ?_ | refine wkR_oo ?_ | refine wkR_no ?_ | refine .cons ?_ ?_ | refine wkR_agg ?_ | refine wkR_tup ?_)) <;> (unfold checkL; first | rw [if_pos (by omega)] | (rw [if_neg (by omega), ← hq4_1]; first | (rw [hst, if_pos (by omega)]) | (rw [hst, if_neg (by omega), if_pos (by unfold lastT; rw [if_neg (by omega)]; omega)]) | (rw [List.drop_of_length_le (by omega)]; rfl)))
 case b4 =>
  have hp4 := hb4
  try simp only [kb] at hp4
  refine awp_skip ?_
  refine hK2 _ ?_
  refine awp_seq_k fun K6 hK6 => ?_
  refine seq_reg 3 fun L7 hL7 => ?_
  simp only [qq, seval, -Nat.reducePow, reduceIte, reduceCtorEq, hb4]
  refine nil_z hL7 ?_
  refine awp_block ?_
  refine awp_loopW (W := [11, 12, 13, 14, 4, 3, 15, 16, 17, 18, 19, 20, 21, 22, 23, 24, 25, 26, 27, 28, 29, 30, 31, 32, 2, 33, 34, 35, 36, 37, 38, 39, 40, 41, 42, 43, 44, 45, 2, 46, 10]) (M := [4]) rfl rfl (fun kk s => ∃ (i : Nat), kk = ps.length - i ∧ (i ≤ ps.length) ∧ (chk (lastT ps i) (ps.drop i) = chk (-1) ps) ∧ s.t 10 = .c (.int .i64 (i : Int)) ∧ s.m 4 = []) ((fun (i : Nat) => ps.length - i) (0)) ?i8 ?r8
  case i8 =>
   refine ⟨0, rfl, ?_, ?_, ?_, ?_⟩
   · omega
   · rfl
   · (try simp only [qq, seval, -Nat.reducePow, reduceIte, reduceCtorEq, hb4])
     all_goals (first | done | rfl | (simp only [AV.c.injEq, C.int.injEq, List.cons.injEq, and_true, true_and]; omega))
   · (try simp only [qq, seval, -Nat.reducePow, reduceIte, reduceCtorEq, hb4])
     all_goals (first | done | rfl | (simp only [AV.c.injEq, C.int.injEq, List.cons.injEq, and_true, true_and]; omega))
  case r8 =>
   rintro kk s hf ⟨i, rfl, hq4_0, hq4_1, s8t10, s8z4⟩ K8 hK8
   have s8f0 := hf 0 rfl (by (try simp only [qq, seval, -Nat.reducePow, reduceIte, reduceCtorEq, kn, hb4]); all_goals rfl)
   simp only [qq, seval, -Nat.reducePow, reduceIte, reduceCtorEq, hb4] at s8f0
   have s8f8 := hf 8 rfl (by (try simp only [qq, seval, -Nat.reducePow, reduceIte, reduceCtorEq, kn, hb4]); all_goals rfl)
   simp only [qq, seval, -Nat.reducePow, reduceIte, reduceCtorEq, hb4] at s8f8
   have s8f9 := hf 9 rfl (by (try simp only [qq, seval, -Nat.reducePow, reduceIte, reduceCtorEq, kn, hb4]); all_goals rfl)
   simp only [qq, seval, -Nat.reducePow, reduceIte, reduceCtorEq, hb4] at s8f9
   clear hf
   refine seq_reg 1 fun L9 hL9 => ?_
   simp only [qq, seval, -Nat.reducePow, reduceIte, reduceCtorEq, hb4, s8t10, s8z4, s8f0, s8f8, s8f9]
   refine nil_z hL9 ?_
   refine awp_seq_k fun K10 hK10 => ?_
   refine awp_cond (t := ?t11) ?h11 (fun hb11 => ?a11) (fun hb11 => ?b11)
   case h11 => simp only [qq, seval, -Nat.reducePow, reduceIte, reduceCtorEq, hb4, s8t10, s8z4, s8f0, s8f8, s8f9]; rfl
   case a11 =>
    have hp11 := hb11
    try simp only [kb] at hp11
    refine awp_skip ?_
    refine hK10 _ ?_
    refine awp_seq_k fun K12 hK12 => ?_
    refine awp_block ?_
    have hst := chk_step (l := ps) (i := i) (by omega)
    refine seq_reg 1 fun L13 hL13 => ?_
    simp only [qq, seval, -Nat.reducePow, reduceIte, reduceCtorEq, hb4, s8t10, s8z4, s8f0, s8f8, s8f9, hb11]
    refine aops_val (v := ?v14) rfl ?h14 ?_
    case h14 => simp only [qq, seval, -Nat.reducePow, reduceIte, reduceCtorEq, hb4, s8t10, s8z4, s8f0, s8f8, s8f9, hb11]; first | (rw [idx_c un22 if34] <;> omega) | (rw [idx_o un22 if34] <;> omega) | (rw [idx_a un22 if34] <;> omega)
    simp only [qq, seval, -Nat.reducePow, reduceIte, reduceCtorEq, hb4, s8t10, s8z4, s8f0, s8f8, s8f9, hb11]
    refine aops_orunN 4 _ _ ?_
    simp only [qq, seval, -Nat.reducePow, reduceIte, reduceCtorEq, hb4, s8t10, s8z4, s8f0, s8f8, s8f9, hb11]
    refine nil_z hL13 ?_
    as_aux_lemma =>
     refine awp_seq_k fun K15 hK15 => ?_
     refine seq_reg 4 fun L16 hL16 => ?_
     simp only [qq, seval, -Nat.reducePow, reduceIte, reduceCtorEq, hb4, s8t10, s8z4, s8f0, s8f8, s8f9, hb11]
     refine aops_part (b := ?p17) 18 ?h17 (fun hb17 => ?a17) (fun hb17 => ?b17)
     case h17 => simp only [qq, seval, -Nat.reducePow, reduceIte, reduceCtorEq, hb4, s8t10, s8z4, s8f0, s8f8, s8f9, hb11]; rfl
     case a17 =>
      have hp17 := hb17
      try simp only [kb] at hp17
      try simp only [hb17]
      refine aops_orunN 14 _ _ ?_
      simp only [qq, seval, -Nat.reducePow, reduceIte, reduceCtorEq, hb4, s8t10, s8z4, s8f0, s8f8, s8f9, hb11, hb17]
      refine nil_z hL16 ?_
      refine awp_cond (t := true) (by simp only [qq, seval, -Nat.reducePow, reduceIte, reduceCtorEq, hb4, s8t10, s8z4, s8f0, s8f8, s8f9, hb11, hb17]) (fun _ => ?_) (fun h => ?_)
      case refine_2 => cases h
      refine seq_reg 1 fun L18 hL18 => ?_
      simp only [qq, seval, -Nat.reducePow, reduceIte, reduceCtorEq, hb4, s8t10, s8z4, s8f0, s8f8, s8f9, hb11, hb17]
      refine nil_z hL18 ?_
      refine awp_ret ?_
      try simp only [rk_state]
      refine ⟨_, 0, by simp only [qq, seval, -Nat.reducePow, reduceIte, reduceCtorEq, resA, Try.results31, hb4, s8t10, s8z4, s8f0, s8f8, s8f9, hb11, hb17]; rfl, ?_, nomem_a, nomem_a⟩
      simp only [packA]
      (repeat' (first | exact .nil | exact wkR_c | exact wkR_own | exact wkR_nils | refine wkR_int ?_ | refine wkR_bool ?_ | refine wkR_sl ?_ | refine wkR_osl ?_ | refine wkR_nsl ?_ | refine wkR_oo ?_ | refine wkR_no ?_ | refine .cons ?_ ?_ | refine wkR_agg ?_ | refine wkR_tup ?_)) <;> (unfold checkL; first | rw [if_pos (by omega)] | (rw [if_neg (by omega), ← hq4_1]; first | (rw [hst, if_pos (by omega)]) | (rw [hst, if_neg (by omega), if_pos (by unfold lastT; rw [if_neg (by omega)]; omega)]) | (rw [List.drop_of_length_le (by omega)]; rfl)))
     case b17 =>
      have hp17 := hb17
      try simp only [kb] at hp17
      try simp only [hb17]
      refine aops_orunN 5 _ _ ?_
      simp only [qq, seval, -Nat.reducePow, reduceIte, reduceCtorEq, hb4, s8t10, s8z4, s8f0, s8f8, s8f9, hb11, hb17]
      refine aops_part (b := ?p19) 23 ?h19 (fun hb19 => ?a19) (fun hb19 => ?b19)
      case h19 => simp only [qq, seval, -Nat.reducePow, reduceIte, reduceCtorEq, hb4, s8t10, s8z4, s8f0, s8f8, s8f9, hb11, hb17]; rfl
      case a19 =>
       have hp19 := hb19
       try simp only [kb] at hp19
       try simp only [hb19]
       refine aops_orunN 9 _ _ ?_
       simp only [qq, seval, -Nat.reducePow, reduceIte, reduceCtorEq, hb4, s8t10, s8z4, s8f0, s8f8, s8f9, hb11, hb17, hb19]
       refine nil_z hL16 ?_
       refine awp_cond (t := true) (by simp only [qq, seval, -Nat.reducePow, reduceIte, reduceCtorEq, hb4, s8t10, s8z4, s8f0, s8f8, s8f9, hb11, hb17, hb19]) (fun _ => ?_) (fun h => ?_)
       case refine_2 => cases h
       refine seq_reg 1 fun L20 hL20 => ?_
       simp only [qq, seval, -Nat.reducePow, reduceIte, reduceCtorEq, hb4, s8t10, s8z4, s8f0, s8f8, s8f9, hb11, hb17, hb19]
       refine nil_z hL20 ?_
       as_aux_lemma =>
        refine awp_ret ?_
        try simp only [rk_state]
        refine ⟨_, 0, by simp only [qq, seval, -Nat.reducePow, reduceIte, reduceCtorEq, resA, Try.results31, hb4, s8t10, s8z4, s8f0, s8f8, s8f9, hb11, hb17, hb19]; rfl, ?_, nomem_a, nomem_a⟩
        simp only [packA]
        (repeat' (first | exact .nil | exact wkR_c | exact wkR_own | exact wkR_nils | refine wkR_int ?_ | refine wkR_bool ?_ | refine wkR_sl ?_ | refine wkR_osl ?_ | refine wkR_nsl ?_ | refine wkR_oo ?_ | refine wkR_no ?_ | refine .cons ?_ ?_ | refine wkR_agg ?_ | refine wkR_tup ?_)) <;> (unfold checkL; first | rw [if_pos (by omega)] | (rw [if_neg (by omega), ← hq4_1]; first | (rw [hst, if_pos (by omega)]) | (rw [hst, if_neg (by omega), if_pos (by unfold lastT; rw [if_neg (by omega)]; omega)]) | (rw [List.drop_of_length_le (by omega)]; rfl)))
      case b19 =>
       have hp19 := hb19
       try simp only [kb] at hp19
       try simp only [hb19]
       refine aops_orunN 5 _ _ ?_
       simp only [qq, seval, -Nat.reducePow, reduceIte, reduceCtorEq, hb4, s8t10, s8z4, s8f0, s8f8, s8f9, hb11, hb17, hb19]
       refine aops_part (b := ?p21) 28 ?h21 (fun hb21 => ?a21) (fun hb21 => ?b21)
       case h21 => simp only [qq, seval, -Nat.reducePow, reduceIte, reduceCtorEq, hb4, s8t10, s8z4, s8f0, s8f8, s8f9, hb11, hb17, hb19]; rfl
       case a21 =>
        have hp21 := hb21
        try simp only [kb] at hp21
        try simp only [hb21]
        refine aops_orunN 4 _ _ ?_
        simp only [qq, seval, -Nat.reducePow, reduceIte, reduceCtorEq, hb4, s8t10, s8z4, s8f0, s8f8, s8f9, hb11, hb17, hb19, hb21]
        refine nil_z hL16 ?_
        refine awp_cond (t := true) (by simp only [qq, seval, -Nat.reducePow, reduceIte, reduceCtorEq, hb4, s8t10, s8z4, s8f0, s8f8, s8f9, hb11, hb17, hb19, hb21]) (fun _ => ?_) (fun h => ?_)
        case refine_2 => cases h
        refine seq_reg 1 fun L22 hL22 => ?_
        simp only [qq, seval, -Nat.reducePow, reduceIte, reduceCtorEq, hb4, s8t10, s8z4, s8f0, s8f8, s8f9, hb11, hb17, hb19, hb21]
        refine nil_z hL22 ?_
        refine awp_ret ?_
        try simp only [rk_state]
        refine ⟨_, 0, by simp only [qq, seval, -Nat.reducePow, reduceIte, reduceCtorEq, resA, Try.results31, hb4, s8t10, s8z4, s8f0, s8f8, s8f9, hb11, hb17, hb19, hb21]; rfl, ?_, nomem_a, nomem_a⟩
        simp only [packA]
        (repeat' (first | exact .nil | exact wkR_c | exact wkR_own | exact wkR_nils | refine wkR_int ?_ | refine wkR_bool ?_ | refine wkR_sl ?_ | refine wkR_osl ?_ | refine wkR_nsl ?_ | refine wkR_oo ?_ | refine wkR_no ?_ | refine .cons ?_ ?_ | refine wkR_agg ?_ | refine wkR_tup ?_)) <;> (unfold checkL; first | rw [if_pos (by omega)] | (rw [if_neg (by omega), ← hq4_1]; first | (rw [hst, if_pos (by omega)]) | (rw [hst, if_neg (by omega), if_pos (by unfold lastT; rw [if_neg (by omega)]; omega)]) | (rw [List.drop_of_length_le (by omega)]; rfl)))
       case b21 =>
        have hp21 := hb21
        try simp only [kb] at hp21
        try simp only [hb21]
        refine aops_orunN 4 _ _ ?_
        simp only [qq, seval, -Nat.reducePow, reduceIte, reduceCtorEq, hb4, s8t10, s8z4, s8f0, s8f8, s8f9, hb11, hb17, hb19, hb21]
        refine nil_z hL16 ?_
        refine awp_cond (t := ?t23) ?h23 (fun hb23 => ?a23) (fun hb23 => ?b23)
        case h23 => simp only [qq, seval, -Nat.reducePow, reduceIte, reduceCtorEq, hb4, s8t10, s8z4, s8f0, s8f8, s8f9, hb11, hb17, hb19, hb21]; rfl
        case a23 =>
         have hp23 := hb23
         try simp only [kb] at hp23
         refine seq_reg 1 fun L24 hL24 => ?_
         simp only [qq, seval, -Nat.reducePow, reduceIte, reduceCtorEq, hb4, s8t10, s8z4, s8f0, s8f8, s8f9, hb11, hb17, hb19, hb21, hb23]
         refine nil_z hL24 ?_
         refine awp_ret ?_
         try simp only [rk_state]
         refine ⟨_, 0, by simp only [qq, seval, -Nat.reducePow, reduceIte, reduceCtorEq, resA, Try.results31, hb4, s8t10, s8z4, s8f0, s8f8, s8f9, hb11, hb17, hb19, hb21, hb23]; rfl, ?_, nomem_a, nomem_a⟩
         simp only [packA]
         (repeat' (first | exact .nil | exact wkR_c | exact wkR_own | exact wkR_nils | refine wkR_int ?_ | refine wkR_bool ?_ | refine wkR_sl ?_ | refine wkR_osl ?_ | refine wkR_nsl ?_ | refine wkR_oo ?_ | refine wkR_no ?_ | refine .cons ?_ ?_ | refine wkR_agg ?_ | refine wkR_tup ?_)) <;> (unfold checkL; first | rw [if_pos (by omega)] | (rw [if_neg (by omega), ← hq4_1]; first | (rw [hst, if_pos (by omega)]) | (rw [hst, if_neg (by omega), if_pos (by unfold lastT; rw [if_neg (by omega)]; omega)]) | (rw [List.drop_of_length_le (by omega)]; rfl)))
        case b23 =>
         have hp23 := hb23
         try simp only [kb] at hp23
         refine awp_skip ?_
         refine hK15 _ ?_
         have s9 : ((i : Int) - 1).toNat = i - 1 := by omega
         refine seq_regd 3 (by decide +kernel) fun L25 hL25 => ?_
         simp only [qq, seval, -Nat.reducePow, reduceIte, reduceCtorEq, hb4, s8t10, s8z4, s8f0, s8f8, s8f9, hb11, hb17, hb19, hb21, hb23, s9]
         refine aops_part (b := ?p26) 35 ?h26 (fun hb26 => ?a26) (fun hb26 => ?b26)
         case h26 => simp only [qq, seval, -Nat.reducePow, reduceIte, reduceCtorEq, hb4, s8t10, s8z4, s8f0, s8f8, s8f9, hb11, hb17, hb19, hb21, hb23, s9]; rfl
         case a26 =>
          have hp26 := hb26
          try simp only [kb] at hp26
          try simp only [hb26]
          refine aops_orunN 2 _ _ ?_
          simp only [qq, seval, -Nat.reducePow, reduceIte, reduceCtorEq, hb4, s8t10, s8z4, s8f0, s8f8, s8f9, hb11, hb17, hb19, hb21, hb23, s9, hb26]
          refine aops_val (v := ?v27) (by simp only [qq, seval, -Nat.reducePow, reduceIte, reduceCtorEq, hb4, s8t10, s8z4, s8f0, s8f8, s8f9, hb11, hb17, hb19, hb21, hb23, s9, hb26]) ?h27 ?_
          case h27 => simp only [qq, seval, -Nat.reducePow, reduceIte, reduceCtorEq, hb4, s8t10, s8z4, s8f0, s8f8, s8f9, hb11, hb17, hb19, hb21, hb23, s9, hb26]; first | (rw [wr_id] <;> omega) | rfl
          simp only [qq, seval, -Nat.reducePow, reduceIte, reduceCtorEq, hb4, s8t10, s8z4, s8f0, s8f8, s8f9, hb11, hb17, hb19, hb21, hb23, s9, hb26]
          refine aops_val (v := ?v28) (by simp only [qq, seval, -Nat.reducePow, reduceIte, reduceCtorEq, hb4, s8t10, s8z4, s8f0, s8f8, s8f9, hb11, hb17, hb19, hb21, hb23, s9, hb26]) ?h28 ?_
          case h28 => simp only [qq, seval, -Nat.reducePow, reduceIte, reduceCtorEq, hb4, s8t10, s8z4, s8f0, s8f8, s8f9, hb11, hb17, hb19, hb21, hb23, s9, hb26]; first | (rw [idx_c un22 if34] <;> omega) | (rw [idx_o un22 if34] <;> omega) | (rw [idx_a un22 if34] <;> omega)
          simp only [qq, seval, -Nat.reducePow, reduceIte, reduceCtorEq, hb4, s8t10, s8z4, s8f0, s8f8, s8f9, hb11, hb17, hb19, hb21, hb23, s9, hb26]
          refine aops_orunN 6 _ _ ?_
          simp only [qq, seval, -Nat.reducePow, reduceIte, reduceCtorEq, hb4, s8t10, s8z4, s8f0, s8f8, s8f9, hb11, hb17, hb19, hb21, hb23, s9, hb26]
          refine nil_z hL25 ?_
          as_aux_lemma =>
           refine awp_cond (t := ?t29) ?h29 (fun hb29 => ?a29) (fun hb29 => ?b29)
           case h29 => simp only [qq, seval, -Nat.reducePow, reduceIte, reduceCtorEq, hb4, s8t10, s8z4, s8f0, s8f8, s8f9, hb11, hb17, hb19, hb21, hb23, s9, hb26]; rfl
           case a29 =>
            have hp29 := hb29
            try simp only [kb] at hp29
            refine seq_reg 1 fun L30 hL30 => ?_
            simp only [qq, seval, -Nat.reducePow, reduceIte, reduceCtorEq, hb4, s8t10, s8z4, s8f0, s8f8, s8f9, hb11, hb17, hb19, hb21, hb23, s9, hb26, hb29]
            refine nil_z hL30 ?_
            refine awp_ret ?_
            try simp only [rk_state]
            refine ⟨_, 0, by simp only [qq, seval, -Nat.reducePow, reduceIte, reduceCtorEq, resA, Try.results31, hb4, s8t10, s8z4, s8f0, s8f8, s8f9, hb11, hb17, hb19, hb21, hb23, s9, hb26, hb29]; rfl, ?_, nomem_a, nomem_a⟩
            simp only [packA]
            (repeat' (first | exact .nil | exact wkR_c | exact wkR_own | exact wkR_nils | refine wkR_int ?_ | refine wkR_bool ?_ | refine wkR_sl ?_ | refine wkR_osl ?_ | refine wkR_nsl ?_ | refine wkR_oo ?_ | refine wkR_no ?_ | refine .cons ?_ ?_ | refine wkR_agg ?_ | refine wkR_tup ?_)) <;> (unfold checkL; first | rw [if_pos (by omega)] | (rw [if_neg (by omega), ← hq4_1]; first | (rw [hst, if_pos (by omega)]) | (rw [hst, if_neg (by omega), if_pos (by unfold lastT; rw [if_neg (by omega)]; omega)]) | (rw [List.drop_of_length_le (by omega)]; rfl)))
           case b29 =>
            have hp29 := hb29
            try simp only [kb] at hp29
            refine awp_skip ?_
            try simp only [rk_state]
            refine hK12 _ ?_
            refine reg 0 fun L31 hL31 => ?_
            simp only [qq, seval, -Nat.reducePow, reduceIte, reduceCtorEq, hb4, s8t10, s8z4, s8f0, s8f8, s8f9, hb11, hb17, hb19, hb21, hb23, s9, hb26, hb29]
            refine aops_val (v := ?v32) rfl ?h32 ?_
            case h32 => simp only [qq, seval, -Nat.reducePow, reduceIte, reduceCtorEq, hb4, s8t10, s8z4, s8f0, s8f8, s8f9, hb11, hb17, hb19, hb21, hb23, s9, hb26, hb29]; first | (rw [wr_id] <;> omega) | rfl
            simp only [qq, seval, -Nat.reducePow, reduceIte, reduceCtorEq, hb4, s8t10, s8z4, s8f0, s8f8, s8f9, hb11, hb17, hb19, hb21, hb23, s9, hb26, hb29]
            refine aops_orunN 1 _ _ ?_
            simp only [qq, seval, -Nat.reducePow, reduceIte, reduceCtorEq, hb4, s8t10, s8z4, s8f0, s8f8, s8f9, hb11, hb17, hb19, hb21, hb23, s9, hb26, hb29]
            refine nil_q hL31 ?_
            try simp only [rk_state]
            refine hK8 _ ((fun (i : Nat) => ps.length - i) (i + 1)) ?_ ⟨i + 1, rfl, ?_, ?_, ?_, ?_⟩
            · (try simp only []); omega
            · omega
            · rw [hst, if_neg (by omega), if_neg (by unfold lastT; split <;> omega)] at hq4_1; exact hq4_1
            · (try simp only [qq, seval, -Nat.reducePow, reduceIte, reduceCtorEq, hb4, s8t10, s8z4, s8f0, s8f8, s8f9, hb11, hb17, hb19, hb21, hb23, s9, hb26, hb29])
              all_goals (first | done | rfl | (simp only [AV.c.injEq, C.int.injEq, List.cons.injEq, and_true, true_and]; omega))
            · (try simp only [qq, seval, -Nat.reducePow, reduceIte, reduceCtorEq, hb4, s8t10, s8z4, s8f0, s8f8, s8f9, hb11, hb17, hb19, hb21, hb23, s9, hb26, hb29])
              all_goals (first | done | rfl | (simp only [AV.c.injEq, C.int.injEq, List.cons.injEq, and_true, true_and]; omega))
         case b26 =>
          have hp26 := hb26
          try simp only [kb] at hp26
          try simp only [hb26]
          refine aops_orunN 10 _ _ ?_
          simp only [qq, seval, -Nat.reducePow, reduceIte, reduceCtorEq, hb4, s8t10, s8z4, s8f0, s8f8, s8f9, hb11, hb17, hb19, hb21, hb23, s9, hb26]
          refine nil_z hL25 ?_
          refine awp_cond (t := false) (by simp only [qq, seval, -Nat.reducePow, reduceIte, reduceCtorEq, hb4, s8t10, s8z4, s8f0, s8f8, s8f9, hb11, hb17, hb19, hb21, hb23, s9, hb26]) (fun h => ?_) (fun _ => ?_)
          case refine_1 => cases h
          refine awp_skip ?_
          try simp only [rk_state]
          refine hK12 _ ?_
          refine reg 0 fun L33 hL33 => ?_
          simp only [qq, seval, -Nat.reducePow, reduceIte, reduceCtorEq, hb4, s8t10, s8z4, s8f0, s8f8, s8f9, hb11, hb17, hb19, hb21, hb23, s9, hb26]
          refine aops_val (v := ?v34) rfl ?h34 ?_
          case h34 => simp only [qq, seval, -Nat.reducePow, reduceIte, reduceCtorEq, hb4, s8t10, s8z4, s8f0, s8f8, s8f9, hb11, hb17, hb19, hb21, hb23, s9, hb26]; first | (rw [wr_id] <;> omega) | rfl
          simp only [qq, seval, -Nat.reducePow, reduceIte, reduceCtorEq, hb4, s8t10, s8z4, s8f0, s8f8, s8f9, hb11, hb17, hb19, hb21, hb23, s9, hb26]
          refine aops_orunN 1 _ _ ?_
          simp only [qq, seval, -Nat.reducePow, reduceIte, reduceCtorEq, hb4, s8t10, s8z4, s8f0, s8f8, s8f9, hb11, hb17, hb19, hb21, hb23, s9, hb26]
          refine nil_q hL33 ?_
          try simp only [rk_state]
          refine hK8 _ ((fun (i : Nat) => ps.length - i) (i + 1)) ?_ ⟨i + 1, rfl, ?_, ?_, ?_, ?_⟩
          · (try simp only []); omega
          · omega
          · rw [hst, if_neg (by omega), if_neg (by unfold lastT; split <;> omega)] at hq4_1; exact hq4_1
          · (try simp only [qq, seval, -Nat.reducePow, reduceIte, reduceCtorEq, hb4, s8t10, s8z4, s8f0, s8f8, s8f9, hb11, hb17, hb19, hb21, hb23, s9, hb26])
            all_goals (first | done | rfl | (simp only [AV.c.injEq, C.int.injEq, List.cons.injEq, and_true, true_and]; omega))
          · (try simp only [qq, seval, -Nat.reducePow, reduceIte, reduceCtorEq, hb4, s8t10, s8z4, s8f0, s8f8, s8f9, hb11, hb17, hb19, hb21, hb23, s9, hb26])
            all_goals (first | done | rfl | (simp only [AV.c.injEq, C.int.injEq, List.cons.injEq, and_true, true_and]; omega))
   case b11 =>
    have hp11 := hb11
    try simp only [kb] at hp11
    refine awp_exit ?_
    simp only [rk_state, reduceIte, Nat.reduceEqDiff]
    refine hK6 _ ?_
    as_aux_lemma =>
     refine seq_reg 1 fun L35 hL35 => ?_
     simp only [qq, seval, -Nat.reducePow, reduceIte, reduceCtorEq, hb4, s8t10, s8z4, s8f0, s8f8, s8f9, hb11]
     refine nil_z hL35 ?_
     refine awp_ret ?_
     try simp only [rk_state]
     refine ⟨_, 0, by simp only [qq, seval, -Nat.reducePow, reduceIte, reduceCtorEq, resA, Try.results31, hb4, s8t10, s8z4, s8f0, s8f8, s8f9, hb11]; rfl, ?_, nomem_a, nomem_a⟩
     simp only [packA]
     (repeat' (first | exact .nil | exact wkR_c | exact wkR_own | exact wkR_nils | refine wkR_int ?_ | refine wkR_bool ?_ | refine wkR_sl ?_ | refine wkR_osl ?_ | refine wkR_nsl ?_ | refine wkR_oo ?_ | refine wkR_no ?_ | refine .cons ?_ ?_ | refine wkR_agg ?_ | refine wkR_tup ?_)) <;> (unfold checkL; first | rw [if_pos (by omega)] | (rw [if_neg (by omega), ← hq4_1]; first | (rw [hst, if_pos (by omega)]) | (rw [hst, if_neg (by omega), if_pos (by unfold lastT; rw [if_neg (by omega)]; omega)]) | (rw [List.drop_of_length_le (by omega)]; rfl)))
end Go.Proofs.Y
