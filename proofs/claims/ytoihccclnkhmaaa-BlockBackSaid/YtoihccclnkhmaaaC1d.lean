/-
  What is proved: bits: what Read, Take, BitsOf, Taken compute. Conditions: none.
-/
import Derived.Test.YtoihccclnkhmaaaC1
import Derived.Test.YtoihccclnkhmaaaC1c
import Derived.Test.YtoihccclnkhmaaaPA
set_option linter.unusedVariables false
set_option linter.unusedSimpArgs false
set_option maxRecDepth 4000
namespace Go.Proofs.Y
open Go.Rb
set_option maxHeartbeats 4000000 in
set_option maxRecDepth 50000 in
theorem read_fun (l : List Bool) (w : Int) : Fun Try.prog 94 [.c (.sl 4 (Rw boC l)), .c (.int .i64 w)] nomem (.tup [.c (.int .i64 (readR l w).1), .c (.int .i64 (readR l w).2)]) nomem := by
 refine fun_of_awp Try.func94 rfl (by decide +kernel) (by decide +kernel) (Nat.le_of_ble_eq_true rfl) (fun _ _ => rfl) (fun _ _ => rfl) ?_
 refine seq_reg 2 fun L1 hL1 => ?_
 simp only [qq, seval, -Nat.reducePow, reduceIte, reduceCtorEq]
 refine nil_z hL1 ?_
 refine awp_seq_k fun K2 hK2 => ?_
 refine seq_reg 3 fun L3 hL3 => ?_
 simp only [qq, seval, -Nat.reducePow, reduceIte, reduceCtorEq]
 refine aops_part (b := ?p4) 11 ?h4 (fun hb4 => ?a4) (fun hb4 => ?b4)
 case h4 => simp only [qq, seval, -Nat.reducePow, reduceIte, reduceCtorEq]; rfl
 case a4 =>
  have hp4 := hb4
  try simp only [kb] at hp4
  try simp only [hb4]
  refine aops_orunN 3 _ _ ?_
  simp only [qq, seval, -Nat.reducePow, reduceIte, reduceCtorEq, hb4]
  refine nil_z hL3 ?_
  refine awp_cond (t := true) (by simp only [qq, seval, -Nat.reducePow, reduceIte, reduceCtorEq, hb4]) (fun _ => ?_) (fun h => ?_)
  case refine_2 => cases h
  refine seq_reg 2 fun L5 hL5 => ?_
  simp only [qq, seval, -Nat.reducePow, reduceIte, reduceCtorEq, hb4]
  refine nil_z hL5 ?_
  as_aux_lemma =>
   refine awp_ret ?_
   try simp only [rk_state]
   refine ⟨_, 0, by simp only [qq, seval, -Nat.reducePow, reduceIte, reduceCtorEq, resA, Try.results94, hb4]; rfl, ?_, nomem_a, nomem_a⟩
   simp only [packA]
   (repeat' (first | exact .nil | exact wkR_c | exact wkR_own | exact wkR_nils | refine wkR_int ?_ | refine wkR_bool ?_ | refine wkR_sl ?_ | refine wkR_osl ?_ | refine wkR_nsl ?_ | refine wkR_oo ?_ | refine wkR_no ?_ | refine .cons ?_ ?_ | refine wkR_agg ?_ | refine wkR_tup ?_)) <;> (unfold readR; first | (rw [if_pos (by omega)]; done) | (rw [if_neg (by omega), if_pos (by omega)]; done) | (rw [if_neg (by omega), if_neg (by omega)]; first | done | (rw [List.take_of_length_le (by omega)])))
 case b4 =>
  have hp4 := hb4
  try simp only [kb] at hp4
  try simp only [hb4]
  refine aops_orunN 3 _ _ ?_
  simp only [qq, seval, -Nat.reducePow, reduceIte, reduceCtorEq, hb4]
  refine nil_z hL3 ?_
  refine awp_cond (t := ?t6) ?h6 (fun hb6 => ?a6) (fun hb6 => ?b6)
  case h6 => simp only [qq, seval, -Nat.reducePow, reduceIte, reduceCtorEq, hb4]; rfl
  case a6 =>
   have hp6 := hb6
   try simp only [kb] at hp6
   refine seq_reg 2 fun L7 hL7 => ?_
   simp only [qq, seval, -Nat.reducePow, reduceIte, reduceCtorEq, hb4, hb6]
   refine nil_z hL7 ?_
   refine awp_ret ?_
   try simp only [rk_state]
   refine ⟨_, 0, by simp only [qq, seval, -Nat.reducePow, reduceIte, reduceCtorEq, resA, Try.results94, hb4, hb6]; rfl, ?_, nomem_a, nomem_a⟩
   simp only [packA]
   (repeat' (first | exact .nil | exact wkR_c | exact wkR_own | exact wkR_nils | refine wkR_int ?_ | refine wkR_bool ?_ | refine wkR_sl ?_ | refine wkR_osl ?_ | refine wkR_nsl ?_ | refine wkR_oo ?_ | refine wkR_no ?_ | refine .cons ?_ ?_ | refine wkR_agg ?_ | refine wkR_tup ?_)) <;> (unfold readR; first | (rw [if_pos (by omega)]; done) | (rw [if_neg (by omega), if_pos (by omega)]; done) | (rw [if_neg (by omega), if_neg (by omega)]; first | done | (rw [List.take_of_length_le (by omega)])))
  case b6 =>
   have hp6 := hb6
   try simp only [kb] at hp6
   refine awp_skip ?_
   refine hK2 _ ?_
   refine awp_seq_k fun K8 hK8 => ?_
   refine seq_reg 4 fun L9 hL9 => ?_
   simp only [qq, seval, -Nat.reducePow, reduceIte, reduceCtorEq, hb4, hb6]
   refine nil_z hL9 ?_
   refine awp_cond (t := ?t10) ?h10 (fun hb10 => ?a10) (fun hb10 => ?b10)
   case h10 => simp only [qq, seval, -Nat.reducePow, reduceIte, reduceCtorEq, hb4, hb6]; rfl
   case a10 =>
    have hp10 := hb10
    try simp only [kb] at hp10
    refine seq_reg 2 fun L11 hL11 => ?_
    simp only [qq, seval, -Nat.reducePow, reduceIte, reduceCtorEq, hb4, hb6, hb10]
    refine nil_z hL11 ?_
    as_aux_lemma =>
     refine awp_ret ?_
     try simp only [rk_state]
     refine ⟨_, 0, by simp only [qq, seval, -Nat.reducePow, reduceIte, reduceCtorEq, resA, Try.results94, hb4, hb6, hb10]; rfl, ?_, nomem_a, nomem_a⟩
     simp only [packA]
     (repeat' (first | exact .nil | exact wkR_c | exact wkR_own | exact wkR_nils | refine wkR_int ?_ | refine wkR_bool ?_ | refine wkR_sl ?_ | refine wkR_osl ?_ | refine wkR_nsl ?_ | refine wkR_oo ?_ | refine wkR_no ?_ | refine .cons ?_ ?_ | refine wkR_agg ?_ | refine wkR_tup ?_)) <;> (unfold readR; first | (rw [if_pos (by omega)]; done) | (rw [if_neg (by omega), if_pos (by omega)]; done) | (rw [if_neg (by omega), if_neg (by omega)]; first | done | (rw [List.take_of_length_le (by omega)])))
   case b10 =>
    have hp10 := hb10
    try simp only [kb] at hp10
    refine awp_skip ?_
    refine hK8 _ ?_
    refine seq_reg 1 fun L12 hL12 => ?_
    simp only [qq, seval, -Nat.reducePow, reduceIte, reduceCtorEq, hb4, hb6, hb10]
    refine nil_z hL12 ?_
    refine awp_seq_k fun K13 hK13 => ?_
    have hk : (l.take w.toNat).length = w.toNat := by rw [List.length_take]; omega
    refine seq_reg 2 fun L14 hL14 => ?_
    simp only [qq, seval, -Nat.reducePow, reduceIte, reduceCtorEq, hb4, hb6, hb10]
    refine aops_val (v := ?v15) rfl ?h15 ?_
    case h15 => simp only [qq, seval, -Nat.reducePow, reduceIte, reduceCtorEq, hb4, hb6, hb10]; first | (rw [slc_h un36 if4] <;> omega) | (rw [slc_ho un36 if4] <;> omega)
    simp only [qq, seval, -Nat.reducePow, reduceIte, reduceCtorEq, hb4, hb6, hb10]
    refine aops_orunN 2 _ _ ?_
    simp only [qq, seval, -Nat.reducePow, reduceIte, reduceCtorEq, hb4, hb6, hb10]
    refine nil_z hL14 ?_
    refine awp_block ?_
    refine awp_loopW (W := [24, 25, 26, 8, 27, 28, 6, 29, 30, 31, 6, 32, 23]) (M := []) rfl rfl (fun kk s => ∃ (i : Nat), kk = w.toNat - i ∧ (i ≤ w.toNat) ∧ s.t 6 = .c (.int .i64 (val ((l.take w.toNat).take i))) ∧ s.t 23 = .c (.int .i64 (i : Int))) ((fun (i : Nat) => w.toNat - i) (0)) ?i16 ?r16
    case i16 =>
     refine ⟨0, rfl, ?_, ?_, ?_⟩
     · first | omega | simp
     · (try simp only [qq, seval, -Nat.reducePow, reduceIte, reduceCtorEq, hb4, hb6, hb10])
       all_goals (first | done | rfl | (simp only [AV.c.injEq, C.int.injEq, List.cons.injEq, and_true, true_and]; omega))
     · (try simp only [qq, seval, -Nat.reducePow, reduceIte, reduceCtorEq, hb4, hb6, hb10])
       all_goals (first | done | rfl | (simp only [AV.c.injEq, C.int.injEq, List.cons.injEq, and_true, true_and]; omega))
    case r16 =>
     rintro kk s hf ⟨i, rfl, hq7_0, s16t6, s16t23⟩ K16 hK16
     have s16f4 := hf 4 rfl (by (try simp only [qq, seval, -Nat.reducePow, reduceIte, reduceCtorEq, kn, hb4, hb6, hb10]); all_goals rfl)
     simp only [qq, seval, -Nat.reducePow, reduceIte, reduceCtorEq, hb4, hb6, hb10] at s16f4
     have s16f5 := hf 5 rfl (by (try simp only [qq, seval, -Nat.reducePow, reduceIte, reduceCtorEq, kn, hb4, hb6, hb10]); all_goals rfl)
     simp only [qq, seval, -Nat.reducePow, reduceIte, reduceCtorEq, hb4, hb6, hb10] at s16f5
     have s16f21 := hf 21 rfl (by (try simp only [qq, seval, -Nat.reducePow, reduceIte, reduceCtorEq, kn, hb4, hb6, hb10]); all_goals rfl)
     simp only [qq, seval, -Nat.reducePow, reduceIte, reduceCtorEq, hb4, hb6, hb10] at s16f21
     have s16f22 := hf 22 rfl (by (try simp only [qq, seval, -Nat.reducePow, reduceIte, reduceCtorEq, kn, hb4, hb6, hb10]); all_goals rfl)
     simp only [qq, seval, -Nat.reducePow, reduceIte, reduceCtorEq, hb4, hb6, hb10] at s16f22
     clear hf
     refine seq_reg 1 fun L17 hL17 => ?_
     simp only [qq, seval, -Nat.reducePow, reduceIte, reduceCtorEq, hb4, hb6, hb10, s16t6, s16t23, s16f4, s16f5, s16f21, s16f22]
     refine nil_z hL17 ?_
     as_aux_lemma =>
      refine awp_seq_k fun K18 hK18 => ?_
      refine awp_cond (t := ?t19) ?h19 (fun hb19 => ?a19) (fun hb19 => ?b19)
      case h19 => simp only [qq, seval, -Nat.reducePow, reduceIte, reduceCtorEq, hb4, hb6, hb10, s16t6, s16t23, s16f4, s16f5, s16f21, s16f22]; rfl
      case a19 =>
       have hp19 := hb19
       try simp only [kb] at hp19
       refine awp_skip ?_
       refine hK18 _ ?_
       refine awp_seq_k fun K20 hK20 => ?_
       refine awp_block ?_
       refine seq_reg0 fun L21 hL21 => ?_
       refine aops_val (v := ?v22) rfl ?h22 ?_
       case h22 => simp only [qq, seval, -Nat.reducePow, reduceIte, reduceCtorEq, hb4, hb6, hb10, s16t6, s16t23, s16f4, s16f5, s16f21, s16f22, hb19]; first | (rw [idx_c un36 if4] <;> omega) | (rw [idx_o un36 if4] <;> omega) | (rw [idx_a un36 if4] <;> omega)
       simp only [qq, seval, -Nat.reducePow, reduceIte, reduceCtorEq, hb4, hb6, hb10, s16t6, s16t23, s16f4, s16f5, s16f21, s16f22, hb19]
       refine aops_orunN 2 _ _ ?_
       simp only [qq, seval, -Nat.reducePow, reduceIte, reduceCtorEq, hb4, hb6, hb10, s16t6, s16t23, s16f4, s16f5, s16f21, s16f22, hb19]
       refine nil_z hL21 ?_
       have hv := val_lt40 (l := (l.take w.toNat).take i) (by rw [List.length_take]; omega)
       refine seq_reg 1 fun L23 hL23 => ?_
       simp only [qq, seval, -Nat.reducePow, reduceIte, reduceCtorEq, hb4, hb6, hb10, s16t6, s16t23, s16f4, s16f5, s16f21, s16f22, hb19]
       refine aops_val (v := ?v24) rfl ?h24 ?_
       case h24 => simp only [qq, seval, -Nat.reducePow, reduceIte, reduceCtorEq, hb4, hb6, hb10, s16t6, s16t23, s16f4, s16f5, s16f21, s16f22, hb19]; first | (rw [wr_id] <;> omega) | rfl
       simp only [qq, seval, -Nat.reducePow, reduceIte, reduceCtorEq, hb4, hb6, hb10, s16t6, s16t23, s16f4, s16f5, s16f21, s16f22, hb19]
       refine aops_orunN 1 _ _ ?_
       simp only [qq, seval, -Nat.reducePow, reduceIte, reduceCtorEq, hb4, hb6, hb10, s16t6, s16t23, s16f4, s16f5, s16f21, s16f22, hb19]
       refine nil_z hL23 ?_
       refine seq_reg 1 fun L25 hL25 => ?_
       simp only [qq, seval, -Nat.reducePow, reduceIte, reduceCtorEq, hb4, hb6, hb10, s16t6, s16t23, s16f4, s16f5, s16f21, s16f22, hb19]
       refine nil_z hL25 ?_
       as_aux_lemma =>
        refine awp_cond (t := ?t26) ?h26 (fun hb26 => ?a26) (fun hb26 => ?b26)
        case h26 => simp only [qq, seval, -Nat.reducePow, reduceIte, reduceCtorEq, hb4, hb6, hb10, s16t6, s16t23, s16f4, s16f5, s16f21, s16f22, hb19]; rfl
        case a26 =>
         have hp26 := hb26
         try simp only [kb] at hp26
         refine reg 1 fun L27 hL27 => ?_
         simp only [qq, seval, -Nat.reducePow, reduceIte, reduceCtorEq, hb4, hb6, hb10, s16t6, s16t23, s16f4, s16f5, s16f21, s16f22, hb19, hb26]
         refine aops_val (v := ?v28) rfl ?h28 ?_
         case h28 => simp only [qq, seval, -Nat.reducePow, reduceIte, reduceCtorEq, hb4, hb6, hb10, s16t6, s16t23, s16f4, s16f5, s16f21, s16f22, hb19, hb26]; first | (rw [wr_id] <;> omega) | rfl
         simp only [qq, seval, -Nat.reducePow, reduceIte, reduceCtorEq, hb4, hb6, hb10, s16t6, s16t23, s16f4, s16f5, s16f21, s16f22, hb19, hb26]
         refine aops_orunN 1 _ _ ?_
         simp only [qq, seval, -Nat.reducePow, reduceIte, reduceCtorEq, hb4, hb6, hb10, s16t6, s16t23, s16f4, s16f5, s16f21, s16f22, hb19, hb26]
         refine nil_q hL27 ?_
         try simp only [rk_state]
         refine hK20 _ ?_
         refine reg 0 fun L29 hL29 => ?_
         simp only [qq, seval, -Nat.reducePow, reduceIte, reduceCtorEq, hb4, hb6, hb10, s16t6, s16t23, s16f4, s16f5, s16f21, s16f22, hb19, hb26]
         refine aops_val (v := ?v30) rfl ?h30 ?_
         case h30 => simp only [qq, seval, -Nat.reducePow, reduceIte, reduceCtorEq, hb4, hb6, hb10, s16t6, s16t23, s16f4, s16f5, s16f21, s16f22, hb19, hb26]; first | (rw [wr_id] <;> omega) | rfl
         simp only [qq, seval, -Nat.reducePow, reduceIte, reduceCtorEq, hb4, hb6, hb10, s16t6, s16t23, s16f4, s16f5, s16f21, s16f22, hb19, hb26]
         refine aops_orunN 1 _ _ ?_
         simp only [qq, seval, -Nat.reducePow, reduceIte, reduceCtorEq, hb4, hb6, hb10, s16t6, s16t23, s16f4, s16f5, s16f21, s16f22, hb19, hb26]
         refine nil_q hL29 ?_
         try simp only [rk_state]
         have sn := val_next (l := l.take w.toNat) (i := i) (by omega)
         refine hK16 _ ((fun (i : Nat) => w.toNat - i) (i + 1)) ?_ ⟨i + 1, rfl, ?_, ?_, ?_⟩
         · (try simp only []); omega
         · first | omega | simp
         · (try simp only [qq, seval, -Nat.reducePow, reduceIte, reduceCtorEq, hb4, hb6, hb10, s16t6, s16t23, s16f4, s16f5, s16f21, s16f22, hb19, hb26, sn])
           all_goals first | done | rfl | (simp only [AV.c.injEq, C.int.injEq, sn, true_and]; simp_all; done) | (simp only [AV.c.injEq, C.int.injEq, sn, true_and]; simp_all; omega)
         · (try simp only [qq, seval, -Nat.reducePow, reduceIte, reduceCtorEq, hb4, hb6, hb10, s16t6, s16t23, s16f4, s16f5, s16f21, s16f22, hb19, hb26, sn])
           all_goals (first | done | rfl | (simp only [AV.c.injEq, C.int.injEq, List.cons.injEq, and_true, true_and]; omega))
        case b26 =>
         have hp26 := hb26
         try simp only [kb] at hp26
         refine awp_skip ?_
         try simp only [rk_state]
         refine hK20 _ ?_
         refine reg 0 fun L31 hL31 => ?_
         simp only [qq, seval, -Nat.reducePow, reduceIte, reduceCtorEq, hb4, hb6, hb10, s16t6, s16t23, s16f4, s16f5, s16f21, s16f22, hb19, hb26]
         refine aops_val (v := ?v32) rfl ?h32 ?_
         case h32 => simp only [qq, seval, -Nat.reducePow, reduceIte, reduceCtorEq, hb4, hb6, hb10, s16t6, s16t23, s16f4, s16f5, s16f21, s16f22, hb19, hb26]; first | (rw [wr_id] <;> omega) | rfl
         simp only [qq, seval, -Nat.reducePow, reduceIte, reduceCtorEq, hb4, hb6, hb10, s16t6, s16t23, s16f4, s16f5, s16f21, s16f22, hb19, hb26]
         refine aops_orunN 1 _ _ ?_
         simp only [qq, seval, -Nat.reducePow, reduceIte, reduceCtorEq, hb4, hb6, hb10, s16t6, s16t23, s16f4, s16f5, s16f21, s16f22, hb19, hb26]
         refine nil_q hL31 ?_
         try simp only [rk_state]
         have sn := val_next (l := l.take w.toNat) (i := i) (by omega)
         refine hK16 _ ((fun (i : Nat) => w.toNat - i) (i + 1)) ?_ ⟨i + 1, rfl, ?_, ?_, ?_⟩
         · (try simp only []); omega
         · first | omega | simp
         · (try simp only [qq, seval, -Nat.reducePow, reduceIte, reduceCtorEq, hb4, hb6, hb10, s16t6, s16t23, s16f4, s16f5, s16f21, s16f22, hb19, hb26, sn])
           all_goals first | done | rfl | (simp only [AV.c.injEq, C.int.injEq, sn, true_and]; simp_all; done) | (simp only [AV.c.injEq, C.int.injEq, sn, true_and]; simp_all; omega)
         · (try simp only [qq, seval, -Nat.reducePow, reduceIte, reduceCtorEq, hb4, hb6, hb10, s16t6, s16t23, s16f4, s16f5, s16f21, s16f22, hb19, hb26, sn])
           all_goals (first | done | rfl | (simp only [AV.c.injEq, C.int.injEq, List.cons.injEq, and_true, true_and]; omega))
      case b19 =>
       have hp19 := hb19
       try simp only [kb] at hp19
       refine awp_exit ?_
       simp only [rk_state, reduceIte, Nat.reduceEqDiff]
       refine hK13 _ ?_
       as_aux_lemma =>
        refine seq_reg 3 fun L33 hL33 => ?_
        simp only [qq, seval, -Nat.reducePow, reduceIte, reduceCtorEq, hb4, hb6, hb10, s16t6, s16t23, s16f4, s16f5, s16f21, s16f22, hb19]
        refine nil_z hL33 ?_
        refine awp_ret ?_
        try simp only [rk_state]
        refine ⟨_, 0, by simp only [qq, seval, -Nat.reducePow, reduceIte, reduceCtorEq, resA, Try.results94, hb4, hb6, hb10, s16t6, s16t23, s16f4, s16f5, s16f21, s16f22, hb19]; rfl, ?_, nomem_a, nomem_a⟩
        simp only [packA]
        (repeat' (first | exact .nil | exact wkR_c | exact wkR_own | exact wkR_nils | refine wkR_int ?_ | refine wkR_bool ?_ | refine wkR_sl ?_ | refine wkR_osl ?_ | refine wkR_nsl ?_ | refine wkR_oo ?_ | refine wkR_no ?_ | refine .cons ?_ ?_ | refine wkR_agg ?_ | refine wkR_tup ?_)) <;> (unfold readR; first | (rw [if_pos (by omega)]; done) | (rw [if_neg (by omega), if_pos (by omega)]; done) | (rw [if_neg (by omega), if_neg (by omega)]; first | done | (rw [List.take_of_length_le (by omega)])))
set_option maxHeartbeats 4000000 in
set_option maxRecDepth 50000 in
theorem take_fun (l : List Bool) (w : Int) (hl : l.length ≤ 140737488355328) : Fun Try.prog 33 [.c (.sl 4 (Rw boC l)), .c (.int .i64 w)] nomem (.tup [.c (.int .i64 (takeR l w).1), .own false 0 4 (Rw boC (takeR l w).2.1), .c (.int .i64 (takeR l w).2.2)]) nomem := by
 refine fun_of_awp Try.func33 rfl (by decide +kernel) (by decide +kernel) (Nat.le_of_ble_eq_true rfl) (fun _ _ => rfl) (fun _ _ => rfl) ?_
 refine seq_reg 3 fun L1 hL1 => ?_
 simp only [qq, seval, -Nat.reducePow, reduceIte, reduceCtorEq]
 refine nil_z hL1 ?_
 refine seq_reg 2 fun L2 hL2 => ?_
 simp only [qq, seval, -Nat.reducePow, reduceIte, reduceCtorEq]
 refine aops_call (read_fun _ _) rfl rfl rfl rfl (by (try simp only [qq, seval, -Nat.reducePow, reduceIte, reduceCtorEq]); (repeat' (first | exact .nil | exact wk_c | exact wk_ownc | exact wk_nilsc | exact wk_nils | exact wk_fn | refine .cons ?_ ?_ | refine wk_agg ?_ | refine wk_fnL ?_))) rfl rfl ?_
 simp only [qq, seval, -Nat.reducePow, reduceIte, reduceCtorEq]
 refine aops_orunN 5 _ _ ?_
 simp only [qq, seval, -Nat.reducePow, reduceIte, reduceCtorEq]
 refine nil_z hL2 ?_
 refine awp_seq_k fun K4 hK4 => ?_
 refine seq_reg 2 fun L5 hL5 => ?_
 simp only [qq, seval, -Nat.reducePow, reduceIte, reduceCtorEq]
 refine nil_z hL5 ?_
 as_aux_lemma =>
  refine awp_cond (t := ?t6) ?h6 (fun hb6 => ?a6) (fun hb6 => ?b6)
  case h6 => simp only [qq, seval, -Nat.reducePow, reduceIte, reduceCtorEq]; rfl
  case a6 =>
   have hp6 := hb6
   try simp only [kb] at hp6
   refine seq_reg 4 fun L7 hL7 => ?_
   simp only [qq, seval, -Nat.reducePow, reduceIte, reduceCtorEq, hb6]
   refine nil_z hL7 ?_
   refine awp_ret ?_
   try simp only [rk_state]
   refine ⟨_, 22, by simp only [qq, seval, -Nat.reducePow, reduceIte, reduceCtorEq, resA, Try.results33, hb6]; rfl, ?_, nomem_a, nomem_a⟩
   simp only [packA]
   rw [takeR_eq]; (repeat' (first | exact .nil | exact wkR_c | exact wkR_own | exact wkR_nils | refine wkR_int ?_ | refine wkR_bool ?_ | refine wkR_sl ?_ | refine wkR_osl ?_ | refine wkR_nsl ?_ | refine wkR_oo ?_ | refine wkR_no ?_ | refine .cons ?_ ?_ | refine wkR_agg ?_ | refine wkR_tup ?_)) <;> first | done | rfl | omega | (rw [readR_bad (by omega)]; done) | (rw [if_neg (by omega)]; exact rfl) | (rw [if_neg (by omega)]; done) | (rw [if_pos (by omega)]; done) | simp_all
  case b6 =>
   have hp6 := hb6
   try simp only [kb] at hp6
   refine awp_skip ?_
   refine hK4 _ ?_
   have hro := readR_ok (l := l) (w := w) (by omega)
   refine seq_reg 3 fun L8 hL8 => ?_
   simp only [qq, seval, -Nat.reducePow, reduceIte, reduceCtorEq, hb6]
   refine aops_val (v := ?v9) rfl ?h9 ?_
   case h9 => simp only [qq, seval, -Nat.reducePow, reduceIte, reduceCtorEq, hb6]; first | (rw [slc_l un36 if4] <;> omega) | (rw [slc_lo un36 if4] <;> omega)
   simp only [qq, seval, -Nat.reducePow, reduceIte, reduceCtorEq, hb6]
   refine aops_call_own (clone_bool_fun _ ?s10_0) rfl rfl rfl rfl (by (try simp only [qq, seval, -Nat.reducePow, reduceIte, reduceCtorEq, hb6]); (repeat' (first | exact .nil | exact wk_c | exact wk_ownc | exact wk_nilsc | exact wk_nils | exact wk_fn | refine .cons ?_ ?_ | refine wk_agg ?_ | refine wk_fnL ?_))) rfl rfl rfl (by simp only [qq, seval, -Nat.reducePow, reduceIte, reduceCtorEq, hb6]) ?m10
   case s10_0 => first | assumption | omega | decide +kernel | (simp only [List.length_take, List.length_drop]; omega)
   simp only [qq, seval, -Nat.reducePow, reduceIte, reduceCtorEq, AV.setOwn, AV.setOwn1, hb6]
   refine aops_orunN 3 _ _ ?_
   simp only [qq, seval, -Nat.reducePow, reduceIte, reduceCtorEq, hb6]
   refine aops_nil (hL8 _ ?_)
   simp only [qq, seval, -Nat.reducePow, reduceIte, reduceCtorEq, hb6]
   refine awp_ret ?_
   try simp only [rk_state]
   refine ⟨_, 22, by simp only [qq, seval, -Nat.reducePow, reduceIte, reduceCtorEq, resA, Try.results33, hb6]; rfl, ?_, nomem_a, nomem_a⟩
   simp only [packA]
   rw [takeR_eq]; (repeat' (first | exact .nil | exact wkR_c | exact wkR_own | exact wkR_nils | refine wkR_int ?_ | refine wkR_bool ?_ | refine wkR_sl ?_ | refine wkR_osl ?_ | refine wkR_nsl ?_ | refine wkR_oo ?_ | refine wkR_no ?_ | refine .cons ?_ ?_ | refine wkR_agg ?_ | refine wkR_tup ?_)) <;> first | done | rfl | omega | (rw [readR_bad (by omega)]; done) | (rw [if_neg (by omega)]; exact rfl) | (rw [if_neg (by omega)]; done) | (rw [if_pos (by omega)]; done) | simp_all
set_option maxHeartbeats 4000000 in
set_option maxRecDepth 50000 in
theorem taken_fun (l : List Bool) (w : Int) : Fun Try.prog 35 [.c (.sl 4 (Rw boC l)), .c (.int .i64 w)] nomem (.tup [.c (.int .i64 (takeR l w).1), .c (.sl 4 (Rw boC (takeR l w).2.1)), .c (.int .i64 (takeR l w).2.2)]) nomem := by
 refine fun_of_awp Try.func35 rfl (by decide +kernel) (by decide +kernel) (Nat.le_of_ble_eq_true rfl) (fun _ _ => rfl) (fun _ _ => rfl) ?_
 refine seq_reg 3 fun L1 hL1 => ?_
 simp only [qq, seval, -Nat.reducePow, reduceIte, reduceCtorEq]
 refine nil_z hL1 ?_
 refine awp_seq_k fun K2 hK2 => ?_
 refine seq_reg 1 fun L3 hL3 => ?_
 simp only [qq, seval, -Nat.reducePow, reduceIte, reduceCtorEq]
 refine aops_call (in_fun _ _ _) rfl rfl rfl rfl (by (try simp only [qq, seval, -Nat.reducePow, reduceIte, reduceCtorEq]); (repeat' (first | exact .nil | exact wk_c | exact wk_ownc | exact wk_nilsc | exact wk_nils | exact wk_fn | refine .cons ?_ ?_ | refine wk_agg ?_ | refine wk_fnL ?_))) rfl rfl ?_
 simp only [qq, seval, -Nat.reducePow, reduceIte, reduceCtorEq]
 refine aops_orunN 1 _ _ ?_
 simp only [qq, seval, -Nat.reducePow, reduceIte, reduceCtorEq]
 refine nil_z hL3 ?_
 refine awp_cond (t := ?t5) ?h5 (fun hb5 => ?a5) (fun hb5 => ?b5)
 case h5 => simp only [qq, seval, -Nat.reducePow, reduceIte, reduceCtorEq]; rfl
 case a5 =>
  have hp5 := hb5
  try simp only [kb] at hp5
  refine seq_reg 3 fun L6 hL6 => ?_
  simp only [qq, seval, -Nat.reducePow, reduceIte, reduceCtorEq, hb5]
  refine nil_z hL6 ?_
  as_aux_lemma =>
   refine awp_ret ?_
   try simp only [rk_state]
   refine ⟨_, 0, by simp only [qq, seval, -Nat.reducePow, reduceIte, reduceCtorEq, resA, Try.results35, hb5]; rfl, ?_, nomem_a, nomem_a⟩
   simp only [packA]
   unfold takeR; first | (rw [if_pos (by omega)]; (repeat' (first | exact .nil | exact wkR_c | exact wkR_own | exact wkR_nils | refine wkR_int ?_ | refine wkR_bool ?_ | refine wkR_sl ?_ | refine wkR_osl ?_ | refine wkR_nsl ?_ | refine wkR_oo ?_ | refine wkR_no ?_ | refine .cons ?_ ?_ | refine wkR_agg ?_ | refine wkR_tup ?_)) <;> rfl) | (rw [if_neg (by omega), if_pos (by omega)]; (repeat' (first | exact .nil | exact wkR_c | exact wkR_own | exact wkR_nils | refine wkR_int ?_ | refine wkR_bool ?_ | refine wkR_sl ?_ | refine wkR_osl ?_ | refine wkR_nsl ?_ | refine wkR_oo ?_ | refine wkR_no ?_ | refine .cons ?_ ?_ | refine wkR_agg ?_ | refine wkR_tup ?_)) <;> rfl) | (have ej : (j : Int) = w := by omega); (rw [if_neg (by omega), if_neg (by omega)]); (repeat' (first | exact .nil | exact wkR_c | exact wkR_own | exact wkR_nils | refine wkR_int ?_ | refine wkR_bool ?_ | refine wkR_sl ?_ | refine wkR_osl ?_ | refine wkR_nsl ?_ | refine wkR_oo ?_ | refine wkR_no ?_ | refine .cons ?_ ?_ | refine wkR_agg ?_ | refine wkR_tup ?_)) <;> first | done | (rw [show (l.take w.toNat).length - j = 0 from by omega, List.drop_zero])
 case b5 =>
  have hp5 := hb5
  try simp only [kb] at hp5
  refine awp_skip ?_
  refine hK2 _ ?_
  refine awp_seq_k fun K7 hK7 => ?_
  refine seq_reg 4 fun L8 hL8 => ?_
  simp only [qq, seval, -Nat.reducePow, reduceIte, reduceCtorEq, hb5]
  refine nil_z hL8 ?_
  refine awp_cond (t := ?t9) ?h9 (fun hb9 => ?a9) (fun hb9 => ?b9)
  case h9 => simp only [qq, seval, -Nat.reducePow, reduceIte, reduceCtorEq, hb5]; rfl
  case a9 =>
   have hp9 := hb9
   try simp only [kb] at hp9
   refine seq_reg 3 fun L10 hL10 => ?_
   simp only [qq, seval, -Nat.reducePow, reduceIte, reduceCtorEq, hb5, hb9]
   refine nil_z hL10 ?_
   refine awp_ret ?_
   try simp only [rk_state]
   refine ⟨_, 0, by simp only [qq, seval, -Nat.reducePow, reduceIte, reduceCtorEq, resA, Try.results35, hb5, hb9]; rfl, ?_, nomem_a, nomem_a⟩
   simp only [packA]
   unfold takeR; first | (rw [if_pos (by omega)]; (repeat' (first | exact .nil | exact wkR_c | exact wkR_own | exact wkR_nils | refine wkR_int ?_ | refine wkR_bool ?_ | refine wkR_sl ?_ | refine wkR_osl ?_ | refine wkR_nsl ?_ | refine wkR_oo ?_ | refine wkR_no ?_ | refine .cons ?_ ?_ | refine wkR_agg ?_ | refine wkR_tup ?_)) <;> rfl) | (rw [if_neg (by omega), if_pos (by omega)]; (repeat' (first | exact .nil | exact wkR_c | exact wkR_own | exact wkR_nils | refine wkR_int ?_ | refine wkR_bool ?_ | refine wkR_sl ?_ | refine wkR_osl ?_ | refine wkR_nsl ?_ | refine wkR_oo ?_ | refine wkR_no ?_ | refine .cons ?_ ?_ | refine wkR_agg ?_ | refine wkR_tup ?_)) <;> rfl) | (have ej : (j : Int) = w := by omega); (rw [if_neg (by omega), if_neg (by omega)]); (repeat' (first | exact .nil | exact wkR_c | exact wkR_own | exact wkR_nils | refine wkR_int ?_ | refine wkR_bool ?_ | refine wkR_sl ?_ | refine wkR_osl ?_ | refine wkR_nsl ?_ | refine wkR_oo ?_ | refine wkR_no ?_ | refine .cons ?_ ?_ | refine wkR_agg ?_ | refine wkR_tup ?_)) <;> first | done | (rw [show (l.take w.toNat).length - j = 0 from by omega, List.drop_zero])
  case b9 =>
   have hp9 := hb9
   try simp only [kb] at hp9
   refine awp_skip ?_
   refine hK7 _ ?_
   refine seq_reg 2 fun L11 hL11 => ?_
   simp only [qq, seval, -Nat.reducePow, reduceIte, reduceCtorEq, hb5, hb9]
   refine nil_z hL11 ?_
   as_aux_lemma =>
    refine awp_seq_k fun K12 hK12 => ?_
    have hk : (l.take w.toNat).length = w.toNat := by rw [List.length_take]; omega
    refine seq_reg 1 fun L13 hL13 => ?_
    simp only [qq, seval, -Nat.reducePow, reduceIte, reduceCtorEq, hb5, hb9]
    refine aops_val (v := ?v14) rfl ?h14 ?_
    case h14 => simp only [qq, seval, -Nat.reducePow, reduceIte, reduceCtorEq, hb5, hb9]; first | (rw [wr_id] <;> omega) | rfl
    simp only [qq, seval, -Nat.reducePow, reduceIte, reduceCtorEq, hb5, hb9]
    refine aops_orunN 1 _ _ ?_
    simp only [qq, seval, -Nat.reducePow, reduceIte, reduceCtorEq, hb5, hb9]
    refine nil_z hL13 ?_
    refine awp_block ?_
    refine awp_loopW (W := [19, 20, 23, 24, 25, 26, 27, 28, 29, 7, 30, 31, 8, 21, 22, 9]) (M := []) rfl rfl (fun kk s => ∃ (j : Nat), kk = w.toNat - j ∧ (j ≤ w.toNat) ∧ s.t 7 = .c (.int .i64 (val ((l.take w.toNat).drop ((l.take w.toNat).length - j)))) ∧ s.t 8 = .c (.int .i64 (2 ^ j)) ∧ s.t 9 = .c (.int .i64 (w - 1 - (j : Int)))) ((fun (j : Nat) => w.toNat - j) (0)) ?i15 ?r15
    case i15 =>
     refine ⟨0, rfl, ?_, ?_, ?_, ?_⟩
     · first | omega | simp
     · (try simp only [qq, seval, -Nat.reducePow, reduceIte, reduceCtorEq, hb5, hb9])
       all_goals (simp only [Nat.sub_zero]; rw [List.drop_of_length_le (Nat.le_refl _)]; rfl)
     · (try simp only [qq, seval, -Nat.reducePow, reduceIte, reduceCtorEq, hb5, hb9])
       all_goals simp
     · (try simp only [qq, seval, -Nat.reducePow, reduceIte, reduceCtorEq, hb5, hb9])
       all_goals (first | done | rfl | (simp only [AV.c.injEq, C.int.injEq, List.cons.injEq, and_true, true_and]; omega))
    case r15 =>
     rintro kk s hf ⟨j, rfl, hq7_0, s15t7, s15t8, s15t9⟩ K15 hK15
     have s15f0 := hf 0 rfl (by (try simp only [qq, seval, -Nat.reducePow, reduceIte, reduceCtorEq, kn, hb5, hb9]); all_goals rfl)
     simp only [qq, seval, -Nat.reducePow, reduceIte, reduceCtorEq, hb5, hb9] at s15f0
     have s15f1 := hf 1 rfl (by (try simp only [qq, seval, -Nat.reducePow, reduceIte, reduceCtorEq, kn, hb5, hb9]); all_goals rfl)
     simp only [qq, seval, -Nat.reducePow, reduceIte, reduceCtorEq, hb5, hb9] at s15f1
     have s15f4 := hf 4 rfl (by (try simp only [qq, seval, -Nat.reducePow, reduceIte, reduceCtorEq, kn, hb5, hb9]); all_goals rfl)
     simp only [qq, seval, -Nat.reducePow, reduceIte, reduceCtorEq, hb5, hb9] at s15f4
     have s15f5 := hf 5 rfl (by (try simp only [qq, seval, -Nat.reducePow, reduceIte, reduceCtorEq, kn, hb5, hb9]); all_goals rfl)
     simp only [qq, seval, -Nat.reducePow, reduceIte, reduceCtorEq, hb5, hb9] at s15f5
     have s15f6 := hf 6 rfl (by (try simp only [qq, seval, -Nat.reducePow, reduceIte, reduceCtorEq, kn, hb5, hb9]); all_goals rfl)
     simp only [qq, seval, -Nat.reducePow, reduceIte, reduceCtorEq, hb5, hb9] at s15f6
     clear hf
     refine awp_seq_k fun K16 hK16 => ?_
     refine seq_reg 2 fun L17 hL17 => ?_
     simp only [qq, seval, -Nat.reducePow, reduceIte, reduceCtorEq, hb5, hb9, s15t7, s15t8, s15t9, s15f0, s15f1, s15f4, s15f5, s15f6]
     refine nil_z hL17 ?_
     refine awp_cond (t := ?t18) ?h18 (fun hb18 => ?a18) (fun hb18 => ?b18)
     case h18 => simp only [qq, seval, -Nat.reducePow, reduceIte, reduceCtorEq, hb5, hb9, s15t7, s15t8, s15t9, s15f0, s15f1, s15f4, s15f5, s15f6]; rfl
     case a18 =>
      have hp18 := hb18
      try simp only [kb] at hp18
      refine awp_skip ?_
      refine hK16 _ ?_
      refine awp_seq_k fun K19 hK19 => ?_
      refine awp_block ?_
      refine awp_seq_k fun K20 hK20 => ?_
      have s9 : (w - 1 - (j : Int)).toNat = (l.take w.toNat).length - 1 - j := by omega
      have hvs := val_step (l := l.take w.toNat) (j := j) (by omega)
      have hv := val_lt40 (l := (l.take w.toNat).drop ((l.take w.toNat).length - j)) (by rw [List.length_drop]; omega)
      have hp := pow40 (k := j) (by omega)
      have hg : (l.take w.toNat).getD ((l.take w.toNat).length - 1 - j) default = l.getD ((l.take w.toNat).length - 1 - j) default := by (simp only [List.getD]; rw [List.getElem?_take, if_pos (by omega)])
      rw [hg] at hvs
      refine seq_reg 2 fun L21 hL21 => ?_
      simp only [qq, seval, -Nat.reducePow, reduceIte, reduceCtorEq, hb5, hb9, s15t7, s15t8, s15t9, s15f0, s15f1, s15f4, s15f5, s15f6, hb18, s9]
      refine aops_val (v := ?v22) rfl ?h22 ?_
      case h22 => simp only [qq, seval, -Nat.reducePow, reduceIte, reduceCtorEq, hb5, hb9, s15t7, s15t8, s15t9, s15f0, s15f1, s15f4, s15f5, s15f6, hb18, s9]; first | (rw [idx_c un36 if4] <;> omega) | (rw [idx_o un36 if4] <;> omega) | (rw [idx_a un36 if4] <;> omega)
      simp only [qq, seval, -Nat.reducePow, reduceIte, reduceCtorEq, hb5, hb9, s15t7, s15t8, s15t9, s15f0, s15f1, s15f4, s15f5, s15f6, hb18, s9]
      refine aops_orunN 1 _ _ ?_
      simp only [qq, seval, -Nat.reducePow, reduceIte, reduceCtorEq, hb5, hb9, s15t7, s15t8, s15t9, s15f0, s15f1, s15f4, s15f5, s15f6, hb18, s9]
      refine nil_z hL21 ?_
      as_aux_lemma =>
       refine awp_cond (t := ?t23) ?h23 (fun hb23 => ?a23) (fun hb23 => ?b23)
       case h23 => simp only [qq, seval, -Nat.reducePow, reduceIte, reduceCtorEq, hb5, hb9, s15t7, s15t8, s15t9, s15f0, s15f1, s15f4, s15f5, s15f6, hb18, s9]; rfl
       case a23 =>
        have hp23 := hb23
        try simp only [kb] at hp23
        refine reg 2 fun L24 hL24 => ?_
        simp only [qq, seval, -Nat.reducePow, reduceIte, reduceCtorEq, hb5, hb9, s15t7, s15t8, s15t9, s15f0, s15f1, s15f4, s15f5, s15f6, hb18, s9, hb23]
        refine aops_val (v := ?v25) rfl ?h25 ?_
        case h25 => simp only [qq, seval, -Nat.reducePow, reduceIte, reduceCtorEq, hb5, hb9, s15t7, s15t8, s15t9, s15f0, s15f1, s15f4, s15f5, s15f6, hb18, s9, hb23]; first | (rw [wr_id] <;> omega) | rfl
        simp only [qq, seval, -Nat.reducePow, reduceIte, reduceCtorEq, hb5, hb9, s15t7, s15t8, s15t9, s15f0, s15f1, s15f4, s15f5, s15f6, hb18, s9, hb23]
        refine aops_orunN 1 _ _ ?_
        simp only [qq, seval, -Nat.reducePow, reduceIte, reduceCtorEq, hb5, hb9, s15t7, s15t8, s15t9, s15f0, s15f1, s15f4, s15f5, s15f6, hb18, s9, hb23]
        refine nil_q hL24 ?_
        refine hK20 _ ?_
        refine reg 1 fun L26 hL26 => ?_
        simp only [qq, seval, -Nat.reducePow, reduceIte, reduceCtorEq, hb5, hb9, s15t7, s15t8, s15t9, s15f0, s15f1, s15f4, s15f5, s15f6, hb18, s9, hb23]
        refine aops_val (v := ?v27) rfl ?h27 ?_
        case h27 => simp only [qq, seval, -Nat.reducePow, reduceIte, reduceCtorEq, hb5, hb9, s15t7, s15t8, s15t9, s15f0, s15f1, s15f4, s15f5, s15f6, hb18, s9, hb23]; first | (rw [wr_id] <;> omega) | rfl
        simp only [qq, seval, -Nat.reducePow, reduceIte, reduceCtorEq, hb5, hb9, s15t7, s15t8, s15t9, s15f0, s15f1, s15f4, s15f5, s15f6, hb18, s9, hb23]
        refine aops_orunN 1 _ _ ?_
        simp only [qq, seval, -Nat.reducePow, reduceIte, reduceCtorEq, hb5, hb9, s15t7, s15t8, s15t9, s15f0, s15f1, s15f4, s15f5, s15f6, hb18, s9, hb23]
        refine nil_q hL26 ?_
        try simp only [rk_state]
        refine hK19 _ ?_
        refine reg 1 fun L28 hL28 => ?_
        simp only [qq, seval, -Nat.reducePow, reduceIte, reduceCtorEq, hb5, hb9, s15t7, s15t8, s15t9, s15f0, s15f1, s15f4, s15f5, s15f6, hb18, s9, hb23]
        refine aops_val (v := ?v29) rfl ?h29 ?_
        case h29 => simp only [qq, seval, -Nat.reducePow, reduceIte, reduceCtorEq, hb5, hb9, s15t7, s15t8, s15t9, s15f0, s15f1, s15f4, s15f5, s15f6, hb18, s9, hb23]; first | (rw [wr_id] <;> omega) | rfl
        simp only [qq, seval, -Nat.reducePow, reduceIte, reduceCtorEq, hb5, hb9, s15t7, s15t8, s15t9, s15f0, s15f1, s15f4, s15f5, s15f6, hb18, s9, hb23]
        refine aops_orunN 1 _ _ ?_
        simp only [qq, seval, -Nat.reducePow, reduceIte, reduceCtorEq, hb5, hb9, s15t7, s15t8, s15t9, s15f0, s15f1, s15f4, s15f5, s15f6, hb18, s9, hb23]
        refine nil_q hL28 ?_
        try simp only [rk_state]
        have e1 : (l.take w.toNat).length - (j + 1) = (l.take w.toNat).length - 1 - j := by omega
        have hpn := Int.pow_succ 2 j
        refine hK15 _ ((fun (j : Nat) => w.toNat - j) (j + 1)) ?_ ⟨j + 1, rfl, ?_, ?_, ?_, ?_⟩
        · (try simp only []); omega
        · first | omega | simp
        · (try simp only [qq, seval, -Nat.reducePow, reduceIte, reduceCtorEq, hb5, hb9, s15t7, s15t8, s15t9, s15f0, s15f1, s15f4, s15f5, s15f6, hb18, s9, hb23])
          all_goals (simp only [AV.c.injEq, C.int.injEq, true_and]; rw [e1, hvs]; simp_all; try omega)
        · (try simp only [qq, seval, -Nat.reducePow, reduceIte, reduceCtorEq, hb5, hb9, s15t7, s15t8, s15t9, s15f0, s15f1, s15f4, s15f5, s15f6, hb18, s9, hb23])
          all_goals (simp only [AV.c.injEq, C.int.injEq, true_and]; omega)
        · (try simp only [qq, seval, -Nat.reducePow, reduceIte, reduceCtorEq, hb5, hb9, s15t7, s15t8, s15t9, s15f0, s15f1, s15f4, s15f5, s15f6, hb18, s9, hb23])
          all_goals (first | done | rfl | (simp only [AV.c.injEq, C.int.injEq, List.cons.injEq, and_true, true_and]; omega))
       case b23 =>
        have hp23 := hb23
        try simp only [kb] at hp23
        refine awp_skip ?_
        refine hK20 _ ?_
        as_aux_lemma =>
         refine reg 1 fun L30 hL30 => ?_
         simp only [qq, seval, -Nat.reducePow, reduceIte, reduceCtorEq, hb5, hb9, s15t7, s15t8, s15t9, s15f0, s15f1, s15f4, s15f5, s15f6, hb18, s9, hb23]
         refine aops_val (v := ?v31) rfl ?h31 ?_
         case h31 => simp only [qq, seval, -Nat.reducePow, reduceIte, reduceCtorEq, hb5, hb9, s15t7, s15t8, s15t9, s15f0, s15f1, s15f4, s15f5, s15f6, hb18, s9, hb23]; first | (rw [wr_id] <;> omega) | rfl
         simp only [qq, seval, -Nat.reducePow, reduceIte, reduceCtorEq, hb5, hb9, s15t7, s15t8, s15t9, s15f0, s15f1, s15f4, s15f5, s15f6, hb18, s9, hb23]
         refine aops_orunN 1 _ _ ?_
         simp only [qq, seval, -Nat.reducePow, reduceIte, reduceCtorEq, hb5, hb9, s15t7, s15t8, s15t9, s15f0, s15f1, s15f4, s15f5, s15f6, hb18, s9, hb23]
         refine nil_q hL30 ?_
         try simp only [rk_state]
         refine hK19 _ ?_
         refine reg 1 fun L32 hL32 => ?_
         simp only [qq, seval, -Nat.reducePow, reduceIte, reduceCtorEq, hb5, hb9, s15t7, s15t8, s15t9, s15f0, s15f1, s15f4, s15f5, s15f6, hb18, s9, hb23]
         refine aops_val (v := ?v33) rfl ?h33 ?_
         case h33 => simp only [qq, seval, -Nat.reducePow, reduceIte, reduceCtorEq, hb5, hb9, s15t7, s15t8, s15t9, s15f0, s15f1, s15f4, s15f5, s15f6, hb18, s9, hb23]; first | (rw [wr_id] <;> omega) | rfl
         simp only [qq, seval, -Nat.reducePow, reduceIte, reduceCtorEq, hb5, hb9, s15t7, s15t8, s15t9, s15f0, s15f1, s15f4, s15f5, s15f6, hb18, s9, hb23]
         refine aops_orunN 1 _ _ ?_
         simp only [qq, seval, -Nat.reducePow, reduceIte, reduceCtorEq, hb5, hb9, s15t7, s15t8, s15t9, s15f0, s15f1, s15f4, s15f5, s15f6, hb18, s9, hb23]
         refine nil_q hL32 ?_
         try simp only [rk_state]
         have e1 : (l.take w.toNat).length - (j + 1) = (l.take w.toNat).length - 1 - j := by omega
         have hpn := Int.pow_succ 2 j
         refine hK15 _ ((fun (j : Nat) => w.toNat - j) (j + 1)) ?_ ⟨j + 1, rfl, ?_, ?_, ?_, ?_⟩
         · (try simp only []); omega
         · first | omega | simp
         · (try simp only [qq, seval, -Nat.reducePow, reduceIte, reduceCtorEq, hb5, hb9, s15t7, s15t8, s15t9, s15f0, s15f1, s15f4, s15f5, s15f6, hb18, s9, hb23])
           all_goals (simp only [AV.c.injEq, C.int.injEq, true_and]; rw [e1, hvs]; simp_all; try omega)
         · (try simp only [qq, seval, -Nat.reducePow, reduceIte, reduceCtorEq, hb5, hb9, s15t7, s15t8, s15t9, s15f0, s15f1, s15f4, s15f5, s15f6, hb18, s9, hb23])
           all_goals (simp only [AV.c.injEq, C.int.injEq, true_and]; omega)
         · (try simp only [qq, seval, -Nat.reducePow, reduceIte, reduceCtorEq, hb5, hb9, s15t7, s15t8, s15t9, s15f0, s15f1, s15f4, s15f5, s15f6, hb18, s9, hb23])
           all_goals (first | done | rfl | (simp only [AV.c.injEq, C.int.injEq, List.cons.injEq, and_true, true_and]; omega))
     case b18 =>
      have hp18 := hb18
      try simp only [kb] at hp18
      refine awp_exit ?_
      simp only [rk_state, reduceIte, Nat.reduceEqDiff]
      refine hK12 _ ?_
      refine seq_regd 3 (by decide +kernel) fun L34 hL34 => ?_
      simp only [qq, seval, -Nat.reducePow, reduceIte, reduceCtorEq, hb5, hb9, s15t7, s15t8, s15t9, s15f0, s15f1, s15f4, s15f5, s15f6, hb18]
      refine aops_val (v := ?v35) rfl ?h35 ?_
      case h35 => simp only [qq, seval, -Nat.reducePow, reduceIte, reduceCtorEq, hb5, hb9, s15t7, s15t8, s15t9, s15f0, s15f1, s15f4, s15f5, s15f6, hb18]; first | (rw [slc_l un36 if4] <;> omega) | (rw [slc_lo un36 if4] <;> omega)
      simp only [qq, seval, -Nat.reducePow, reduceIte, reduceCtorEq, hb5, hb9, s15t7, s15t8, s15t9, s15f0, s15f1, s15f4, s15f5, s15f6, hb18]
      refine aops_orunN 3 _ _ ?_
      simp only [qq, seval, -Nat.reducePow, reduceIte, reduceCtorEq, hb5, hb9, s15t7, s15t8, s15t9, s15f0, s15f1, s15f4, s15f5, s15f6, hb18]
      refine nil_z hL34 ?_
      as_aux_lemma =>
       refine awp_ret ?_
       try simp only [rk_state]
       refine ⟨_, 0, by simp only [qq, seval, -Nat.reducePow, reduceIte, reduceCtorEq, resA, Try.results35, hb5, hb9, s15t7, s15t8, s15t9, s15f0, s15f1, s15f4, s15f5, s15f6, hb18]; rfl, ?_, nomem_a, nomem_a⟩
       simp only [packA]
       unfold takeR; first | (rw [if_pos (by omega)]; (repeat' (first | exact .nil | exact wkR_c | exact wkR_own | exact wkR_nils | refine wkR_int ?_ | refine wkR_bool ?_ | refine wkR_sl ?_ | refine wkR_osl ?_ | refine wkR_nsl ?_ | refine wkR_oo ?_ | refine wkR_no ?_ | refine .cons ?_ ?_ | refine wkR_agg ?_ | refine wkR_tup ?_)) <;> rfl) | (rw [if_neg (by omega), if_pos (by omega)]; (repeat' (first | exact .nil | exact wkR_c | exact wkR_own | exact wkR_nils | refine wkR_int ?_ | refine wkR_bool ?_ | refine wkR_sl ?_ | refine wkR_osl ?_ | refine wkR_nsl ?_ | refine wkR_oo ?_ | refine wkR_no ?_ | refine .cons ?_ ?_ | refine wkR_agg ?_ | refine wkR_tup ?_)) <;> rfl) | (have ej : (j : Int) = w := by omega); (rw [if_neg (by omega), if_neg (by omega)]); (repeat' (first | exact .nil | exact wkR_c | exact wkR_own | exact wkR_nils | refine wkR_int ?_ | refine wkR_bool ?_ | refine wkR_sl ?_ | refine wkR_osl ?_ | refine wkR_nsl ?_ | refine wkR_oo ?_ | refine wkR_no ?_ | refine .cons ?_ ?_ | refine wkR_agg ?_ | refine wkR_tup ?_)) <;> first | done | (rw [show (l.take w.toNat).length - j = 0 from by omega, List.drop_zero])
set_option maxHeartbeats 4000000 in
set_option maxRecDepth 50000 in
theorem bitsof_fun (l : List Bool) (n w : Int) (hl : l.length ≤ 140737488355288) (hn : n ≤ 9223372036854775807) : Fun Try.prog 34 [.c (.sl 4 (Rw boC l)), .c (.int .i64 n), .c (.int .i64 w)] nomem (.tup [.own false 0 4 (Rw boC (putR l n w).1), .c (.int .i64 (putR l n w).2)]) nomem := by
 refine fun_of_awp Try.func34 rfl (by decide +kernel) (by decide +kernel) (Nat.le_of_ble_eq_true rfl) (fun _ _ => rfl) (fun _ _ => rfl) ?_
 refine seq_reg 2 fun L1 hL1 => ?_
 simp only [qq, seval, -Nat.reducePow, reduceIte, reduceCtorEq, Nat.mul_one]
 refine nil_z hL1 ?_
 refine awp_seq_k fun K2 hK2 => ?_
 refine seq_reg 1 fun L3 hL3 => ?_
 simp only [qq, seval, -Nat.reducePow, reduceIte, reduceCtorEq, Nat.mul_one]
 refine aops_call (in_fun _ _ _) rfl rfl rfl rfl (by (try simp only [qq, seval, -Nat.reducePow, reduceIte, reduceCtorEq, Nat.mul_one]); (repeat' (first | exact .nil | exact wk_c | exact wk_ownc | exact wk_nilsc | exact wk_nils | exact wk_fn | refine .cons ?_ ?_ | refine wk_agg ?_ | refine wk_fnL ?_))) rfl rfl ?_
 simp only [qq, seval, -Nat.reducePow, reduceIte, reduceCtorEq, Nat.mul_one]
 refine aops_orunN 2 _ _ ?_
 simp only [qq, seval, -Nat.reducePow, reduceIte, reduceCtorEq, Nat.mul_one]
 refine aops_part (b := ?p5) 13 ?h5 (fun hb5 => ?a5) (fun hb5 => ?b5)
 case h5 => simp only [qq, seval, -Nat.reducePow, reduceIte, reduceCtorEq, Nat.mul_one]; rfl
 case a5 =>
  have hp5 := hb5
  try simp only [kb] at hp5
  try simp only [hb5]
  refine aops_orunN 7 _ _ ?_
  simp only [qq, seval, -Nat.reducePow, reduceIte, reduceCtorEq, Nat.mul_one, hb5]
  refine nil_z hL3 ?_
  refine awp_cond (t := true) (by simp only [qq, seval, -Nat.reducePow, reduceIte, reduceCtorEq, Nat.mul_one, hb5]) (fun _ => ?_) (fun h => ?_)
  case refine_2 => cases h
  refine seq_reg 2 fun L6 hL6 => ?_
  simp only [qq, seval, -Nat.reducePow, reduceIte, reduceCtorEq, Nat.mul_one, hb5]
  refine nil_z hL6 ?_
  as_aux_lemma =>
   refine awp_ret ?_
   try simp only [rk_state]
   refine ⟨_, 41, by simp only [qq, seval, -Nat.reducePow, reduceIte, reduceCtorEq, resA, Try.results34, Nat.mul_one, hb5]; rfl, ?_, nomem_a, nomem_a⟩
   simp only [packA]
   (simp only [putR]); first | (rw [if_neg (by unfold putOk; omega)]; (repeat' (first | exact .nil | exact wkR_c | exact wkR_own | exact wkR_nils | refine wkR_int ?_ | refine wkR_bool ?_ | refine wkR_sl ?_ | refine wkR_osl ?_ | refine wkR_nsl ?_ | refine wkR_oo ?_ | refine wkR_no ?_ | refine .cons ?_ ?_ | refine wkR_agg ?_ | refine wkR_tup ?_)) <;> rfl) | (rw [if_pos (by unfold putOk; omega)]; (repeat' (first | exact .nil | exact wkR_c | exact wkR_own | exact wkR_nils | refine wkR_int ?_ | refine wkR_bool ?_ | refine wkR_sl ?_ | refine wkR_osl ?_ | refine wkR_nsl ?_ | refine wkR_oo ?_ | refine wkR_no ?_ | refine .cons ?_ ?_ | refine wkR_agg ?_ | refine wkR_tup ?_)))
 case b5 =>
  have hp5 := hb5
  try simp only [kb] at hp5
  try simp only [hb5]
  refine aops_orunN 2 _ _ ?_
  simp only [qq, seval, -Nat.reducePow, reduceIte, reduceCtorEq, Nat.mul_one, hb5]
  have hmin : min w.toNat IntKind.i64.bits = w.toNat := by show min w.toNat 64 = _; omega
  have hp := pow40 (k := w.toNat) (by omega)
  refine aops_val (v := ?v7) (by simp only [qq, seval, -Nat.reducePow, reduceIte, reduceCtorEq, Nat.mul_one, hb5]) ?h7 ?_
  case h7 => simp only [qq, seval, -Nat.reducePow, reduceIte, reduceCtorEq, Nat.mul_one, hb5]; (rw [y_shl (by omega), hmin, wr_id] <;> omega)
  simp only [qq, seval, -Nat.reducePow, reduceIte, reduceCtorEq, Nat.mul_one, hb5]
  refine aops_val (v := ?v8) (by simp only [qq, seval, -Nat.reducePow, reduceIte, reduceCtorEq, Nat.mul_one, hb5]) ?h8 ?_
  case h8 => simp only [qq, seval, -Nat.reducePow, reduceIte, reduceCtorEq, Nat.mul_one, hb5]; first | (rw [wr_id] <;> omega) | rfl
  simp only [qq, seval, -Nat.reducePow, reduceIte, reduceCtorEq, Nat.mul_one, hb5]
  refine aops_call (in_fun _ _ _) (by simp only [qq, seval, -Nat.reducePow, reduceIte, reduceCtorEq, Nat.mul_one, hb5]) rfl rfl rfl (by (try simp only [qq, seval, -Nat.reducePow, reduceIte, reduceCtorEq, Nat.mul_one, hb5]); (repeat' (first | exact .nil | exact wk_c | exact wk_ownc | exact wk_nilsc | exact wk_nils | exact wk_fn | refine .cons ?_ ?_ | refine wk_agg ?_ | refine wk_fnL ?_))) rfl rfl ?_
  simp only [qq, seval, -Nat.reducePow, reduceIte, reduceCtorEq, Nat.mul_one, hb5]
  refine aops_orunN 2 _ _ ?_
  simp only [qq, seval, -Nat.reducePow, reduceIte, reduceCtorEq, Nat.mul_one, hb5]
  refine nil_z hL3 ?_
  refine awp_cond (t := ?t10) ?h10 (fun hb10 => ?a10) (fun hb10 => ?b10)
  case h10 => simp only [qq, seval, -Nat.reducePow, reduceIte, reduceCtorEq, Nat.mul_one, hb5]; rfl
  case a10 =>
   have hp10 := hb10
   try simp only [kb] at hp10
   refine seq_reg 2 fun L11 hL11 => ?_
   simp only [qq, seval, -Nat.reducePow, reduceIte, reduceCtorEq, Nat.mul_one, hb5, hb10]
   refine nil_z hL11 ?_
   refine awp_ret ?_
   try simp only [rk_state]
   refine ⟨_, 41, by simp only [qq, seval, -Nat.reducePow, reduceIte, reduceCtorEq, resA, Try.results34, Nat.mul_one, hb5, hb10]; rfl, ?_, nomem_a, nomem_a⟩
   simp only [packA]
   (simp only [putR]); first | (rw [if_neg (by unfold putOk; omega)]; (repeat' (first | exact .nil | exact wkR_c | exact wkR_own | exact wkR_nils | refine wkR_int ?_ | refine wkR_bool ?_ | refine wkR_sl ?_ | refine wkR_osl ?_ | refine wkR_nsl ?_ | refine wkR_oo ?_ | refine wkR_no ?_ | refine .cons ?_ ?_ | refine wkR_agg ?_ | refine wkR_tup ?_)) <;> rfl) | (rw [if_pos (by unfold putOk; omega)]; (repeat' (first | exact .nil | exact wkR_c | exact wkR_own | exact wkR_nils | refine wkR_int ?_ | refine wkR_bool ?_ | refine wkR_sl ?_ | refine wkR_osl ?_ | refine wkR_nsl ?_ | refine wkR_oo ?_ | refine wkR_no ?_ | refine .cons ?_ ?_ | refine wkR_agg ?_ | refine wkR_tup ?_)))
  case b10 =>
   have hp10 := hb10
   try simp only [kb] at hp10
   refine awp_skip ?_
   refine hK2 _ ?_
   have hmin : min w.toNat IntKind.i64.bits = w.toNat := by show min w.toNat 64 = _; omega
   have hp := pow40 (k := w.toNat) (by omega)
   have hn0 : 0 ≤ n := by omega
   refine seq_reg 1 fun L12 hL12 => ?_
   simp only [qq, seval, -Nat.reducePow, reduceIte, reduceCtorEq, Nat.mul_one, hb5, hb10]
   refine aops_make (n := ?n13) 2022 un36 (by simp only [tyf]; rfl) (by simp only [tyf]; rfl) (by simp only [tyf]; decide) rfl rfl (by decide) ?m13 ?l13 ?c13 ?p13 ?q13 ?u13 ?_
   case m13 => simp only [qq, seval, -Nat.reducePow, reduceIte, reduceCtorEq, Nat.mul_one, hb5, hb10]
   case l13 => simp only [qq, seval, -Nat.reducePow, reduceIte, reduceCtorEq, Nat.mul_one, hb5, hb10]; rfl
   case c13 => simp only [qq, seval, -Nat.reducePow, reduceIte, reduceCtorEq, Nat.mul_one, hb5, hb10]
   case p13 => omega
   case q13 => (simp only [tyf]; omega)
   case u13 => omega
   simp only [qq, seval, -Nat.reducePow, reduceIte, reduceCtorEq, Nat.mul_one, hb5, hb10]
   refine aops_orunN 1 _ _ ?_
   simp only [qq, seval, -Nat.reducePow, reduceIte, reduceCtorEq, Nat.mul_one, hb5, hb10]
   refine nil_z hL12 ?_
   refine awp_seq_k fun K14 hK14 => ?_
   refine seq_reg 2 fun L15 hL15 => ?_
   simp only [qq, seval, -Nat.reducePow, reduceIte, reduceCtorEq, Nat.mul_one, hb5, hb10]
   refine aops_val (v := ?v16) rfl ?h16 ?_
   case h16 => simp only [qq, seval, -Nat.reducePow, reduceIte, reduceCtorEq, Nat.mul_one, hb5, hb10]; first | (rw [wr_id] <;> omega) | rfl
   simp only [qq, seval, -Nat.reducePow, reduceIte, reduceCtorEq, Nat.mul_one, hb5, hb10]
   refine aops_orunN 1 _ _ ?_
   simp only [qq, seval, -Nat.reducePow, reduceIte, reduceCtorEq, Nat.mul_one, hb5, hb10]
   refine nil_z hL15 ?_
   as_aux_lemma =>
    refine awp_block ?_
    refine awp_loopW (W := [26, 27, 30, 31, 32, 33, 34, 35, 36, 37, 1, 28, 29, 9]) (M := []) rfl rfl (fun kk s => ∃ (j : Nat), kk = w.toNat - j ∧ (j ≤ w.toNat) ∧ s.t 1 = .c (.int .i64 (n / 2 ^ j)) ∧ s.t 8 = .arr 2022 0 w.toNat w.toNat 4 ∧ s.t 9 = .c (.int .i64 (w - 1 - (j : Int))) ∧ s.m 2022 = (fillB w.toNat n j).map (fun b => AV.c (.bool b))) ((fun (j : Nat) => w.toNat - j) (0)) ?i17 ?r17
    case i17 =>
     refine ⟨0, rfl, ?_, ?_, ?_, ?_, ?_⟩
     · first | omega | simp
     · (try simp only [qq, seval, -Nat.reducePow, reduceIte, reduceCtorEq, Nat.mul_one, hb5, hb10])
       all_goals simp
     · (try simp only [qq, seval, -Nat.reducePow, reduceIte, reduceCtorEq, Nat.mul_one, hb5, hb10])
       all_goals (first | done | rfl | (simp only [AV.c.injEq, C.int.injEq, List.cons.injEq, and_true, true_and]; omega))
     · (try simp only [qq, seval, -Nat.reducePow, reduceIte, reduceCtorEq, Nat.mul_one, hb5, hb10])
       all_goals (first | done | rfl | (simp only [AV.c.injEq, C.int.injEq, List.cons.injEq, and_true, true_and]; omega))
     · (try simp only [qq, seval, -Nat.reducePow, reduceIte, reduceCtorEq, Nat.mul_one, hb5, hb10])
       all_goals (rw [fillB_zero]; simp [List.map_replicate, List.flatten_replicate_singleton, kz]; done)
    case r17 =>
     rintro kk s hf ⟨j, rfl, hq5_0, s17t1, s17t8, s17t9, s17m2022⟩ K17 hK17
     have s17f0 := hf 0 rfl (by (try simp only [qq, seval, -Nat.reducePow, reduceIte, reduceCtorEq, kn, Nat.mul_one, hb5, hb10]); all_goals rfl)
     simp only [qq, seval, -Nat.reducePow, reduceIte, reduceCtorEq, Nat.mul_one, hb5, hb10] at s17f0
     have s17f6 := hf 6 rfl (by (try simp only [qq, seval, -Nat.reducePow, reduceIte, reduceCtorEq, kn, Nat.mul_one, hb5, hb10]); all_goals rfl)
     simp only [qq, seval, -Nat.reducePow, reduceIte, reduceCtorEq, Nat.mul_one, hb5, hb10] at s17f6
     have s17f7 := hf 7 rfl (by (try simp only [qq, seval, -Nat.reducePow, reduceIte, reduceCtorEq, kn, Nat.mul_one, hb5, hb10]); all_goals rfl)
     simp only [qq, seval, -Nat.reducePow, reduceIte, reduceCtorEq, Nat.mul_one, hb5, hb10] at s17f7
     clear hf
     refine awp_seq_k fun K18 hK18 => ?_
     refine awp_seq_k fun K19 hK19 => ?_
     refine awp_region_gh fun L20 hL20 => ?_
     refine aops_orunN 2 _ _ ?_
     simp only [qq, seval, -Nat.reducePow, reduceIte, reduceCtorEq, Nat.mul_one, hb5, hb10, s17t1, s17t8, s17t9, s17m2022, s17f0, s17f6, s17f7]
     refine aops_part (b := ?p21) 27 ?h21 (fun hb21 => ?a21) (fun hb21 => ?b21)
     case h21 => simp only [qq, seval, -Nat.reducePow, reduceIte, reduceCtorEq, Nat.mul_one, hb5, hb10, s17t1, s17t8, s17t9, s17m2022, s17f0, s17f6, s17f7]; rfl
     case a21 =>
      have hp21 := hb21
      try simp only [kb] at hp21
      try simp only [hb21]
      refine aops_nil (hL20 _ _ (.refl _) ?_)
      simp only [qq, seval, -Nat.reducePow, reduceIte, reduceCtorEq, Nat.mul_one, hb5, hb10, s17t1, s17t8, s17t9, s17m2022, s17f0, s17f6, s17f7, hb21]
      refine hK19 _ ?_
      refine awp_cond (t := true) (by simp only [qq, seval, -Nat.reducePow, reduceIte, reduceCtorEq, Nat.mul_one, hb5, hb10, s17t1, s17t8, s17t9, s17m2022, s17f0, s17f6, s17f7, hb21]) (fun _ => ?_) (fun h => ?_)
      case refine_2 => cases h
      refine awp_skip ?_
      refine hK18 _ ?_
      refine awp_seq_k fun K22 hK22 => ?_
      refine awp_block ?_
      have hd := div_pow_le (a := n) hn0 j
      have s9 : (w - 1 - (j : Int)).toNat = w.toNat - 1 - j := by omega
      have hfl := fillB_len w.toNat n (j := j) (by omega)
      have s16 : (List.map (fun b => AV.c (.bool b)) (fillB w.toNat n j)).length = w.toNat := by rw [List.length_map, hfl]
      have s15 : (w.toNat - 1 - j + 1 ≤ w.toNat) = True := eq_true (by omega)
      refine seq_reg 3 fun L23 hL23 => ?_
      simp only [qq, seval, -Nat.reducePow, reduceIte, reduceCtorEq, Nat.mul_one, hb5, hb10, s17t1, s17t8, s17t9, s17m2022, s17f0, s17f6, s17f7, hb21, s9, s16, s15]
      have s14 : ((n / 2 ^ j).tmod 2 == 1) = bitAt n j := by (rw [Int.tmod_eq_emod_of_nonneg hd.1]; rfl)
      refine aops_val (v := ?v24) rfl ?h24 ?_
      case h24 => simp only [qq, seval, -Nat.reducePow, reduceIte, reduceCtorEq, Nat.mul_one, hb5, hb10, s17t1, s17t8, s17t9, s17m2022, s17f0, s17f6, s17f7, hb21, s9, s16, s15, s14]; (rw [y_rem] <;> omega)
      simp only [qq, seval, -Nat.reducePow, reduceIte, reduceCtorEq, Nat.mul_one, hb5, hb10, s17t1, s17t8, s17t9, s17m2022, s17f0, s17f6, s17f7, hb21, s9, s16, s15, s14]
      refine aops_orunN 1 _ _ ?_
      simp only [qq, seval, -Nat.reducePow, reduceIte, reduceCtorEq, Nat.mul_one, hb5, hb10, s17t1, s17t8, s17t9, s17m2022, s17f0, s17f6, s17f7, hb21, s9, s16, s15, s14]
      refine aops_val (v := ?v25) rfl ?h25 ?_
      case h25 => simp only [qq, seval, -Nat.reducePow, reduceIte, reduceCtorEq, Nat.mul_one, hb5, hb10, s17t1, s17t8, s17t9, s17m2022, s17f0, s17f6, s17f7, hb21, s9, s16, s15, s14]; first | (rw [idx_c un36 if4] <;> omega) | (rw [idx_o un36 if4] <;> omega) | (rw [idx_a un36 if4] <;> omega)
      simp only [qq, seval, -Nat.reducePow, reduceIte, reduceCtorEq, Nat.mul_one, hb5, hb10, s17t1, s17t8, s17t9, s17m2022, s17f0, s17f6, s17f7, hb21, s9, s16, s15, s14]
      refine aops_orunN 1 _ _ ?_
      simp only [qq, seval, -Nat.reducePow, reduceIte, reduceCtorEq, Nat.mul_one, hb5, hb10, s17t1, s17t8, s17t9, s17m2022, s17f0, s17f6, s17f7, hb21, s9, s16, s15, s14]
      refine nil_z hL23 ?_
      refine reg 1 fun L26 hL26 => ?_
      simp only [qq, seval, -Nat.reducePow, reduceIte, reduceCtorEq, Nat.mul_one, hb5, hb10, s17t1, s17t8, s17t9, s17m2022, s17f0, s17f6, s17f7, hb21, s9, s16, s15, s14]
      refine aops_val (v := ?v27) rfl ?h27 ?_
      case h27 => simp only [qq, seval, -Nat.reducePow, reduceIte, reduceCtorEq, Nat.mul_one, hb5, hb10, s17t1, s17t8, s17t9, s17m2022, s17f0, s17f6, s17f7, hb21, s9, s16, s15, s14]; (rw [y_quo (by omega), wr_id] <;> first | rfl | (rw [Int.tdiv_eq_ediv_of_nonneg hd.1]; omega))
      simp only [qq, seval, -Nat.reducePow, reduceIte, reduceCtorEq, Nat.mul_one, hb5, hb10, s17t1, s17t8, s17t9, s17m2022, s17f0, s17f6, s17f7, hb21, s9, s16, s15, s14]
      refine aops_orunN 1 _ _ ?_
      simp only [qq, seval, -Nat.reducePow, reduceIte, reduceCtorEq, Nat.mul_one, hb5, hb10, s17t1, s17t8, s17t9, s17m2022, s17f0, s17f6, s17f7, hb21, s9, s16, s15, s14]
      refine nil_q hL26 ?_
      try simp only [rk_state]
      refine hK22 _ ?_
      as_aux_lemma =>
       refine reg 1 fun L28 hL28 => ?_
       simp only [qq, seval, -Nat.reducePow, reduceIte, reduceCtorEq, Nat.mul_one, hb5, hb10, s17t1, s17t8, s17t9, s17m2022, s17f0, s17f6, s17f7, hb21, s9, s16, s15, s14]
       refine aops_val (v := ?v29) rfl ?h29 ?_
       case h29 => simp only [qq, seval, -Nat.reducePow, reduceIte, reduceCtorEq, Nat.mul_one, hb5, hb10, s17t1, s17t8, s17t9, s17m2022, s17f0, s17f6, s17f7, hb21, s9, s16, s15, s14]; first | (rw [wr_id] <;> omega) | rfl
       simp only [qq, seval, -Nat.reducePow, reduceIte, reduceCtorEq, Nat.mul_one, hb5, hb10, s17t1, s17t8, s17t9, s17m2022, s17f0, s17f6, s17f7, hb21, s9, s16, s15, s14]
       refine aops_orunN 1 _ _ ?_
       simp only [qq, seval, -Nat.reducePow, reduceIte, reduceCtorEq, Nat.mul_one, hb5, hb10, s17t1, s17t8, s17t9, s17m2022, s17f0, s17f6, s17f7, hb21, s9, s16, s15, s14]
       refine nil_q hL28 ?_
       try simp only [rk_state]
       have hfn := fillB_next (n := n) (w := w.toNat) (j := j) (by omega)
       refine hK17 _ ((fun (j : Nat) => w.toNat - j) (j + 1)) ?_ ⟨j + 1, rfl, ?_, ?_, ?_, ?_, ?_⟩
       · (try simp only []); omega
       · first | omega | simp
       · (try simp only [qq, seval, -Nat.reducePow, reduceIte, reduceCtorEq, Nat.mul_one, hb5, hb10, s17t1, s17t8, s17t9, s17m2022, s17f0, s17f6, s17f7, hb21, s9, s16, s15, s14])
         all_goals (rw [← div_two, Int.tdiv_eq_ediv_of_nonneg hd.1])
       · (try simp only [qq, seval, -Nat.reducePow, reduceIte, reduceCtorEq, Nat.mul_one, hb5, hb10, s17t1, s17t8, s17t9, s17m2022, s17f0, s17f6, s17f7, hb21, s9, s16, s15, s14])
         all_goals (first | done | rfl | (simp only [AV.c.injEq, C.int.injEq, List.cons.injEq, and_true, true_and]; omega))
       · (try simp only [qq, seval, -Nat.reducePow, reduceIte, reduceCtorEq, Nat.mul_one, hb5, hb10, s17t1, s17t8, s17t9, s17m2022, s17f0, s17f6, s17f7, hb21, s9, s16, s15, s14])
         all_goals (first | done | rfl | (simp only [AV.c.injEq, C.int.injEq, List.cons.injEq, and_true, true_and]; omega))
       · (try simp only [qq, seval, -Nat.reducePow, reduceIte, reduceCtorEq, Nat.mul_one, hb5, hb10, s17t1, s17t8, s17t9, s17m2022, s17f0, s17f6, s17f7, hb21, s9, s16, s15, s14])
         all_goals (rw [← hfn]; simp [List.map_take, List.map_drop, kz, Function.comp_def])
     case b21 =>
      have hp21 := hb21
      try simp only [kb] at hp21
      try simp only [hb21]
      have ej : j = w.toNat := by omega
      subst ej
      have s20 : (bitsN w.toNat n).take w.toNat = bitsN w.toNat n := List.take_of_length_le (by rw [bitsN_len]; omega)
      have s21 := bitsN_len w.toNat n
      refine aops_nil (hL20 _ _ (.frz 2022 4 (Rw boC (bitsN w.toNat n)) ([]) (by decide) ?r30_0 ?f30_0 (.refl _)) ?_)
      case r30_0 => (intro r hr; simp only [Rw, List.mem_map] at hr; obtain ⟨q, _, rfl⟩ := hr; simp only [tyf]; rfl)
      case f30_0 => ((try simp only [qq, seval, -Nat.reducePow, reduceIte, reduceCtorEq, Nat.mul_one, hb5, hb10, s17t1, s17t8, s17t9, s17m2022, s17f0, s17f6, s17f7, hb21, s20, s21]); (rw [fillB_all]; simp [Rw, boC, List.map_flatten, List.flatten_eq_flatMap, List.flatMap_map, List.map_flatMap]; first | done | exact List.map_eq_flatMap))
      simp only [qq, seval, -Nat.reducePow, reduceIte, reduceCtorEq, Nat.mul_one, hb5, hb10, s17t1, s17t8, s17t9, s17m2022, s17f0, s17f6, s17f7, hb21, s20, s21]
      refine hK19 _ ?_
      refine awp_cond (t := false) (by simp only [qq, seval, -Nat.reducePow, reduceIte, reduceCtorEq, Nat.mul_one, hb5, hb10, s17t1, s17t8, s17t9, s17m2022, s17f0, s17f6, s17f7, hb21, s20, s21]) (fun h => ?_) (fun _ => ?_)
      case refine_1 => cases h
      refine awp_exit ?_
      simp only [rk_state, reduceIte, Nat.reduceEqDiff]
      refine hK14 _ ?_
      refine seq_reg 3 fun L31 hL31 => ?_
      simp only [qq, seval, -Nat.reducePow, reduceIte, reduceCtorEq, Nat.mul_one, hb5, hb10, s17t1, s17t8, s17t9, s17m2022, s17f0, s17f6, s17f7, hb21, s20, s21]
      refine aops_call_own (concat_bool_fun _ ?s32_0 ?s32_1) rfl rfl rfl rfl (by (try simp only [qq, seval, -Nat.reducePow, reduceIte, reduceCtorEq, Nat.mul_one, hb5, hb10, s17t1, s17t8, s17t9, s17m2022, s17f0, s17f6, s17f7, hb21, s20, s21]); (repeat' (first | exact .nil | exact wk_c | exact wk_ownc | exact wk_nilsc | exact wk_nils | exact wk_fn | refine .cons ?_ ?_ | refine wk_agg ?_ | refine wk_fnL ?_))) rfl rfl rfl (by simp only [qq, seval, -Nat.reducePow, reduceIte, reduceCtorEq, Nat.mul_one, hb5, hb10, s17t1, s17t8, s17t9, s17m2022, s17f0, s17f6, s17f7, hb21, s20, s21]) ?m32
      case s32_0 => (simp only [List.length_cons, List.length_nil]; omega)
      case s32_1 => (first | omega | (simp only [List.flatten_cons, List.flatten_nil, List.append_nil, List.length_append, rwR]; omega))
      simp only [qq, seval, -Nat.reducePow, reduceIte, reduceCtorEq, List.flatten_cons, List.flatten_nil, List.append_nil, AV.setOwn, AV.setOwn1, Nat.mul_one, hb5, hb10, s17t1, s17t8, s17t9, s17m2022, s17f0, s17f6, s17f7, hb21, s20, s21]
      refine aops_orunN 2 _ _ ?_
      simp only [qq, seval, -Nat.reducePow, reduceIte, reduceCtorEq, Nat.mul_one, hb5, hb10, s17t1, s17t8, s17t9, s17m2022, s17f0, s17f6, s17f7, hb21, s20, s21]
      refine aops_nil (hL31 _ ?_)
      simp only [qq, seval, -Nat.reducePow, reduceIte, reduceCtorEq, Nat.mul_one, hb5, hb10, s17t1, s17t8, s17t9, s17m2022, s17f0, s17f6, s17f7, hb21, s20, s21]
      refine awp_ret ?_
      try simp only [rk_state]
      refine ⟨_, 41, by simp only [qq, seval, -Nat.reducePow, reduceIte, reduceCtorEq, resA, Try.results34, Nat.mul_one, hb5, hb10, s17t1, s17t8, s17t9, s17m2022, s17f0, s17f6, s17f7, hb21, s20, s21]; rfl, ?_, nomem_a, nomem_a⟩
      simp only [packA]
      (simp only [putR]); first | (rw [if_neg (by unfold putOk; omega)]; (repeat' (first | exact .nil | exact wkR_c | exact wkR_own | exact wkR_nils | refine wkR_int ?_ | refine wkR_bool ?_ | refine wkR_sl ?_ | refine wkR_osl ?_ | refine wkR_nsl ?_ | refine wkR_oo ?_ | refine wkR_no ?_ | refine .cons ?_ ?_ | refine wkR_agg ?_ | refine wkR_tup ?_)) <;> rfl) | (rw [if_pos (by unfold putOk; omega)]; (repeat' (first | exact .nil | exact wkR_c | exact wkR_own | exact wkR_nils | refine wkR_int ?_ | refine wkR_bool ?_ | refine wkR_sl ?_ | refine wkR_osl ?_ | refine wkR_nsl ?_ | refine wkR_oo ?_ | refine wkR_no ?_ | refine .cons ?_ ?_ | refine wkR_agg ?_ | refine wkR_tup ?_)))
end Go.Proofs.Y
