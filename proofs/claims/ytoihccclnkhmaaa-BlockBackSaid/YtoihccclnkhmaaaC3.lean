/-
  What is proved: lines: what CheckPoint, CheckPoints, Equal, Pack, PackedOf compute. Conditions: none.
-/
import Derived.Test.YtoihccclnkhmaaaC2b
import Derived.Test.YtoihccclnkhmaaaCK
import Derived.Test.YtoihccclnkhmaaaPA
set_option linter.unusedVariables false
set_option linter.unusedSimpArgs false
set_option maxRecDepth 4000
namespace Go.Proofs.Y
open Go.Rb
theorem pt_of {x y : Pt} (h : [x.t, x.v] = [y.t, y.v]) : x = y := by
  simp only [List.cons.injEq, and_true] at h
  cases x; cases y; simp only at h; rw [h.1, h.2]
theorem ptE : ∀ p : Pt, (⟨p.t, p.v⟩ : Pt) = p := fun _ => rfl
set_option maxHeartbeats 4000000 in
set_option maxRecDepth 50000 in
theorem chkp_fun (a b : Int) : Fun Try.prog 99 [.agg [.c (.int .i64 a), .c (.int .i64 b)]] nomem (.c (.int .i64 (chkP ⟨a, b⟩))) nomem := by
 refine fun_of_awp Try.func99 rfl (by decide +kernel) (by decide +kernel) (Nat.le_of_ble_eq_true rfl) (fun _ _ => rfl) (fun _ _ => rfl) ?_
 refine seq_reg 2 fun L1 hL1 => ?_
 simp only [qq, seval, -Nat.reducePow, reduceIte, reduceCtorEq]
 refine nil_z hL1 ?_
 refine awp_seq_k fun K2 hK2 => ?_
 refine seq_reg 2 fun L3 hL3 => ?_
 simp only [qq, seval, -Nat.reducePow, reduceIte, reduceCtorEq]
 refine aops_call (in_fun _ _ _) rfl rfl rfl rfl (by (try simp only [qq, seval, -Nat.reducePow, reduceIte, reduceCtorEq]); (repeat' (first | exact .nil | exact wk_c | exact wk_ownc | exact wk_nilsc | exact wk_nils | exact wk_fn | refine .cons ?_ ?_ | refine wk_agg ?_ | refine wk_fnL ?_))) rfl rfl ?_
 simp only [qq, seval, -Nat.reducePow, reduceIte, reduceCtorEq]
 refine aops_orunN 2 _ _ ?_
 simp only [qq, seval, -Nat.reducePow, reduceIte, reduceCtorEq]
 refine aops_part (b := ?p5) 7 ?h5 (fun hb5 => ?a5) (fun hb5 => ?b5)
 case h5 => simp only [qq, seval, -Nat.reducePow, reduceIte, reduceCtorEq]; rfl
 case a5 =>
  have hp5 := hb5
  try simp only [kb] at hp5
  try simp only [hb5]
  refine aops_orunN 5 _ _ ?_
  simp only [qq, seval, -Nat.reducePow, reduceIte, reduceCtorEq, hb5]
  refine nil_z hL3 ?_
  refine awp_cond (t := true) (by simp only [qq, seval, -Nat.reducePow, reduceIte, reduceCtorEq, hb5]) (fun _ => ?_) (fun h => ?_)
  case refine_2 => cases h
  refine seq_reg 1 fun L6 hL6 => ?_
  simp only [qq, seval, -Nat.reducePow, reduceIte, reduceCtorEq, hb5]
  refine nil_z hL6 ?_
  as_aux_lemma =>
   refine awp_ret ?_
   try simp only [rk_state]
   refine ⟨_, 0, by simp only [qq, seval, -Nat.reducePow, reduceIte, reduceCtorEq, resA, Try.results99, hb5]; rfl, ?_, nomem_a, nomem_a⟩
   simp only [packA]
   (repeat' (first | exact .nil | exact wkR_c | exact wkR_own | exact wkR_nils | refine wkR_int ?_ | refine wkR_bool ?_ | refine wkR_sl ?_ | refine wkR_osl ?_ | refine wkR_nsl ?_ | refine wkR_oo ?_ | refine wkR_no ?_ | refine .cons ?_ ?_ | refine wkR_agg ?_ | refine wkR_tup ?_)) <;> (unfold chkP badP; first | (rw [if_pos (by dsimp only; omega)]) | (rw [if_neg (by dsimp only; omega)]))
 case b5 =>
  have hp5 := hb5
  try simp only [kb] at hp5
  try simp only [hb5]
  refine aops_orunN 2 _ _ ?_
  simp only [qq, seval, -Nat.reducePow, reduceIte, reduceCtorEq, hb5]
  refine aops_call (in_fun _ _ _) (by simp only [qq, seval, -Nat.reducePow, reduceIte, reduceCtorEq, hb5]) rfl rfl rfl (by (try simp only [qq, seval, -Nat.reducePow, reduceIte, reduceCtorEq, hb5]); (repeat' (first | exact .nil | exact wk_c | exact wk_ownc | exact wk_nilsc | exact wk_nils | exact wk_fn | refine .cons ?_ ?_ | refine wk_agg ?_ | refine wk_fnL ?_))) rfl rfl ?_
  simp only [qq, seval, -Nat.reducePow, reduceIte, reduceCtorEq, hb5]
  refine aops_orunN 2 _ _ ?_
  simp only [qq, seval, -Nat.reducePow, reduceIte, reduceCtorEq, hb5]
  refine nil_z hL3 ?_
  refine awp_cond (t := ?t8) ?h8 (fun hb8 => ?a8) (fun hb8 => ?b8)
  case h8 => simp only [qq, seval, -Nat.reducePow, reduceIte, reduceCtorEq, hb5]; rfl
  case a8 =>
   have hp8 := hb8
   try simp only [kb] at hp8
   refine seq_reg 1 fun L9 hL9 => ?_
   simp only [qq, seval, -Nat.reducePow, reduceIte, reduceCtorEq, hb5, hb8]
   refine nil_z hL9 ?_
   refine awp_ret ?_
   try simp only [rk_state]
   refine ⟨_, 0, by simp only [qq, seval, -Nat.reducePow, reduceIte, reduceCtorEq, resA, Try.results99, hb5, hb8]; rfl, ?_, nomem_a, nomem_a⟩
   simp only [packA]
   (repeat' (first | exact .nil | exact wkR_c | exact wkR_own | exact wkR_nils | refine wkR_int ?_ | refine wkR_bool ?_ | refine wkR_sl ?_ | refine wkR_osl ?_ | refine wkR_nsl ?_ | refine wkR_oo ?_ | refine wkR_no ?_ | refine .cons ?_ ?_ | refine wkR_agg ?_ | refine wkR_tup ?_)) <;> (unfold chkP badP; first | (rw [if_pos (by dsimp only; omega)]) | (rw [if_neg (by dsimp only; omega)]))
  case b8 =>
   have hp8 := hb8
   try simp only [kb] at hp8
   refine awp_skip ?_
   refine hK2 _ ?_
   refine seq_reg 1 fun L10 hL10 => ?_
   simp only [qq, seval, -Nat.reducePow, reduceIte, reduceCtorEq, hb5, hb8]
   refine nil_z hL10 ?_
   refine awp_ret ?_
   try simp only [rk_state]
   refine ⟨_, 0, by simp only [qq, seval, -Nat.reducePow, reduceIte, reduceCtorEq, resA, Try.results99, hb5, hb8]; rfl, ?_, nomem_a, nomem_a⟩
   simp only [packA]
   (repeat' (first | exact .nil | exact wkR_c | exact wkR_own | exact wkR_nils | refine wkR_int ?_ | refine wkR_bool ?_ | refine wkR_sl ?_ | refine wkR_osl ?_ | refine wkR_nsl ?_ | refine wkR_oo ?_ | refine wkR_no ?_ | refine .cons ?_ ?_ | refine wkR_agg ?_ | refine wkR_tup ?_)) <;> (unfold chkP badP; first | (rw [if_pos (by dsimp only; omega)]) | (rw [if_neg (by dsimp only; omega)]))
set_option maxHeartbeats 4000000 in
set_option maxRecDepth 50000 in
theorem checkps_fun (ps : List Pt) : Fun Try.prog 49 [.c (.sl 34 (Rw Pt.cs ps))] nomem (.c (.int .i64 (checkL ps))) nomem := by
 refine fun_of_awp Try.func49 rfl (by decide +kernel) (by decide +kernel) (Nat.le_of_ble_eq_true rfl) (fun _ _ => rfl) (fun _ _ => rfl) ?_
 refine seq_reg 1 fun L1 hL1 => ?_
 simp only [qq, seval, -Nat.reducePow, reduceIte, reduceCtorEq, ptE]
 refine nil_z hL1 ?_
 refine awp_seq_k fun K2 hK2 => ?_
 refine seq_reg 3 fun L3 hL3 => ?_
 simp only [qq, seval, -Nat.reducePow, reduceIte, reduceCtorEq, ptE]
 refine nil_z hL3 ?_
 refine awp_cond (t := ?t4) ?h4 (fun hb4 => ?a4) (fun hb4 => ?b4)
 case h4 => simp only [qq, seval, -Nat.reducePow, reduceIte, reduceCtorEq, ptE]; rfl
 case a4 =>
  have hp4 := hb4
  try simp only [kb] at hp4
  refine seq_reg 1 fun L5 hL5 => ?_
  simp only [qq, seval, -Nat.reducePow, reduceIte, reduceCtorEq, ptE, hb4]
  refine nil_z hL5 ?_
  as_aux_lemma =>
   refine awp_ret ?_
   try simp only [rk_state]
   refine ⟨_, 0, by simp only [qq, seval, -Nat.reducePow, reduceIte, reduceCtorEq, resA, Try.results49, ptE, hb4]; rfl, ?_, nomem_a, nomem_a⟩
   simp only [packA]
   (repeat' (first | exact .nil | exact wkR_c | exact wkR_own | exact wkR_nils | refine wkR_int ?_ | refine wkR_bool ?_ | refine wkR_sl ?_ | refine wkR_osl ?_ | refine wkR_nsl ?_ | refine wkR_oo ?_ | refine wkR_no ?_ | refine .cons ?_ ?_ | refine wkR_agg ?_ | refine wkR_tup ?_)) <;> (unfold checkL; first | rw [if_pos (by omega)] | (rw [if_neg (by omega), ← hq5_1]; first | (rw [hst, if_pos (by omega)]; omega) | (rw [hst, if_neg (by omega), if_pos (by omega)]) | (rw [List.drop_of_length_le (by omega)]; rfl)))
 case b4 =>
  have hp4 := hb4
  try simp only [kb] at hp4
  refine awp_skip ?_
  refine hK2 _ ?_
  refine seq_reg 1 fun L6 hL6 => ?_
  simp only [qq, seval, -Nat.reducePow, reduceIte, reduceCtorEq, ptE, hb4]
  refine nil_z hL6 ?_
  refine awp_seq_k fun K7 hK7 => ?_
  refine seq_reg 3 fun L8 hL8 => ?_
  simp only [qq, seval, -Nat.reducePow, reduceIte, reduceCtorEq, ptE, hb4]
  refine nil_z hL8 ?_
  refine awp_block ?_
  refine awp_loopW (W := [13, 14, 15, 5, 16, 17, 6, 18, 19, 20, 2, 21, 22, 23, 24, 2, 25, 26, 3, 27, 12]) (M := [5]) rfl rfl (fun kk s => ∃ (i : Nat), kk = ps.length - i ∧ (i ≤ ps.length) ∧ (chk (lastT ps i) (ps.drop i) = chk (-1) ps) ∧ s.t 3 = .c (.int .i64 (lastT ps i)) ∧ s.t 12 = .c (.int .i64 (i : Int)) ∧ s.m 5 = []) ((fun (i : Nat) => ps.length - i) (0)) ?i9 ?r9
  case i9 =>
   refine ⟨0, rfl, ?_, ?_, ?_, ?_, ?_⟩
   · omega
   · rfl
   · (try simp only [qq, seval, -Nat.reducePow, reduceIte, reduceCtorEq, ptE, hb4])
     all_goals (first | done | rfl | (simp only [AV.c.injEq, C.int.injEq, List.cons.injEq, and_true, true_and]; omega))
   · (try simp only [qq, seval, -Nat.reducePow, reduceIte, reduceCtorEq, ptE, hb4])
     all_goals (first | done | rfl | (simp only [AV.c.injEq, C.int.injEq, List.cons.injEq, and_true, true_and]; omega))
   · (try simp only [qq, seval, -Nat.reducePow, reduceIte, reduceCtorEq, ptE, hb4])
     all_goals (first | done | rfl | (simp only [AV.c.injEq, C.int.injEq, List.cons.injEq, and_true, true_and]; omega))
  case r9 =>
   rintro kk s hf ⟨i, rfl, hq5_0, hq5_1, s9t3, s9t12, s9z5⟩ K9 hK9
   have s9f10 := hf 10 rfl (by (try simp only [qq, seval, -Nat.reducePow, reduceIte, reduceCtorEq, kn, ptE, hb4]); all_goals rfl)
   simp only [qq, seval, -Nat.reducePow, reduceIte, reduceCtorEq, ptE, hb4] at s9f10
   have s9f11 := hf 11 rfl (by (try simp only [qq, seval, -Nat.reducePow, reduceIte, reduceCtorEq, kn, ptE, hb4]); all_goals rfl)
   simp only [qq, seval, -Nat.reducePow, reduceIte, reduceCtorEq, ptE, hb4] at s9f11
   clear hf
   refine seq_reg 1 fun L10 hL10 => ?_
   simp only [qq, seval, -Nat.reducePow, reduceIte, reduceCtorEq, ptE, hb4, s9t3, s9t12, s9z5, s9f10, s9f11]
   refine nil_z hL10 ?_
   as_aux_lemma =>
    refine awp_seq_k fun K11 hK11 => ?_
    refine awp_cond (t := ?t12) ?h12 (fun hb12 => ?a12) (fun hb12 => ?b12)
    case h12 => simp only [qq, seval, -Nat.reducePow, reduceIte, reduceCtorEq, ptE, hb4, s9t3, s9t12, s9z5, s9f10, s9f11]; rfl
    case a12 =>
     have hp12 := hb12
     try simp only [kb] at hp12
     refine awp_skip ?_
     refine hK11 _ ?_
     refine awp_seq_k fun K13 hK13 => ?_
     refine awp_block ?_
     have hst := chk_step (l := ps) (i := i) (by omega)
     refine seq_reg0 fun L14 hL14 => ?_
     refine aops_val (v := ?v15) rfl ?h15 ?_
     case h15 => simp only [qq, seval, -Nat.reducePow, reduceIte, reduceCtorEq, ptE, hb4, s9t3, s9t12, s9z5, s9f10, s9f11, hb12]; first | (rw [idx_c un22 if34] <;> omega) | (rw [idx_o un22 if34] <;> omega) | (rw [idx_a un22 if34] <;> omega)
     simp only [qq, seval, -Nat.reducePow, reduceIte, reduceCtorEq, ptE, hb4, s9t3, s9t12, s9z5, s9f10, s9f11, hb12]
     refine aops_orunN 3 _ _ ?_
     simp only [qq, seval, -Nat.reducePow, reduceIte, reduceCtorEq, ptE, hb4, s9t3, s9t12, s9z5, s9f10, s9f11, hb12]
     refine nil_z hL14 ?_
     refine awp_seq_k fun K16 hK16 => ?_
     refine seq_reg 1 fun L17 hL17 => ?_
     simp only [qq, seval, -Nat.reducePow, reduceIte, reduceCtorEq, ptE, hb4, s9t3, s9t12, s9z5, s9f10, s9f11, hb12]
     refine aops_call (chkp_fun _ _) rfl rfl rfl rfl (by (try simp only [qq, seval, -Nat.reducePow, reduceIte, reduceCtorEq, ptE, hb4, s9t3, s9t12, s9z5, s9f10, s9f11, hb12]); (repeat' (first | exact .nil | exact wk_c | exact wk_ownc | exact wk_nilsc | exact wk_nils | exact wk_fn | refine .cons ?_ ?_ | refine wk_agg ?_ | refine wk_fnL ?_))) rfl rfl ?_
     simp only [qq, seval, -Nat.reducePow, reduceIte, reduceCtorEq, ptE, hb4, s9t3, s9t12, s9z5, s9f10, s9f11, hb12]
     refine aops_orunN 1 _ _ ?_
     simp only [qq, seval, -Nat.reducePow, reduceIte, reduceCtorEq, ptE, hb4, s9t3, s9t12, s9z5, s9f10, s9f11, hb12]
     refine nil_z hL17 ?_
     have hcp := chkP_or (ps.getD i default)
     unfold badP PtIn at hcp
     refine seq_reg 2 fun L19 hL19 => ?_
     simp only [qq, seval, -Nat.reducePow, reduceIte, reduceCtorEq, ptE, hb4, s9t3, s9t12, s9z5, s9f10, s9f11, hb12]
     refine nil_z hL19 ?_
     as_aux_lemma =>
      refine awp_cond (t := ?t20) ?h20 (fun hb20 => ?a20) (fun hb20 => ?b20)
      case h20 => simp only [qq, seval, -Nat.reducePow, reduceIte, reduceCtorEq, ptE, hb4, s9t3, s9t12, s9z5, s9f10, s9f11, hb12]; rfl
      case a20 =>
       have hp20 := hb20
       try simp only [kb] at hp20
       refine seq_reg 2 fun L21 hL21 => ?_
       simp only [qq, seval, -Nat.reducePow, reduceIte, reduceCtorEq, ptE, hb4, s9t3, s9t12, s9z5, s9f10, s9f11, hb12, hb20]
       refine nil_z hL21 ?_
       refine awp_ret ?_
       try simp only [rk_state]
       refine ⟨_, 0, by simp only [qq, seval, -Nat.reducePow, reduceIte, reduceCtorEq, resA, Try.results49, ptE, hb4, s9t3, s9t12, s9z5, s9f10, s9f11, hb12, hb20]; rfl, ?_, nomem_a, nomem_a⟩
       simp only [packA]
       (repeat' (first | exact .nil | exact wkR_c | exact wkR_own | exact wkR_nils | refine wkR_int ?_ | refine wkR_bool ?_ | refine wkR_sl ?_ | refine wkR_osl ?_ | refine wkR_nsl ?_ | refine wkR_oo ?_ | refine wkR_no ?_ | refine .cons ?_ ?_ | refine wkR_agg ?_ | refine wkR_tup ?_)) <;> (unfold checkL; first | rw [if_pos (by omega)] | (rw [if_neg (by omega), ← hq5_1]; first | (rw [hst, if_pos (by omega)]; omega) | (rw [hst, if_neg (by omega), if_pos (by omega)]) | (rw [List.drop_of_length_le (by omega)]; rfl)))
      case b20 =>
       have hp20 := hb20
       try simp only [kb] at hp20
       refine awp_skip ?_
       refine hK16 _ ?_
       refine awp_seq_k fun K22 hK22 => ?_
       refine seq_reg 4 fun L23 hL23 => ?_
       simp only [qq, seval, -Nat.reducePow, reduceIte, reduceCtorEq, ptE, hb4, s9t3, s9t12, s9z5, s9f10, s9f11, hb12, hb20]
       refine nil_z hL23 ?_
       refine awp_cond (t := ?t24) ?h24 (fun hb24 => ?a24) (fun hb24 => ?b24)
       case h24 => simp only [qq, seval, -Nat.reducePow, reduceIte, reduceCtorEq, ptE, hb4, s9t3, s9t12, s9z5, s9f10, s9f11, hb12, hb20]; rfl
       case a24 =>
        have hp24 := hb24
        try simp only [kb] at hp24
        refine seq_reg 1 fun L25 hL25 => ?_
        simp only [qq, seval, -Nat.reducePow, reduceIte, reduceCtorEq, ptE, hb4, s9t3, s9t12, s9z5, s9f10, s9f11, hb12, hb20, hb24]
        refine nil_z hL25 ?_
        as_aux_lemma =>
         refine awp_ret ?_
         try simp only [rk_state]
         refine ⟨_, 0, by simp only [qq, seval, -Nat.reducePow, reduceIte, reduceCtorEq, resA, Try.results49, ptE, hb4, s9t3, s9t12, s9z5, s9f10, s9f11, hb12, hb20, hb24]; rfl, ?_, nomem_a, nomem_a⟩
         simp only [packA]
         (repeat' (first | exact .nil | exact wkR_c | exact wkR_own | exact wkR_nils | refine wkR_int ?_ | refine wkR_bool ?_ | refine wkR_sl ?_ | refine wkR_osl ?_ | refine wkR_nsl ?_ | refine wkR_oo ?_ | refine wkR_no ?_ | refine .cons ?_ ?_ | refine wkR_agg ?_ | refine wkR_tup ?_)) <;> (unfold checkL; first | rw [if_pos (by omega)] | (rw [if_neg (by omega), ← hq5_1]; first | (rw [hst, if_pos (by omega)]; omega) | (rw [hst, if_neg (by omega), if_pos (by omega)]) | (rw [List.drop_of_length_le (by omega)]; rfl)))
       case b24 =>
        have hp24 := hb24
        try simp only [kb] at hp24
        refine awp_skip ?_
        refine hK22 _ ?_
        refine reg 3 fun L26 hL26 => ?_
        simp only [qq, seval, -Nat.reducePow, reduceIte, reduceCtorEq, ptE, hb4, s9t3, s9t12, s9z5, s9f10, s9f11, hb12, hb20, hb24]
        refine nil_q hL26 ?_
        try simp only [rk_state]
        refine hK13 _ ?_
        refine reg 0 fun L27 hL27 => ?_
        simp only [qq, seval, -Nat.reducePow, reduceIte, reduceCtorEq, ptE, hb4, s9t3, s9t12, s9z5, s9f10, s9f11, hb12, hb20, hb24]
        refine aops_val (v := ?v28) rfl ?h28 ?_
        case h28 => simp only [qq, seval, -Nat.reducePow, reduceIte, reduceCtorEq, ptE, hb4, s9t3, s9t12, s9z5, s9f10, s9f11, hb12, hb20, hb24]; first | (rw [wr_id] <;> omega) | rfl
        simp only [qq, seval, -Nat.reducePow, reduceIte, reduceCtorEq, ptE, hb4, s9t3, s9t12, s9z5, s9f10, s9f11, hb12, hb20, hb24]
        refine aops_orunN 1 _ _ ?_
        simp only [qq, seval, -Nat.reducePow, reduceIte, reduceCtorEq, ptE, hb4, s9t3, s9t12, s9z5, s9f10, s9f11, hb12, hb20, hb24]
        refine nil_q hL27 ?_
        try simp only [rk_state]
        refine hK9 _ ((fun (i : Nat) => ps.length - i) (i + 1)) ?_ ⟨i + 1, rfl, ?_, ?_, ?_, ?_, ?_⟩
        · (try simp only []); omega
        · omega
        · rw [hst, if_neg (by omega), if_neg (by omega)] at hq5_1; exact hq5_1
        · (try simp only [qq, seval, -Nat.reducePow, reduceIte, reduceCtorEq, ptE, hb4, s9t3, s9t12, s9z5, s9f10, s9f11, hb12, hb20, hb24])
          all_goals (first | done | rfl | (simp [lastT]; done))
        · (try simp only [qq, seval, -Nat.reducePow, reduceIte, reduceCtorEq, ptE, hb4, s9t3, s9t12, s9z5, s9f10, s9f11, hb12, hb20, hb24])
          all_goals (first | done | rfl | (simp only [AV.c.injEq, C.int.injEq, List.cons.injEq, and_true, true_and]; omega))
        · (try simp only [qq, seval, -Nat.reducePow, reduceIte, reduceCtorEq, ptE, hb4, s9t3, s9t12, s9z5, s9f10, s9f11, hb12, hb20, hb24])
          all_goals (first | done | rfl | (simp only [AV.c.injEq, C.int.injEq, List.cons.injEq, and_true, true_and]; omega))
    case b12 =>
     have hp12 := hb12
     try simp only [kb] at hp12
     refine awp_exit ?_
     simp only [rk_state, reduceIte, Nat.reduceEqDiff]
     refine hK7 _ ?_
     refine seq_reg 1 fun L29 hL29 => ?_
     simp only [qq, seval, -Nat.reducePow, reduceIte, reduceCtorEq, ptE, hb4, s9t3, s9t12, s9z5, s9f10, s9f11, hb12]
     refine nil_z hL29 ?_
     as_aux_lemma =>
      refine awp_ret ?_
      try simp only [rk_state]
      refine ⟨_, 0, by simp only [qq, seval, -Nat.reducePow, reduceIte, reduceCtorEq, resA, Try.results49, ptE, hb4, s9t3, s9t12, s9z5, s9f10, s9f11, hb12]; rfl, ?_, nomem_a, nomem_a⟩
      simp only [packA]
      (repeat' (first | exact .nil | exact wkR_c | exact wkR_own | exact wkR_nils | refine wkR_int ?_ | refine wkR_bool ?_ | refine wkR_sl ?_ | refine wkR_osl ?_ | refine wkR_nsl ?_ | refine wkR_oo ?_ | refine wkR_no ?_ | refine .cons ?_ ?_ | refine wkR_agg ?_ | refine wkR_tup ?_)) <;> (unfold checkL; first | rw [if_pos (by omega)] | (rw [if_neg (by omega), ← hq5_1]; first | (rw [hst, if_pos (by omega)]; omega) | (rw [hst, if_neg (by omega), if_pos (by omega)]) | (rw [List.drop_of_length_le (by omega)]; rfl)))
set_option maxHeartbeats 4000000 in
set_option maxRecDepth 50000 in
theorem equal_pt_fun (a b : List Pt) (ha : a.length < 4611686018427387904) : Fun Try.prog 50 [.c (.sl 34 (Rw Pt.cs a)), .c (.sl 34 (Rw Pt.cs b))] nomem (.c (.bool (decide (a = b)))) nomem := by
 refine fun_of_awp Try.func50 rfl (by decide +kernel) (by decide +kernel) (Nat.le_of_ble_eq_true rfl) (fun _ _ => rfl) (fun _ _ => rfl) ?_
 refine seq_reg 1 fun L1 hL1 => ?_
 simp only [qq, seval, -Nat.reducePow, reduceIte, reduceCtorEq]
 refine nil_z hL1 ?_
 refine awp_seq_k fun K2 hK2 => ?_
 refine seq_reg 5 fun L3 hL3 => ?_
 simp only [qq, seval, -Nat.reducePow, reduceIte, reduceCtorEq]
 refine nil_z hL3 ?_
 refine awp_cond (t := ?t4) ?h4 (fun hb4 => ?a4) (fun hb4 => ?b4)
 case h4 => simp only [qq, seval, -Nat.reducePow, reduceIte, reduceCtorEq]; rfl
 case a4 =>
  have hp4 := hb4
  try simp only [kb] at hp4
  refine seq_reg 1 fun L5 hL5 => ?_
  simp only [qq, seval, -Nat.reducePow, reduceIte, reduceCtorEq, hb4]
  refine nil_z hL5 ?_
  as_aux_lemma =>
   refine awp_ret ?_
   try simp only [rk_state]
   refine ⟨_, 0, by simp only [qq, seval, -Nat.reducePow, reduceIte, reduceCtorEq, resA, Try.results50, hb4]; rfl, ?_, nomem_a, nomem_a⟩
   simp only [packA]
   (repeat' (first | exact .nil | exact wkR_c | exact wkR_own | exact wkR_nils | refine wkR_int ?_ | refine wkR_bool ?_ | refine wkR_sl ?_ | refine wkR_osl ?_ | refine wkR_nsl ?_ | refine wkR_oo ?_ | refine wkR_no ?_ | refine .cons ?_ ?_ | refine wkR_agg ?_ | refine wkR_tup ?_)) <;> first | (symm; apply decide_eq_false; intro he; subst he; simp_all; done) | (symm; apply decide_eq_true; exact eq_of_getD (by omega) (fun j hj => hq4_1 j (by omega)))
 case b4 =>
  have hp4 := hb4
  try simp only [kb] at hp4
  refine awp_skip ?_
  refine hK2 _ ?_
  refine awp_seq_k fun K6 hK6 => ?_
  refine seq_reg 3 fun L7 hL7 => ?_
  simp only [qq, seval, -Nat.reducePow, reduceIte, reduceCtorEq, hb4]
  refine nil_z hL7 ?_
  refine awp_block ?_
  refine awp_loopW (W := [14, 15, 5, 16, 17, 18, 19, 20, 21, 22, 23, 24, 4, 25, 13]) (M := []) rfl rfl (fun kk s => ∃ (i : Nat), kk = a.length - i ∧ (i ≤ a.length) ∧ (∀ j, j < i → a.getD j default = b.getD j default) ∧ s.t 13 = .c (.int .i64 (i : Int))) ((fun (i : Nat) => a.length - i) (0)) ?i8 ?r8
  case i8 =>
   refine ⟨0, rfl, ?_, ?_, ?_⟩
   · omega
   · intro j hj; omega
   · (try simp only [qq, seval, -Nat.reducePow, reduceIte, reduceCtorEq, hb4])
     all_goals (first | done | rfl | (simp only [AV.c.injEq, C.int.injEq, List.cons.injEq, and_true, true_and]; omega))
  case r8 =>
   rintro kk s hf ⟨i, rfl, hq4_0, hq4_1, s8t13⟩ K8 hK8
   have s8f0 := hf 0 rfl (by (try simp only [qq, seval, -Nat.reducePow, reduceIte, reduceCtorEq, kn, hb4]); all_goals rfl)
   simp only [qq, seval, -Nat.reducePow, reduceIte, reduceCtorEq, hb4] at s8f0
   have s8f1 := hf 1 rfl (by (try simp only [qq, seval, -Nat.reducePow, reduceIte, reduceCtorEq, kn, hb4]); all_goals rfl)
   simp only [qq, seval, -Nat.reducePow, reduceIte, reduceCtorEq, hb4] at s8f1
   have s8f12 := hf 12 rfl (by (try simp only [qq, seval, -Nat.reducePow, reduceIte, reduceCtorEq, kn, hb4]); all_goals rfl)
   simp only [qq, seval, -Nat.reducePow, reduceIte, reduceCtorEq, hb4] at s8f12
   clear hf
   refine seq_reg 1 fun L9 hL9 => ?_
   simp only [qq, seval, -Nat.reducePow, reduceIte, reduceCtorEq, hb4, s8t13, s8f0, s8f1, s8f12]
   refine nil_z hL9 ?_
   refine awp_seq_k fun K10 hK10 => ?_
   refine awp_cond (t := ?t11) ?h11 (fun hb11 => ?a11) (fun hb11 => ?b11)
   case h11 => simp only [qq, seval, -Nat.reducePow, reduceIte, reduceCtorEq, hb4, s8t13, s8f0, s8f1, s8f12]; rfl
   case a11 =>
    have hp11 := hb11
    try simp only [kb] at hp11
    refine awp_skip ?_
    refine hK10 _ ?_
    refine awp_seq_k fun K12 hK12 => ?_
    refine awp_block ?_
    refine seq_reg 2 fun L13 hL13 => ?_
    simp only [qq, seval, -Nat.reducePow, reduceIte, reduceCtorEq, hb4, s8t13, s8f0, s8f1, s8f12, hb11]
    refine nil_z hL13 ?_
    as_aux_lemma =>
     refine seq_regd 2 (by decide +kernel) fun L14 hL14 => ?_
     simp only [qq, seval, -Nat.reducePow, reduceIte, reduceCtorEq, hb4, s8t13, s8f0, s8f1, s8f12, hb11]
     refine aops_val (v := ?v15) rfl ?h15 ?_
     case h15 => simp only [qq, seval, -Nat.reducePow, reduceIte, reduceCtorEq, hb4, s8t13, s8f0, s8f1, s8f12, hb11]; first | (rw [idx_c un22 if34] <;> omega) | (rw [idx_o un22 if34] <;> omega) | (rw [idx_a un22 if34] <;> omega)
     simp only [qq, seval, -Nat.reducePow, reduceIte, reduceCtorEq, hb4, s8t13, s8f0, s8f1, s8f12, hb11]
     refine aops_orunN 3 _ _ ?_
     simp only [qq, seval, -Nat.reducePow, reduceIte, reduceCtorEq, hb4, s8t13, s8f0, s8f1, s8f12, hb11]
     refine aops_val (v := ?v16) rfl ?h16 ?_
     case h16 => simp only [qq, seval, -Nat.reducePow, reduceIte, reduceCtorEq, hb4, s8t13, s8f0, s8f1, s8f12, hb11]; first | (rw [idx_c un22 if34] <;> omega) | (rw [idx_o un22 if34] <;> omega) | (rw [idx_a un22 if34] <;> omega)
     simp only [qq, seval, -Nat.reducePow, reduceIte, reduceCtorEq, hb4, s8t13, s8f0, s8f1, s8f12, hb11]
     refine aops_orunN 1 _ _ ?_
     simp only [qq, seval, -Nat.reducePow, reduceIte, reduceCtorEq, hb4, s8t13, s8f0, s8f1, s8f12, hb11]
     refine aops_eq (xs := ?xs17) (ys := ?ys17) eqi34 rfl rfl (by decide) ?hx17 ?hy17 ?hn17 ?hm17 ?hh17
     case hx17 => simp only [qq, seval, -Nat.reducePow, reduceIte, reduceCtorEq, AV.ints, intsOf, hb4, s8t13, s8f0, s8f1, s8f12, hb11]; rfl
     case hy17 => simp only [qq, seval, -Nat.reducePow, reduceIte, reduceCtorEq, AV.ints, intsOf, hb4, s8t13, s8f0, s8f1, s8f12, hb11]; rfl
     case hn17 => rfl
     case hm17 => rfl
     simp only [qq, seval, -Nat.reducePow, reduceIte, reduceCtorEq, hb4, s8t13, s8f0, s8f1, s8f12, hb11]
     refine nil_z hL14 ?_
     refine awp_cond (t := ?t18) ?h18 (fun hb18 => ?a18) (fun hb18 => ?b18)
     case h18 => simp only [qq, seval, -Nat.reducePow, reduceIte, reduceCtorEq, hb4, s8t13, s8f0, s8f1, s8f12, hb11]; rfl
     case a18 =>
      have hp18 := hb18
      try simp only [kb] at hp18
      refine seq_reg 1 fun L19 hL19 => ?_
      simp only [qq, seval, -Nat.reducePow, reduceIte, reduceCtorEq, hb4, s8t13, s8f0, s8f1, s8f12, hb11, hb18]
      refine nil_z hL19 ?_
      refine awp_ret ?_
      try simp only [rk_state]
      refine ⟨_, 0, by simp only [qq, seval, -Nat.reducePow, reduceIte, reduceCtorEq, resA, Try.results50, hb4, s8t13, s8f0, s8f1, s8f12, hb11, hb18]; rfl, ?_, nomem_a, nomem_a⟩
      simp only [packA]
      (repeat' (first | exact .nil | exact wkR_c | exact wkR_own | exact wkR_nils | refine wkR_int ?_ | refine wkR_bool ?_ | refine wkR_sl ?_ | refine wkR_osl ?_ | refine wkR_nsl ?_ | refine wkR_oo ?_ | refine wkR_no ?_ | refine .cons ?_ ?_ | refine wkR_agg ?_ | refine wkR_tup ?_)) <;> first | (symm; apply decide_eq_false; intro he; subst he; simp_all; done) | (symm; apply decide_eq_true; exact eq_of_getD (by omega) (fun j hj => hq4_1 j (by omega)))
     case b18 =>
      have hp18 := hb18
      try simp only [kb] at hp18
      refine awp_skip ?_
      try simp only [rk_state]
      refine hK12 _ ?_
      refine reg 0 fun L20 hL20 => ?_
      simp only [qq, seval, -Nat.reducePow, reduceIte, reduceCtorEq, hb4, s8t13, s8f0, s8f1, s8f12, hb11, hb18]
      refine aops_val (v := ?v21) rfl ?h21 ?_
      case h21 => simp only [qq, seval, -Nat.reducePow, reduceIte, reduceCtorEq, hb4, s8t13, s8f0, s8f1, s8f12, hb11, hb18]; first | (rw [wr_id] <;> omega) | rfl
      simp only [qq, seval, -Nat.reducePow, reduceIte, reduceCtorEq, hb4, s8t13, s8f0, s8f1, s8f12, hb11, hb18]
      refine aops_orunN 1 _ _ ?_
      simp only [qq, seval, -Nat.reducePow, reduceIte, reduceCtorEq, hb4, s8t13, s8f0, s8f1, s8f12, hb11, hb18]
      refine nil_q hL20 ?_
      try simp only [rk_state]
      refine hK8 _ ((fun (i : Nat) => a.length - i) (i + 1)) ?_ ⟨i + 1, rfl, ?_, ?_, ?_⟩
      · (try simp only []); omega
      · omega
      · (intro j hj; rcases Nat.lt_succ_iff_lt_or_eq.1 hj with hji | hji; exact hq4_1 j hji; rw [hji]; exact pt_of (by assumption))
      · (try simp only [qq, seval, -Nat.reducePow, reduceIte, reduceCtorEq, hb4, s8t13, s8f0, s8f1, s8f12, hb11, hb18])
        all_goals (first | done | rfl | (simp only [AV.c.injEq, C.int.injEq, List.cons.injEq, and_true, true_and]; omega))
   case b11 =>
    have hp11 := hb11
    try simp only [kb] at hp11
    refine awp_exit ?_
    simp only [rk_state, reduceIte, Nat.reduceEqDiff]
    refine hK6 _ ?_
    as_aux_lemma =>
     refine seq_reg 1 fun L22 hL22 => ?_
     simp only [qq, seval, -Nat.reducePow, reduceIte, reduceCtorEq, hb4, s8t13, s8f0, s8f1, s8f12, hb11]
     refine nil_z hL22 ?_
     refine awp_ret ?_
     try simp only [rk_state]
     refine ⟨_, 0, by simp only [qq, seval, -Nat.reducePow, reduceIte, reduceCtorEq, resA, Try.results50, hb4, s8t13, s8f0, s8f1, s8f12, hb11]; rfl, ?_, nomem_a, nomem_a⟩
     simp only [packA]
     (repeat' (first | exact .nil | exact wkR_c | exact wkR_own | exact wkR_nils | refine wkR_int ?_ | refine wkR_bool ?_ | refine wkR_sl ?_ | refine wkR_osl ?_ | refine wkR_nsl ?_ | refine wkR_oo ?_ | refine wkR_no ?_ | refine .cons ?_ ?_ | refine wkR_agg ?_ | refine wkR_tup ?_)) <;> first | (symm; apply decide_eq_false; intro he; subst he; simp_all; done) | (symm; apply decide_eq_true; exact eq_of_getD (by omega) (fun j hj => hq4_1 j (by omega)))
set_option maxHeartbeats 4000000 in
set_option maxRecDepth 50000 in
theorem pack_fun (ps : List Pt) : Fun Try.prog 44 [.c (.sl 34 (Rw Pt.cs ps))] nomem (.tup [.own false 0 4 (Rw boC (packR ps).1), .c (.int .i64 (packR ps).2)]) nomem := by
 refine fun_of_awp Try.func44 rfl (by decide +kernel) (by decide +kernel) (Nat.le_of_ble_eq_true rfl) (fun _ _ => rfl) (fun _ _ => rfl) ?_
 refine seq_reg 2 fun L1 hL1 => ?_
 simp only [qq, seval, -Nat.reducePow, reduceIte, reduceCtorEq]
 refine nil_z hL1 ?_
 refine awp_seq_k fun K2 hK2 => ?_
 refine seq_reg 1 fun L3 hL3 => ?_
 simp only [qq, seval, -Nat.reducePow, reduceIte, reduceCtorEq]
 refine aops_call (check_fun _) rfl rfl rfl rfl (by (try simp only [qq, seval, -Nat.reducePow, reduceIte, reduceCtorEq]); (repeat' (first | exact .nil | exact wk_c | exact wk_ownc | exact wk_nilsc | exact wk_nils | exact wk_fn | refine .cons ?_ ?_ | refine wk_agg ?_ | refine wk_fnL ?_))) rfl rfl ?_
 simp only [qq, seval, -Nat.reducePow, reduceIte, reduceCtorEq]
 refine aops_orunN 1 _ _ ?_
 simp only [qq, seval, -Nat.reducePow, reduceIte, reduceCtorEq]
 refine nil_z hL3 ?_
 refine seq_reg 2 fun L5 hL5 => ?_
 simp only [qq, seval, -Nat.reducePow, reduceIte, reduceCtorEq]
 refine nil_z hL5 ?_
 as_aux_lemma =>
  refine awp_cond (t := ?t6) ?h6 (fun hb6 => ?a6) (fun hb6 => ?b6)
  case h6 => simp only [qq, seval, -Nat.reducePow, reduceIte, reduceCtorEq]; rfl
  case a6 =>
   have hp6 := hb6
   try simp only [kb] at hp6
   refine seq_reg 3 fun L7 hL7 => ?_
   simp only [qq, seval, -Nat.reducePow, reduceIte, reduceCtorEq, hb6]
   refine nil_z hL7 ?_
   refine awp_ret ?_
   try simp only [rk_state]
   refine ⟨_, 40, by simp only [qq, seval, -Nat.reducePow, reduceIte, reduceCtorEq, resA, Try.results44, hb6]; rfl, ?_, nomem_a, nomem_a⟩
   simp only [packA]
   unfold packR; first | (rw [if_neg (by omega)]; (repeat' (first | exact .nil | exact wkR_c | exact wkR_own | exact wkR_nils | refine wkR_int ?_ | refine wkR_bool ?_ | refine wkR_sl ?_ | refine wkR_osl ?_ | refine wkR_nsl ?_ | refine wkR_oo ?_ | refine wkR_no ?_ | refine .cons ?_ ?_ | refine wkR_agg ?_ | refine wkR_tup ?_)) <;> rfl) | (rw [if_pos hck]; (have ei : i = ps.length := by omega); subst ei; (repeat' (first | exact .nil | exact wkR_c | exact wkR_own | exact wkR_nils | refine wkR_int ?_ | refine wkR_bool ?_ | refine wkR_sl ?_ | refine wkR_osl ?_ | refine wkR_nsl ?_ | refine wkR_oo ?_ | refine wkR_no ?_ | refine .cons ?_ ?_ | refine wkR_agg ?_ | refine wkR_tup ?_)) <;> rfl)
  case b6 =>
   have hp6 := hb6
   try simp only [kb] at hp6
   refine awp_skip ?_
   refine hK2 _ ?_
   have hck : checkL ps = 0 := by omega
   have hcl := checkL_len hck
   refine seq_reg0 fun L8 hL8 => ?_
   refine aops_nilown 4 40 rfl rfl ?x9 ?_
   case x9 => simp only [qq, seval, -Nat.reducePow, reduceIte, reduceCtorEq, hb6]
   simp only [qq, seval, -Nat.reducePow, reduceIte, reduceCtorEq, hb6]
   refine nil_z hL8 ?_
   refine seq_reg 1 fun L10 hL10 => ?_
   simp only [qq, seval, -Nat.reducePow, reduceIte, reduceCtorEq, hb6]
   refine nil_z hL10 ?_
   as_aux_lemma =>
    refine seq_reg 1 fun L11 hL11 => ?_
    simp only [qq, seval, -Nat.reducePow, reduceIte, reduceCtorEq, hb6]
    refine nil_z hL11 ?_
    refine awp_seq_k fun K12 hK12 => ?_
    refine seq_reg 3 fun L13 hL13 => ?_
    simp only [qq, seval, -Nat.reducePow, reduceIte, reduceCtorEq, hb6]
    refine nil_z hL13 ?_
    refine awp_block ?_
    refine awp_loopW (W := [18, 19, 20, 9, 22, 23, 24, 25, 26, 27, 28, 29, 30, 21, 31, 32, 5, 34, 35, 36, 37, 38, 39, 40, 33, 41, 42, 5, 43, 44, 45, 46, 47, 48, 7, 49, 17]) (M := [9]) rfl rfl (fun kk s => ∃ (i : Nat), kk = ps.length - i ∧ (i ≤ ps.length) ∧ s.t 5 = .own false 40 4 (Rw boC (packAt ps i)) ∧ s.t 7 = .c (.int .i64 (stepP ps i)) ∧ s.t 17 = .c (.int .i64 (i : Int)) ∧ s.m 6 = [.c (.int .i64 (lastP ps i).t), .c (.int .i64 (lastP ps i).v)] ∧ s.m 9 = []) ((fun (i : Nat) => ps.length - i) (0)) ?i14 ?r14
    case i14 =>
     refine ⟨0, rfl, ?_, ?_, ?_, ?_, ?_, ?_⟩
     · first | omega | simp
     · (try simp only [qq, seval, -Nat.reducePow, reduceIte, reduceCtorEq, hb6])
       all_goals (first | done | rfl | (simp only [AV.c.injEq, C.int.injEq, List.cons.injEq, and_true, true_and]; omega))
     · (try simp only [qq, seval, -Nat.reducePow, reduceIte, reduceCtorEq, hb6])
       all_goals (first | done | rfl | (simp only [AV.c.injEq, C.int.injEq, List.cons.injEq, and_true, true_and]; omega))
     · (try simp only [qq, seval, -Nat.reducePow, reduceIte, reduceCtorEq, hb6])
       all_goals (first | done | rfl | (simp only [AV.c.injEq, C.int.injEq, List.cons.injEq, and_true, true_and]; omega))
     · (try simp only [qq, seval, -Nat.reducePow, reduceIte, reduceCtorEq, hb6])
       all_goals (first | done | rfl | (simp only [AV.c.injEq, C.int.injEq, List.cons.injEq, and_true, true_and]; omega))
     · (try simp only [qq, seval, -Nat.reducePow, reduceIte, reduceCtorEq, hb6])
       all_goals (first | done | rfl | (simp only [AV.c.injEq, C.int.injEq, List.cons.injEq, and_true, true_and]; omega))
    case r14 =>
     rintro kk s hf ⟨i, rfl, hq8_0, s14t5, s14t7, s14t17, s14m6, s14z9⟩ K14 hK14
     have s14f2 := hf 2 rfl (by (try simp only [qq, seval, -Nat.reducePow, reduceIte, reduceCtorEq, kn, hb6]); all_goals rfl)
     simp only [qq, seval, -Nat.reducePow, reduceIte, reduceCtorEq, hb6] at s14f2
     have s14f3 := hf 3 rfl (by (try simp only [qq, seval, -Nat.reducePow, reduceIte, reduceCtorEq, kn, hb6]); all_goals rfl)
     simp only [qq, seval, -Nat.reducePow, reduceIte, reduceCtorEq, hb6] at s14f3
     have s14f6 := hf 6 rfl (by (try simp only [qq, seval, -Nat.reducePow, reduceIte, reduceCtorEq, kn, hb6]); all_goals rfl)
     simp only [qq, seval, -Nat.reducePow, reduceIte, reduceCtorEq, hb6] at s14f6
     have s14f15 := hf 15 rfl (by (try simp only [qq, seval, -Nat.reducePow, reduceIte, reduceCtorEq, kn, hb6]); all_goals rfl)
     simp only [qq, seval, -Nat.reducePow, reduceIte, reduceCtorEq, hb6] at s14f15
     have s14f16 := hf 16 rfl (by (try simp only [qq, seval, -Nat.reducePow, reduceIte, reduceCtorEq, kn, hb6]); all_goals rfl)
     simp only [qq, seval, -Nat.reducePow, reduceIte, reduceCtorEq, hb6] at s14f16
     clear hf
     refine seq_reg 1 fun L15 hL15 => ?_
     simp only [qq, seval, -Nat.reducePow, reduceIte, reduceCtorEq, hb6, s14t5, s14t7, s14t17, s14m6, s14z9, s14f2, s14f3, s14f6, s14f15, s14f16]
     refine nil_z hL15 ?_
     as_aux_lemma =>
      refine awp_seq_k fun K16 hK16 => ?_
      refine awp_cond (t := ?t17) ?h17 (fun hb17 => ?a17) (fun hb17 => ?b17)
      case h17 => simp only [qq, seval, -Nat.reducePow, reduceIte, reduceCtorEq, hb6, s14t5, s14t7, s14t17, s14m6, s14z9, s14f2, s14f3, s14f6, s14f15, s14f16]; rfl
      case a17 =>
       have hp17 := hb17
       try simp only [kb] at hp17
       refine awp_skip ?_
       refine hK16 _ ?_
       refine awp_seq_k fun K18 hK18 => ?_
       refine awp_block ?_
       refine seq_reg0 fun L19 hL19 => ?_
       refine aops_val (v := ?v20) rfl ?h20 ?_
       case h20 => simp only [qq, seval, -Nat.reducePow, reduceIte, reduceCtorEq, hb6, s14t5, s14t7, s14t17, s14m6, s14z9, s14f2, s14f3, s14f6, s14f15, s14f16, hb17]; first | (rw [idx_c un22 if34] <;> omega) | (rw [idx_o un22 if34] <;> omega) | (rw [idx_a un22 if34] <;> omega)
       simp only [qq, seval, -Nat.reducePow, reduceIte, reduceCtorEq, hb6, s14t5, s14t7, s14t17, s14m6, s14z9, s14f2, s14f3, s14f6, s14f15, s14f16, hb17]
       refine aops_orunN 3 _ _ ?_
       simp only [qq, seval, -Nat.reducePow, reduceIte, reduceCtorEq, hb6, s14t5, s14t7, s14t17, s14m6, s14z9, s14f2, s14f3, s14f6, s14f15, s14f16, hb17]
       refine nil_z hL19 ?_
       have hin := pk_in (l := ps) (i := i) hck (by omega)
       unfold PtIn at hin
       have hpl := packAt_len ps i
       have sP : zputR (packAt ps i) ((ps.getD i default).t - (lastP ps i).t - stepP ps i) = (packAt ps i ++ zenc 8 (foldN ((ps.getD i default).t - (lastP ps i).t - stepP ps i)), 0) := zput_nil (by omega) _
       refine seq_reg 5 fun L21 hL21 => ?_
       simp only [qq, seval, -Nat.reducePow, reduceIte, reduceCtorEq, hb6, s14t5, s14t7, s14t17, s14m6, s14z9, s14f2, s14f3, s14f6, s14f15, s14f16, hb17, sP]
       refine aops_val (v := ?v22) rfl ?h22 ?_
       case h22 => simp only [qq, seval, -Nat.reducePow, reduceIte, reduceCtorEq, hb6, s14t5, s14t7, s14t17, s14m6, s14z9, s14f2, s14f3, s14f6, s14f15, s14f16, hb17, sP]; first | (rw [wr_id] <;> omega) | rfl
       simp only [qq, seval, -Nat.reducePow, reduceIte, reduceCtorEq, hb6, s14t5, s14t7, s14t17, s14m6, s14z9, s14f2, s14f3, s14f6, s14f15, s14f16, hb17, sP]
       refine aops_orunN 1 _ _ ?_
       simp only [qq, seval, -Nat.reducePow, reduceIte, reduceCtorEq, hb6, s14t5, s14t7, s14t17, s14m6, s14z9, s14f2, s14f3, s14f6, s14f15, s14f16, hb17, sP]
       refine aops_val (v := ?v23) rfl ?h23 ?_
       case h23 => simp only [qq, seval, -Nat.reducePow, reduceIte, reduceCtorEq, hb6, s14t5, s14t7, s14t17, s14m6, s14z9, s14f2, s14f3, s14f6, s14f15, s14f16, hb17, sP]; first | (rw [wr_id] <;> omega) | rfl
       simp only [qq, seval, -Nat.reducePow, reduceIte, reduceCtorEq, hb6, s14t5, s14t7, s14t17, s14m6, s14z9, s14f2, s14f3, s14f6, s14f15, s14f16, hb17, sP]
       refine aops_call_own (zput_fun _ _ ?s24_0) rfl rfl rfl rfl (by (try simp only [qq, seval, -Nat.reducePow, reduceIte, reduceCtorEq, hb6, s14t5, s14t7, s14t17, s14m6, s14z9, s14f2, s14f3, s14f6, s14f15, s14f16, hb17, sP]); (repeat' (first | exact .nil | exact wk_c | exact wk_ownc | exact wk_nilsc | exact wk_nils | exact wk_fn | refine .cons ?_ ?_ | refine wk_agg ?_ | refine wk_fnL ?_))) rfl rfl rfl (by simp only [qq, seval, -Nat.reducePow, reduceIte, reduceCtorEq, hb6, s14t5, s14t7, s14t17, s14m6, s14z9, s14f2, s14f3, s14f6, s14f15, s14f16, hb17, sP]) ?m24
       case s24_0 => first | assumption | omega | decide +kernel | (simp only [List.length_take, List.length_drop]; omega)
       simp only [qq, seval, -Nat.reducePow, reduceIte, reduceCtorEq, AV.setOwn, AV.setOwn1, hb6, s14t5, s14t7, s14t17, s14m6, s14z9, s14f2, s14f3, s14f6, s14f15, s14f16, hb17, sP]
       refine aops_orunN 4 _ _ ?_
       simp only [qq, seval, -Nat.reducePow, reduceIte, reduceCtorEq, hb6, s14t5, s14t7, s14t17, s14m6, s14z9, s14f2, s14f3, s14f6, s14f15, s14f16, hb17, sP]
       refine aops_nil (hL21 _ ?_)
       simp only [qq, seval, -Nat.reducePow, reduceIte, reduceCtorEq, hb6, s14t5, s14t7, s14t17, s14m6, s14z9, s14f2, s14f3, s14f6, s14f15, s14f16, hb17, sP]
       have hze := zenc_len 8 (foldN ((ps.getD i default).t - (lastP ps i).t - stepP ps i))
       have hae : (packAt ps i ++ zenc 8 (foldN ((ps.getD i default).t - (lastP ps i).t - stepP ps i))).length = (packAt ps i).length + (zenc 8 (foldN ((ps.getD i default).t - (lastP ps i).t - stepP ps i))).length := List.length_append
       have sQ : zputR (packAt ps i ++ zenc 8 (foldN ((ps.getD i default).t - (lastP ps i).t - stepP ps i))) ((ps.getD i default).v - (lastP ps i).v) = (packAt ps i ++ zenc 8 (foldN ((ps.getD i default).t - (lastP ps i).t - stepP ps i)) ++ zenc 8 (foldN ((ps.getD i default).v - (lastP ps i).v)), 0) := zput_nil (by omega) _
       refine seq_reg 5 fun L25 hL25 => ?_
       simp only [qq, seval, -Nat.reducePow, reduceIte, reduceCtorEq, hb6, s14t5, s14t7, s14t17, s14m6, s14z9, s14f2, s14f3, s14f6, s14f15, s14f16, hb17, sP, sQ]
       refine aops_val (v := ?v26) rfl ?h26 ?_
       case h26 => simp only [qq, seval, -Nat.reducePow, reduceIte, reduceCtorEq, hb6, s14t5, s14t7, s14t17, s14m6, s14z9, s14f2, s14f3, s14f6, s14f15, s14f16, hb17, sP, sQ]; first | (rw [wr_id] <;> omega) | rfl
       simp only [qq, seval, -Nat.reducePow, reduceIte, reduceCtorEq, hb6, s14t5, s14t7, s14t17, s14m6, s14z9, s14f2, s14f3, s14f6, s14f15, s14f16, hb17, sP, sQ]
       refine aops_call_own (zput_fun _ _ ?s27_0) rfl rfl rfl rfl (by (try simp only [qq, seval, -Nat.reducePow, reduceIte, reduceCtorEq, hb6, s14t5, s14t7, s14t17, s14m6, s14z9, s14f2, s14f3, s14f6, s14f15, s14f16, hb17, sP, sQ]); (repeat' (first | exact .nil | exact wk_c | exact wk_ownc | exact wk_nilsc | exact wk_nils | exact wk_fn | refine .cons ?_ ?_ | refine wk_agg ?_ | refine wk_fnL ?_))) rfl rfl rfl (by simp only [qq, seval, -Nat.reducePow, reduceIte, reduceCtorEq, hb6, s14t5, s14t7, s14t17, s14m6, s14z9, s14f2, s14f3, s14f6, s14f15, s14f16, hb17, sP, sQ]) ?m27
       case s27_0 => first | assumption | omega | decide +kernel | (simp only [List.length_take, List.length_drop]; omega)
       simp only [qq, seval, -Nat.reducePow, reduceIte, reduceCtorEq, AV.setOwn, AV.setOwn1, hb6, s14t5, s14t7, s14t17, s14m6, s14z9, s14f2, s14f3, s14f6, s14f15, s14f16, hb17, sP, sQ]
       refine aops_orunN 4 _ _ ?_
       simp only [qq, seval, -Nat.reducePow, reduceIte, reduceCtorEq, hb6, s14t5, s14t7, s14t17, s14m6, s14z9, s14f2, s14f3, s14f6, s14f15, s14f16, hb17, sP, sQ]
       refine aops_nil (hL25 _ ?_)
       simp only [qq, seval, -Nat.reducePow, reduceIte, reduceCtorEq, hb6, s14t5, s14t7, s14t17, s14m6, s14z9, s14f2, s14f3, s14f6, s14f15, s14f16, hb17, sP, sQ]
       as_aux_lemma =>
        refine regd 4 (by decide +kernel) fun L28 hL28 => ?_
        simp only [qq, seval, -Nat.reducePow, reduceIte, reduceCtorEq, hb6, s14t5, s14t7, s14t17, s14m6, s14z9, s14f2, s14f3, s14f6, s14f15, s14f16, hb17, sP, sQ]
        refine aops_val (v := ?v29) rfl ?h29 ?_
        case h29 => simp only [qq, seval, -Nat.reducePow, reduceIte, reduceCtorEq, hb6, s14t5, s14t7, s14t17, s14m6, s14z9, s14f2, s14f3, s14f6, s14f15, s14f16, hb17, sP, sQ]; first | (rw [wr_id] <;> omega) | rfl
        simp only [qq, seval, -Nat.reducePow, reduceIte, reduceCtorEq, hb6, s14t5, s14t7, s14t17, s14m6, s14z9, s14f2, s14f3, s14f6, s14f15, s14f16, hb17, sP, sQ]
        refine aops_orunN 3 _ _ ?_
        simp only [qq, seval, -Nat.reducePow, reduceIte, reduceCtorEq, hb6, s14t5, s14t7, s14t17, s14m6, s14z9, s14f2, s14f3, s14f6, s14f15, s14f16, hb17, sP, sQ]
        refine nil_q hL28 ?_
        try simp only [rk_state]
        refine hK18 _ ?_
        refine reg 0 fun L30 hL30 => ?_
        simp only [qq, seval, -Nat.reducePow, reduceIte, reduceCtorEq, hb6, s14t5, s14t7, s14t17, s14m6, s14z9, s14f2, s14f3, s14f6, s14f15, s14f16, hb17, sP, sQ]
        refine aops_val (v := ?v31) rfl ?h31 ?_
        case h31 => simp only [qq, seval, -Nat.reducePow, reduceIte, reduceCtorEq, hb6, s14t5, s14t7, s14t17, s14m6, s14z9, s14f2, s14f3, s14f6, s14f15, s14f16, hb17, sP, sQ]; first | (rw [wr_id] <;> omega) | rfl
        simp only [qq, seval, -Nat.reducePow, reduceIte, reduceCtorEq, hb6, s14t5, s14t7, s14t17, s14m6, s14z9, s14f2, s14f3, s14f6, s14f15, s14f16, hb17, sP, sQ]
        refine aops_orunN 1 _ _ ?_
        simp only [qq, seval, -Nat.reducePow, reduceIte, reduceCtorEq, hb6, s14t5, s14t7, s14t17, s14m6, s14z9, s14f2, s14f3, s14f6, s14f15, s14f16, hb17, sP, sQ]
        refine nil_q hL30 ?_
        try simp only [rk_state]
        have sN := packAt_next ps i
        have sL := lastP_next ps i
        have sS := stepP_next ps i
        refine hK14 _ ((fun (i : Nat) => ps.length - i) (i + 1)) ?_ ⟨i + 1, rfl, ?_, ?_, ?_, ?_, ?_, ?_⟩
        · (try simp only []); omega
        · first | omega | simp
        · (try simp only [qq, seval, -Nat.reducePow, reduceIte, reduceCtorEq, hb6, s14t5, s14t7, s14t17, s14m6, s14z9, s14f2, s14f3, s14f6, s14f15, s14f16, hb17, sP, sQ, sN, sL, sS])
          all_goals (first | done | rfl | (simp only [itemB, List.append_assoc]; done))
        · (try simp only [qq, seval, -Nat.reducePow, reduceIte, reduceCtorEq, hb6, s14t5, s14t7, s14t17, s14m6, s14z9, s14f2, s14f3, s14f6, s14f15, s14f16, hb17, sP, sQ, sN, sL, sS])
          all_goals (first | done | rfl | (simp only [AV.c.injEq, C.int.injEq, List.cons.injEq, and_true, true_and]; omega))
        · (try simp only [qq, seval, -Nat.reducePow, reduceIte, reduceCtorEq, hb6, s14t5, s14t7, s14t17, s14m6, s14z9, s14f2, s14f3, s14f6, s14f15, s14f16, hb17, sP, sQ, sN, sL, sS])
          all_goals (first | done | rfl | (simp only [AV.c.injEq, C.int.injEq, List.cons.injEq, and_true, true_and]; omega))
        · (try simp only [qq, seval, -Nat.reducePow, reduceIte, reduceCtorEq, hb6, s14t5, s14t7, s14t17, s14m6, s14z9, s14f2, s14f3, s14f6, s14f15, s14f16, hb17, sP, sQ, sN, sL, sS])
          all_goals (first | done | rfl | (simp only [AV.c.injEq, C.int.injEq, List.cons.injEq, and_true, true_and]; omega))
        · (try simp only [qq, seval, -Nat.reducePow, reduceIte, reduceCtorEq, hb6, s14t5, s14t7, s14t17, s14m6, s14z9, s14f2, s14f3, s14f6, s14f15, s14f16, hb17, sP, sQ, sN, sL, sS])
          all_goals (first | done | rfl | (simp only [AV.c.injEq, C.int.injEq, List.cons.injEq, and_true, true_and]; omega))
      case b17 =>
       have hp17 := hb17
       try simp only [kb] at hp17
       refine awp_exit ?_
       simp only [rk_state, reduceIte, Nat.reduceEqDiff]
       refine hK12 _ ?_
       refine seq_reg 3 fun L32 hL32 => ?_
       simp only [qq, seval, -Nat.reducePow, reduceIte, reduceCtorEq, hb6, s14t5, s14t7, s14t17, s14m6, s14z9, s14f2, s14f3, s14f6, s14f15, s14f16, hb17]
       refine nil_z hL32 ?_
       as_aux_lemma =>
        refine awp_ret ?_
        try simp only [rk_state]
        refine ⟨_, 40, by simp only [qq, seval, -Nat.reducePow, reduceIte, reduceCtorEq, resA, Try.results44, hb6, s14t5, s14t7, s14t17, s14m6, s14z9, s14f2, s14f3, s14f6, s14f15, s14f16, hb17]; rfl, ?_, nomem_a, nomem_a⟩
        simp only [packA]
        unfold packR; first | (rw [if_neg (by omega)]; (repeat' (first | exact .nil | exact wkR_c | exact wkR_own | exact wkR_nils | refine wkR_int ?_ | refine wkR_bool ?_ | refine wkR_sl ?_ | refine wkR_osl ?_ | refine wkR_nsl ?_ | refine wkR_oo ?_ | refine wkR_no ?_ | refine .cons ?_ ?_ | refine wkR_agg ?_ | refine wkR_tup ?_)) <;> rfl) | (rw [if_pos hck]; (have ei : i = ps.length := by omega); subst ei; (repeat' (first | exact .nil | exact wkR_c | exact wkR_own | exact wkR_nils | refine wkR_int ?_ | refine wkR_bool ?_ | refine wkR_sl ?_ | refine wkR_osl ?_ | refine wkR_nsl ?_ | refine wkR_oo ?_ | refine wkR_no ?_ | refine .cons ?_ ?_ | refine wkR_agg ?_ | refine wkR_tup ?_)) <;> rfl)
theorem coded_eq (l : List Bool) (v w : Int) (hl : l.length ≤ 140737488355200) (h : v = w) : Fun Try.prog 41 [.c (.sl 4 (Rw boC l)), .c (.int .i64 v)] nomem (.tup [.own false 0 4 (Rw boC (zputR l w).1), .c (.int .i64 (zputR l w).2)]) nomem := h ▸ coded_fun l v hl
set_option maxHeartbeats 4000000 in
set_option maxRecDepth 50000 in
theorem packedof_fun (ps : List Pt) : Fun Try.prog 46 [.c (.sl 34 (Rw Pt.cs ps))] nomem (.tup [.own false 0 4 (Rw boC (packR ps).1), .c (.int .i64 (packR ps).2)]) nomem := by
 refine fun_of_awp Try.func46 rfl (by decide +kernel) (by decide +kernel) (Nat.le_of_ble_eq_true rfl) (fun _ _ => rfl) (fun _ _ => rfl) ?_
 refine seq_reg 2 fun L1 hL1 => ?_
 simp only [qq, seval, -Nat.reducePow, reduceIte, reduceCtorEq]
 refine nil_z hL1 ?_
 refine awp_seq_k fun K2 hK2 => ?_
 refine seq_reg 1 fun L3 hL3 => ?_
 simp only [qq, seval, -Nat.reducePow, reduceIte, reduceCtorEq]
 refine aops_call (checkps_fun _) rfl rfl rfl rfl (by (try simp only [qq, seval, -Nat.reducePow, reduceIte, reduceCtorEq]); (repeat' (first | exact .nil | exact wk_c | exact wk_ownc | exact wk_nilsc | exact wk_nils | exact wk_fn | refine .cons ?_ ?_ | refine wk_agg ?_ | refine wk_fnL ?_))) rfl rfl ?_
 simp only [qq, seval, -Nat.reducePow, reduceIte, reduceCtorEq]
 refine aops_orunN 1 _ _ ?_
 simp only [qq, seval, -Nat.reducePow, reduceIte, reduceCtorEq]
 refine nil_z hL3 ?_
 refine seq_reg 2 fun L5 hL5 => ?_
 simp only [qq, seval, -Nat.reducePow, reduceIte, reduceCtorEq]
 refine nil_z hL5 ?_
 as_aux_lemma =>
  refine awp_cond (t := ?t6) ?h6 (fun hb6 => ?a6) (fun hb6 => ?b6)
  case h6 => simp only [qq, seval, -Nat.reducePow, reduceIte, reduceCtorEq]; rfl
  case a6 =>
   have hp6 := hb6
   try simp only [kb] at hp6
   refine seq_reg 3 fun L7 hL7 => ?_
   simp only [qq, seval, -Nat.reducePow, reduceIte, reduceCtorEq, hb6]
   refine nil_z hL7 ?_
   refine awp_ret ?_
   try simp only [rk_state]
   refine ⟨_, 64, by simp only [qq, seval, -Nat.reducePow, reduceIte, reduceCtorEq, resA, Try.results46, hb6]; rfl, ?_, nomem_a, nomem_a⟩
   simp only [packA]
   unfold packR; first | (rw [if_neg (by omega)]; (repeat' (first | exact .nil | exact wkR_c | exact wkR_own | exact wkR_nils | refine wkR_int ?_ | refine wkR_bool ?_ | refine wkR_sl ?_ | refine wkR_osl ?_ | refine wkR_nsl ?_ | refine wkR_oo ?_ | refine wkR_no ?_ | refine .cons ?_ ?_ | refine wkR_agg ?_ | refine wkR_tup ?_)) <;> rfl) | (rw [if_pos hck]; (have ei : i = ps.length := by omega); subst ei; (repeat' (first | exact .nil | exact wkR_c | exact wkR_own | exact wkR_nils | refine wkR_int ?_ | refine wkR_bool ?_ | refine wkR_sl ?_ | refine wkR_osl ?_ | refine wkR_nsl ?_ | refine wkR_oo ?_ | refine wkR_no ?_ | refine .cons ?_ ?_ | refine wkR_agg ?_ | refine wkR_tup ?_)) <;> rfl)
  case b6 =>
   have hp6 := hb6
   try simp only [kb] at hp6
   refine awp_skip ?_
   refine hK2 _ ?_
   have hck : checkL ps = 0 := by omega
   have hcl := checkL_len hck
   refine seq_reg0 fun L8 hL8 => ?_
   refine aops_nilown 4 64 rfl rfl ?x9 ?_
   case x9 => simp only [qq, seval, -Nat.reducePow, reduceIte, reduceCtorEq, hb6]
   simp only [qq, seval, -Nat.reducePow, reduceIte, reduceCtorEq, hb6]
   refine nil_z hL8 ?_
   refine awp_seq_k fun K10 hK10 => ?_
   refine seq_reg 3 fun L11 hL11 => ?_
   simp only [qq, seval, -Nat.reducePow, reduceIte, reduceCtorEq, hb6]
   refine nil_z hL11 ?_
   as_aux_lemma =>
    refine awp_block ?_
    refine awp_loopW (W := [18, 19, 20, 21, 7, 6, 22, 23, 24, 25, 8, 9, 26, 27, 28, 29, 30, 31, 32, 33, 34, 35, 9, 36, 37, 38, 39, 40, 41, 42, 43, 44, 8, 45, 46, 47, 48, 49, 50, 51, 52, 53, 54, 8, 56, 57, 58, 55, 59, 60, 5, 62, 63, 64, 61, 65, 66, 5, 67, 17]) (M := [7]) rfl rfl (fun kk s => ∃ (i : Nat), kk = ps.length - i ∧ (i ≤ ps.length) ∧ s.t 5 = .own false 64 4 (Rw boC (packAt ps i)) ∧ s.t 17 = .c (.int .i64 (i : Int)) ∧ s.m 7 = []) ((fun (i : Nat) => ps.length - i) (0)) ?i12 ?r12
    case i12 =>
     refine ⟨0, rfl, ?_, ?_, ?_, ?_⟩
     · first | omega | simp
     · (try simp only [qq, seval, -Nat.reducePow, reduceIte, reduceCtorEq, hb6])
       all_goals (first | done | rfl | (simp only [AV.c.injEq, C.int.injEq, List.cons.injEq, and_true, true_and]; omega))
     · (try simp only [qq, seval, -Nat.reducePow, reduceIte, reduceCtorEq, hb6])
       all_goals (first | done | rfl | (simp only [AV.c.injEq, C.int.injEq, List.cons.injEq, and_true, true_and]; omega))
     · (try simp only [qq, seval, -Nat.reducePow, reduceIte, reduceCtorEq, hb6])
       all_goals (first | done | rfl | (simp only [AV.c.injEq, C.int.injEq, List.cons.injEq, and_true, true_and]; omega))
    case r12 =>
     rintro kk s hf ⟨i, rfl, hq6_0, s12t5, s12t17, s12z7⟩ K12 hK12
     have s12f0 := hf 0 rfl (by (try simp only [qq, seval, -Nat.reducePow, reduceIte, reduceCtorEq, kn, hb6]); all_goals rfl)
     simp only [qq, seval, -Nat.reducePow, reduceIte, reduceCtorEq, hb6] at s12f0
     have s12f2 := hf 2 rfl (by (try simp only [qq, seval, -Nat.reducePow, reduceIte, reduceCtorEq, kn, hb6]); all_goals rfl)
     simp only [qq, seval, -Nat.reducePow, reduceIte, reduceCtorEq, hb6] at s12f2
     have s12f3 := hf 3 rfl (by (try simp only [qq, seval, -Nat.reducePow, reduceIte, reduceCtorEq, kn, hb6]); all_goals rfl)
     simp only [qq, seval, -Nat.reducePow, reduceIte, reduceCtorEq, hb6] at s12f3
     have s12f15 := hf 15 rfl (by (try simp only [qq, seval, -Nat.reducePow, reduceIte, reduceCtorEq, kn, hb6]); all_goals rfl)
     simp only [qq, seval, -Nat.reducePow, reduceIte, reduceCtorEq, hb6] at s12f15
     have s12f16 := hf 16 rfl (by (try simp only [qq, seval, -Nat.reducePow, reduceIte, reduceCtorEq, kn, hb6]); all_goals rfl)
     simp only [qq, seval, -Nat.reducePow, reduceIte, reduceCtorEq, hb6] at s12f16
     clear hf
     refine seq_reg 1 fun L13 hL13 => ?_
     simp only [qq, seval, -Nat.reducePow, reduceIte, reduceCtorEq, hb6, s12t5, s12t17, s12z7, s12f0, s12f2, s12f3, s12f15, s12f16]
     refine nil_z hL13 ?_
     refine awp_seq_k fun K14 hK14 => ?_
     refine awp_cond (t := ?t15) ?h15 (fun hb15 => ?a15) (fun hb15 => ?b15)
     case h15 => simp only [qq, seval, -Nat.reducePow, reduceIte, reduceCtorEq, hb6, s12t5, s12t17, s12z7, s12f0, s12f2, s12f3, s12f15, s12f16]; rfl
     case a15 =>
      have hp15 := hb15
      try simp only [kb] at hp15
      refine awp_skip ?_
      refine hK14 _ ?_
      refine awp_seq_k fun K16 hK16 => ?_
      refine awp_block ?_
      have hin := pk_in (l := ps) (i := i) hck (by omega)
      unfold PtIn at hin
      have hsec := second (l := ps) (i := i)
      refine seq_reg 1 fun L17 hL17 => ?_
      simp only [qq, seval, -Nat.reducePow, reduceIte, reduceCtorEq, hb6, s12t5, s12t17, s12z7, s12f0, s12f2, s12f3, s12f15, s12f16, hb15]
      refine aops_val (v := ?v18) rfl ?h18 ?_
      case h18 => simp only [qq, seval, -Nat.reducePow, reduceIte, reduceCtorEq, hb6, s12t5, s12t17, s12z7, s12f0, s12f2, s12f3, s12f15, s12f16, hb15]; first | (rw [idx_c un22 if34] <;> omega) | (rw [idx_o un22 if34] <;> omega) | (rw [idx_a un22 if34] <;> omega)
      simp only [qq, seval, -Nat.reducePow, reduceIte, reduceCtorEq, hb6, s12t5, s12t17, s12z7, s12f0, s12f2, s12f3, s12f15, s12f16, hb15]
      refine aops_orunN 4 _ _ ?_
      simp only [qq, seval, -Nat.reducePow, reduceIte, reduceCtorEq, hb6, s12t5, s12t17, s12z7, s12f0, s12f2, s12f3, s12f15, s12f16, hb15]
      refine nil_z hL17 ?_
      refine awp_seq_k fun K19 hK19 => ?_
      refine awp_region_drk [(7, some 7), (22, some 7), (24, some 7)] [22, 24] (by decide +kernel) (by decide +kernel) (by simp only [qq, seval, -Nat.reducePow, reduceIte, reduceCtorEq, hb6, s12t5, s12t17, s12z7, s12f0, s12f2, s12f3, s12f15, s12f16, hb15, List.all_cons, List.all_nil, forget, AV.tb]) fun L20 hL20 => ?_
      refine aops_orunN 6 _ _ ?_
      simp only [qq, seval, -Nat.reducePow, reduceIte, reduceCtorEq, hb6, s12t5, s12t17, s12z7, s12f0, s12f2, s12f3, s12f15, s12f16, hb15]
      refine aops_nil (hL20 _ ?_)
      simp only [qq, seval, -Nat.reducePow, reduceIte, reduceCtorEq, hb6, s12t5, s12t17, s12z7, s12f0, s12f2, s12f3, s12f15, s12f16, hb15]
      refine hK19 _ ?_
      as_aux_lemma =>
       refine awp_seq_k fun K21 hK21 => ?_
       refine seq_reg 2 fun L22 hL22 => ?_
       simp only [qq, seval, -Nat.reducePow, reduceIte, reduceCtorEq, hb6, s12t5, s12t17, s12z7, s12f0, s12f2, s12f3, s12f15, s12f16, hb15]
       refine nil_z hL22 ?_
       refine awp_cond (t := ?t23) ?h23 (fun hb23 => ?a23) (fun hb23 => ?b23)
       case h23 => simp only [qq, seval, -Nat.reducePow, reduceIte, reduceCtorEq, hb6, s12t5, s12t17, s12z7, s12f0, s12f2, s12f3, s12f15, s12f16, hb15]; rfl
       case a23 =>
        have hp23 := hb23
        try simp only [kb] at hp23
        have s9 : ((i : Int) - 1).toNat = i - 1 := by omega
        have hpr := (pk_in (l := ps) (i := i - 1) hck (by omega)).1
        unfold PtIn at hpr
        have hs2 := hsec.2.1 (by omega)
        have hsv : (lastP ps i).v = (ps.getD (i - 1) default).v := by rw [hs2]
        have hst : (lastP ps i).t = (ps.getD (i - 1) default).t := by rw [hs2]
        refine seq_reg 3 fun L24 hL24 => ?_
        simp only [qq, seval, -Nat.reducePow, reduceIte, reduceCtorEq, hb6, s12t5, s12t17, s12z7, s12f0, s12f2, s12f3, s12f15, s12f16, hb15, hb23, s9]
        refine aops_val (v := ?v25) rfl ?h25 ?_
        case h25 => simp only [qq, seval, -Nat.reducePow, reduceIte, reduceCtorEq, hb6, s12t5, s12t17, s12z7, s12f0, s12f2, s12f3, s12f15, s12f16, hb15, hb23, s9]; first | (rw [wr_id] <;> omega) | rfl
        simp only [qq, seval, -Nat.reducePow, reduceIte, reduceCtorEq, hb6, s12t5, s12t17, s12z7, s12f0, s12f2, s12f3, s12f15, s12f16, hb15, hb23, s9]
        refine aops_val (v := ?v26) rfl ?h26 ?_
        case h26 => simp only [qq, seval, -Nat.reducePow, reduceIte, reduceCtorEq, hb6, s12t5, s12t17, s12z7, s12f0, s12f2, s12f3, s12f15, s12f16, hb15, hb23, s9]; first | (rw [idx_c un22 if34] <;> omega) | (rw [idx_o un22 if34] <;> omega) | (rw [idx_a un22 if34] <;> omega)
        simp only [qq, seval, -Nat.reducePow, reduceIte, reduceCtorEq, hb6, s12t5, s12t17, s12z7, s12f0, s12f2, s12f3, s12f15, s12f16, hb15, hb23, s9]
        refine aops_orunN 2 _ _ ?_
        simp only [qq, seval, -Nat.reducePow, reduceIte, reduceCtorEq, hb6, s12t5, s12t17, s12z7, s12f0, s12f2, s12f3, s12f15, s12f16, hb15, hb23, s9]
        refine aops_val (v := ?v27) rfl ?h27 ?_
        case h27 => simp only [qq, seval, -Nat.reducePow, reduceIte, reduceCtorEq, hb6, s12t5, s12t17, s12z7, s12f0, s12f2, s12f3, s12f15, s12f16, hb15, hb23, s9]; first | (rw [wr_id] <;> omega) | rfl
        simp only [qq, seval, -Nat.reducePow, reduceIte, reduceCtorEq, hb6, s12t5, s12t17, s12z7, s12f0, s12f2, s12f3, s12f15, s12f16, hb15, hb23, s9]
        refine aops_orunN 1 _ _ ?_
        simp only [qq, seval, -Nat.reducePow, reduceIte, reduceCtorEq, hb6, s12t5, s12t17, s12z7, s12f0, s12f2, s12f3, s12f15, s12f16, hb15, hb23, s9]
        refine nil_z hL24 ?_
        refine reg 3 fun L28 hL28 => ?_
        simp only [qq, seval, -Nat.reducePow, reduceIte, reduceCtorEq, hb6, s12t5, s12t17, s12z7, s12f0, s12f2, s12f3, s12f15, s12f16, hb15, hb23, s9]
        refine aops_val (v := ?v29) rfl ?h29 ?_
        case h29 => simp only [qq, seval, -Nat.reducePow, reduceIte, reduceCtorEq, hb6, s12t5, s12t17, s12z7, s12f0, s12f2, s12f3, s12f15, s12f16, hb15, hb23, s9]; first | (rw [wr_id] <;> omega) | rfl
        simp only [qq, seval, -Nat.reducePow, reduceIte, reduceCtorEq, hb6, s12t5, s12t17, s12z7, s12f0, s12f2, s12f3, s12f15, s12f16, hb15, hb23, s9]
        refine aops_val (v := ?v30) rfl ?h30 ?_
        case h30 => simp only [qq, seval, -Nat.reducePow, reduceIte, reduceCtorEq, hb6, s12t5, s12t17, s12z7, s12f0, s12f2, s12f3, s12f15, s12f16, hb15, hb23, s9]; first | (rw [idx_c un22 if34] <;> omega) | (rw [idx_o un22 if34] <;> omega) | (rw [idx_a un22 if34] <;> omega)
        simp only [qq, seval, -Nat.reducePow, reduceIte, reduceCtorEq, hb6, s12t5, s12t17, s12z7, s12f0, s12f2, s12f3, s12f15, s12f16, hb15, hb23, s9]
        refine aops_orunN 2 _ _ ?_
        simp only [qq, seval, -Nat.reducePow, reduceIte, reduceCtorEq, hb6, s12t5, s12t17, s12z7, s12f0, s12f2, s12f3, s12f15, s12f16, hb15, hb23, s9]
        refine aops_val (v := ?v31) rfl ?h31 ?_
        case h31 => simp only [qq, seval, -Nat.reducePow, reduceIte, reduceCtorEq, hb6, s12t5, s12t17, s12z7, s12f0, s12f2, s12f3, s12f15, s12f16, hb15, hb23, s9]; first | (rw [wr_id] <;> omega) | rfl
        simp only [qq, seval, -Nat.reducePow, reduceIte, reduceCtorEq, hb6, s12t5, s12t17, s12z7, s12f0, s12f2, s12f3, s12f15, s12f16, hb15, hb23, s9]
        refine aops_val (v := ?v32) rfl ?h32 ?_
        case h32 => simp only [qq, seval, -Nat.reducePow, reduceIte, reduceCtorEq, hb6, s12t5, s12t17, s12z7, s12f0, s12f2, s12f3, s12f15, s12f16, hb15, hb23, s9]; first | (rw [wr_id] <;> omega) | rfl
        simp only [qq, seval, -Nat.reducePow, reduceIte, reduceCtorEq, hb6, s12t5, s12t17, s12z7, s12f0, s12f2, s12f3, s12f15, s12f16, hb15, hb23, s9]
        refine aops_orunN 1 _ _ ?_
        simp only [qq, seval, -Nat.reducePow, reduceIte, reduceCtorEq, hb6, s12t5, s12t17, s12z7, s12f0, s12f2, s12f3, s12f15, s12f16, hb15, hb23, s9]
        refine nil_q hL28 ?_
        refine hK21 _ ?_
        as_aux_lemma =>
         refine awp_seq_k fun K33 hK33 => ?_
         refine seq_reg 2 fun L34 hL34 => ?_
         simp only [qq, seval, -Nat.reducePow, reduceIte, reduceCtorEq, hb6, s12t5, s12t17, s12z7, s12f0, s12f2, s12f3, s12f15, s12f16, hb15, hb23, s9]
         refine nil_z hL34 ?_
         refine awp_cond (t := ?t35) ?h35 (fun hb35 => ?a35) (fun hb35 => ?b35)
         case h35 => simp only [qq, seval, -Nat.reducePow, reduceIte, reduceCtorEq, hb6, s12t5, s12t17, s12z7, s12f0, s12f2, s12f3, s12f15, s12f16, hb15, hb23, s9]; rfl
         case a35 =>
          have hp35 := hb35
          try simp only [kb] at hp35
          have s11 : ((i : Int) - 2).toNat = i - 2 := by omega
          have hpq := (pk_in (l := ps) (i := i - 2) hck (by omega)).1
          unfold PtIn at hpq
          have hs4 := hsec.2.2.2 (by omega)
          refine reg 3 fun L36 hL36 => ?_
          simp only [qq, seval, -Nat.reducePow, reduceIte, reduceCtorEq, hb6, s12t5, s12t17, s12z7, s12f0, s12f2, s12f3, s12f15, s12f16, hb15, hb23, s9, hb35, s11]
          refine aops_val (v := ?v37) rfl ?h37 ?_
          case h37 => simp only [qq, seval, -Nat.reducePow, reduceIte, reduceCtorEq, hb6, s12t5, s12t17, s12z7, s12f0, s12f2, s12f3, s12f15, s12f16, hb15, hb23, s9, hb35, s11]; first | (rw [wr_id] <;> omega) | rfl
          simp only [qq, seval, -Nat.reducePow, reduceIte, reduceCtorEq, hb6, s12t5, s12t17, s12z7, s12f0, s12f2, s12f3, s12f15, s12f16, hb15, hb23, s9, hb35, s11]
          refine aops_val (v := ?v38) rfl ?h38 ?_
          case h38 => simp only [qq, seval, -Nat.reducePow, reduceIte, reduceCtorEq, hb6, s12t5, s12t17, s12z7, s12f0, s12f2, s12f3, s12f15, s12f16, hb15, hb23, s9, hb35, s11]; first | (rw [idx_c un22 if34] <;> omega) | (rw [idx_o un22 if34] <;> omega) | (rw [idx_a un22 if34] <;> omega)
          simp only [qq, seval, -Nat.reducePow, reduceIte, reduceCtorEq, hb6, s12t5, s12t17, s12z7, s12f0, s12f2, s12f3, s12f15, s12f16, hb15, hb23, s9, hb35, s11]
          refine aops_orunN 2 _ _ ?_
          simp only [qq, seval, -Nat.reducePow, reduceIte, reduceCtorEq, hb6, s12t5, s12t17, s12z7, s12f0, s12f2, s12f3, s12f15, s12f16, hb15, hb23, s9, hb35, s11]
          refine aops_val (v := ?v39) rfl ?h39 ?_
          case h39 => simp only [qq, seval, -Nat.reducePow, reduceIte, reduceCtorEq, hb6, s12t5, s12t17, s12z7, s12f0, s12f2, s12f3, s12f15, s12f16, hb15, hb23, s9, hb35, s11]; first | (rw [wr_id] <;> omega) | rfl
          simp only [qq, seval, -Nat.reducePow, reduceIte, reduceCtorEq, hb6, s12t5, s12t17, s12z7, s12f0, s12f2, s12f3, s12f15, s12f16, hb15, hb23, s9, hb35, s11]
          refine aops_orunN 1 _ _ ?_
          simp only [qq, seval, -Nat.reducePow, reduceIte, reduceCtorEq, hb6, s12t5, s12t17, s12z7, s12f0, s12f2, s12f3, s12f15, s12f16, hb15, hb23, s9, hb35, s11]
          refine nil_q hL36 ?_
          refine hK33 _ ?_
          have hpl := packAt_len ps i
          have sP : zputR (packAt ps i) ((ps.getD i default).t - (lastP ps i).t - stepP ps i) = (packAt ps i ++ zenc 8 (foldN ((ps.getD i default).t - (lastP ps i).t - stepP ps i)), 0) := zput_nil (by omega) _
          refine seq_reg 2 fun L40 hL40 => ?_
          simp only [qq, seval, -Nat.reducePow, reduceIte, reduceCtorEq, hb6, s12t5, s12t17, s12z7, s12f0, s12f2, s12f3, s12f15, s12f16, hb15, hb23, s9, hb35, s11, sP]
          refine aops_call_own (coded_eq _ _ ((ps.getD i default).t - (lastP ps i).t - stepP ps i) ?s41_0 ?s41_1) rfl rfl rfl rfl (by (try simp only [qq, seval, -Nat.reducePow, reduceIte, reduceCtorEq, hb6, s12t5, s12t17, s12z7, s12f0, s12f2, s12f3, s12f15, s12f16, hb15, hb23, s9, hb35, s11, sP]); (repeat' (first | exact .nil | exact wk_c | exact wk_ownc | exact wk_nilsc | exact wk_nils | exact wk_fn | refine .cons ?_ ?_ | refine wk_agg ?_ | refine wk_fnL ?_))) rfl rfl rfl (by simp only [qq, seval, -Nat.reducePow, reduceIte, reduceCtorEq, hb6, s12t5, s12t17, s12z7, s12f0, s12f2, s12f3, s12f15, s12f16, hb15, hb23, s9, hb35, s11, sP]) ?m41
          case s41_0 => first | assumption | omega | decide +kernel | (simp only [List.length_take, List.length_drop]; omega)
          case s41_1 => first | (have h9 := hsec.1 (by omega); omega) | (have h9 := hsec.2.2.1 (by omega); omega) | omega
          simp only [qq, seval, -Nat.reducePow, reduceIte, reduceCtorEq, AV.setOwn, AV.setOwn1, hb6, s12t5, s12t17, s12z7, s12f0, s12f2, s12f3, s12f15, s12f16, hb15, hb23, s9, hb35, s11, sP]
          refine aops_orunN 4 _ _ ?_
          simp only [qq, seval, -Nat.reducePow, reduceIte, reduceCtorEq, hb6, s12t5, s12t17, s12z7, s12f0, s12f2, s12f3, s12f15, s12f16, hb15, hb23, s9, hb35, s11, sP]
          refine aops_nil (hL40 _ ?_)
          simp only [qq, seval, -Nat.reducePow, reduceIte, reduceCtorEq, hb6, s12t5, s12t17, s12z7, s12f0, s12f2, s12f3, s12f15, s12f16, hb15, hb23, s9, hb35, s11, sP]
          as_aux_lemma =>
           have hze := zenc_len 8 (foldN ((ps.getD i default).t - (lastP ps i).t - stepP ps i))
           have hae : (packAt ps i ++ zenc 8 (foldN ((ps.getD i default).t - (lastP ps i).t - stepP ps i))).length = (packAt ps i).length + (zenc 8 (foldN ((ps.getD i default).t - (lastP ps i).t - stepP ps i))).length := List.length_append
           have sQ : zputR (packAt ps i ++ zenc 8 (foldN ((ps.getD i default).t - (lastP ps i).t - stepP ps i))) ((ps.getD i default).v - (lastP ps i).v) = (packAt ps i ++ zenc 8 (foldN ((ps.getD i default).t - (lastP ps i).t - stepP ps i)) ++ zenc 8 (foldN ((ps.getD i default).v - (lastP ps i).v)), 0) := zput_nil (by omega) _
           refine reg 2 fun L42 hL42 => ?_
           simp only [qq, seval, -Nat.reducePow, reduceIte, reduceCtorEq, hb6, s12t5, s12t17, s12z7, s12f0, s12f2, s12f3, s12f15, s12f16, hb15, hb23, s9, hb35, s11, sP, sQ]
           refine aops_call_own (coded_eq _ _ ((ps.getD i default).v - (lastP ps i).v) ?s43_0 ?s43_1) rfl rfl rfl rfl (by (try simp only [qq, seval, -Nat.reducePow, reduceIte, reduceCtorEq, hb6, s12t5, s12t17, s12z7, s12f0, s12f2, s12f3, s12f15, s12f16, hb15, hb23, s9, hb35, s11, sP, sQ]); (repeat' (first | exact .nil | exact wk_c | exact wk_ownc | exact wk_nilsc | exact wk_nils | exact wk_fn | refine .cons ?_ ?_ | refine wk_agg ?_ | refine wk_fnL ?_))) rfl rfl rfl (by simp only [qq, seval, -Nat.reducePow, reduceIte, reduceCtorEq, hb6, s12t5, s12t17, s12z7, s12f0, s12f2, s12f3, s12f15, s12f16, hb15, hb23, s9, hb35, s11, sP, sQ]) ?m43
           case s43_0 => first | assumption | omega | decide +kernel | (simp only [List.length_take, List.length_drop]; omega)
           case s43_1 => first | (have h9 := hsec.1 (by omega); omega) | omega
           simp only [qq, seval, -Nat.reducePow, reduceIte, reduceCtorEq, AV.setOwn, AV.setOwn1, hb6, s12t5, s12t17, s12z7, s12f0, s12f2, s12f3, s12f15, s12f16, hb15, hb23, s9, hb35, s11, sP, sQ]
           refine aops_orunN 4 _ _ ?_
           simp only [qq, seval, -Nat.reducePow, reduceIte, reduceCtorEq, hb6, s12t5, s12t17, s12z7, s12f0, s12f2, s12f3, s12f15, s12f16, hb15, hb23, s9, hb35, s11, sP, sQ]
           refine aops_nil (hL42 _ ?_)
           simp only [qq, seval, -Nat.reducePow, reduceIte, reduceCtorEq, hb6, s12t5, s12t17, s12z7, s12f0, s12f2, s12f3, s12f15, s12f16, hb15, hb23, s9, hb35, s11, sP, sQ]
           try simp only [rk_state]
           refine hK16 _ ?_
           refine reg 0 fun L44 hL44 => ?_
           simp only [qq, seval, -Nat.reducePow, reduceIte, reduceCtorEq, hb6, s12t5, s12t17, s12z7, s12f0, s12f2, s12f3, s12f15, s12f16, hb15, hb23, s9, hb35, s11, sP, sQ]
           refine aops_val (v := ?v45) rfl ?h45 ?_
           case h45 => simp only [qq, seval, -Nat.reducePow, reduceIte, reduceCtorEq, hb6, s12t5, s12t17, s12z7, s12f0, s12f2, s12f3, s12f15, s12f16, hb15, hb23, s9, hb35, s11, sP, sQ]; first | (rw [wr_id] <;> omega) | rfl
           simp only [qq, seval, -Nat.reducePow, reduceIte, reduceCtorEq, hb6, s12t5, s12t17, s12z7, s12f0, s12f2, s12f3, s12f15, s12f16, hb15, hb23, s9, hb35, s11, sP, sQ]
           refine aops_orunN 1 _ _ ?_
           simp only [qq, seval, -Nat.reducePow, reduceIte, reduceCtorEq, hb6, s12t5, s12t17, s12z7, s12f0, s12f2, s12f3, s12f15, s12f16, hb15, hb23, s9, hb35, s11, sP, sQ]
           refine nil_q hL44 ?_
           try simp only [rk_state]
           have sN := packAt_next ps i
           refine hK12 _ ((fun (i : Nat) => ps.length - i) (i + 1)) ?_ ⟨i + 1, rfl, ?_, ?_, ?_, ?_⟩
           · (try simp only []); omega
           · first | omega | simp
           · (try simp only [qq, seval, -Nat.reducePow, reduceIte, reduceCtorEq, hb6, s12t5, s12t17, s12z7, s12f0, s12f2, s12f3, s12f15, s12f16, hb15, hb23, s9, hb35, s11, sP, sQ, sN])
             all_goals (first | done | rfl | (simp only [itemB, List.append_assoc]; done))
           · (try simp only [qq, seval, -Nat.reducePow, reduceIte, reduceCtorEq, hb6, s12t5, s12t17, s12z7, s12f0, s12f2, s12f3, s12f15, s12f16, hb15, hb23, s9, hb35, s11, sP, sQ, sN])
             all_goals (first | done | rfl | (simp only [AV.c.injEq, C.int.injEq, List.cons.injEq, and_true, true_and]; omega))
           · (try simp only [qq, seval, -Nat.reducePow, reduceIte, reduceCtorEq, hb6, s12t5, s12t17, s12z7, s12f0, s12f2, s12f3, s12f15, s12f16, hb15, hb23, s9, hb35, s11, sP, sQ, sN])
             all_goals (first | done | rfl | (simp only [AV.c.injEq, C.int.injEq, List.cons.injEq, and_true, true_and]; omega))
         case b35 =>
          have hp35 := hb35
          try simp only [kb] at hp35
          refine awp_skip ?_
          refine hK33 _ ?_
          have hpl := packAt_len ps i
          have sP : zputR (packAt ps i) ((ps.getD i default).t - (lastP ps i).t - stepP ps i) = (packAt ps i ++ zenc 8 (foldN ((ps.getD i default).t - (lastP ps i).t - stepP ps i)), 0) := zput_nil (by omega) _
          refine seq_reg 2 fun L46 hL46 => ?_
          simp only [qq, seval, -Nat.reducePow, reduceIte, reduceCtorEq, hb6, s12t5, s12t17, s12z7, s12f0, s12f2, s12f3, s12f15, s12f16, hb15, hb23, s9, hb35, sP]
          refine aops_call_own (coded_eq _ _ ((ps.getD i default).t - (lastP ps i).t - stepP ps i) ?s47_0 ?s47_1) rfl rfl rfl rfl (by (try simp only [qq, seval, -Nat.reducePow, reduceIte, reduceCtorEq, hb6, s12t5, s12t17, s12z7, s12f0, s12f2, s12f3, s12f15, s12f16, hb15, hb23, s9, hb35, sP]); (repeat' (first | exact .nil | exact wk_c | exact wk_ownc | exact wk_nilsc | exact wk_nils | exact wk_fn | refine .cons ?_ ?_ | refine wk_agg ?_ | refine wk_fnL ?_))) rfl rfl rfl (by simp only [qq, seval, -Nat.reducePow, reduceIte, reduceCtorEq, hb6, s12t5, s12t17, s12z7, s12f0, s12f2, s12f3, s12f15, s12f16, hb15, hb23, s9, hb35, sP]) ?m47
          case s47_0 => first | assumption | omega | decide +kernel | (simp only [List.length_take, List.length_drop]; omega)
          case s47_1 => first | (have h9 := hsec.1 (by omega); omega) | (have h9 := hsec.2.2.1 (by omega); omega) | omega
          simp only [qq, seval, -Nat.reducePow, reduceIte, reduceCtorEq, AV.setOwn, AV.setOwn1, hb6, s12t5, s12t17, s12z7, s12f0, s12f2, s12f3, s12f15, s12f16, hb15, hb23, s9, hb35, sP]
          refine aops_orunN 4 _ _ ?_
          simp only [qq, seval, -Nat.reducePow, reduceIte, reduceCtorEq, hb6, s12t5, s12t17, s12z7, s12f0, s12f2, s12f3, s12f15, s12f16, hb15, hb23, s9, hb35, sP]
          refine aops_nil (hL46 _ ?_)
          simp only [qq, seval, -Nat.reducePow, reduceIte, reduceCtorEq, hb6, s12t5, s12t17, s12z7, s12f0, s12f2, s12f3, s12f15, s12f16, hb15, hb23, s9, hb35, sP]
          as_aux_lemma =>
           have hze := zenc_len 8 (foldN ((ps.getD i default).t - (lastP ps i).t - stepP ps i))
           have hae : (packAt ps i ++ zenc 8 (foldN ((ps.getD i default).t - (lastP ps i).t - stepP ps i))).length = (packAt ps i).length + (zenc 8 (foldN ((ps.getD i default).t - (lastP ps i).t - stepP ps i))).length := List.length_append
           have sQ : zputR (packAt ps i ++ zenc 8 (foldN ((ps.getD i default).t - (lastP ps i).t - stepP ps i))) ((ps.getD i default).v - (lastP ps i).v) = (packAt ps i ++ zenc 8 (foldN ((ps.getD i default).t - (lastP ps i).t - stepP ps i)) ++ zenc 8 (foldN ((ps.getD i default).v - (lastP ps i).v)), 0) := zput_nil (by omega) _
           refine reg 2 fun L48 hL48 => ?_
           simp only [qq, seval, -Nat.reducePow, reduceIte, reduceCtorEq, hb6, s12t5, s12t17, s12z7, s12f0, s12f2, s12f3, s12f15, s12f16, hb15, hb23, s9, hb35, sP, sQ]
           refine aops_call_own (coded_eq _ _ ((ps.getD i default).v - (lastP ps i).v) ?s49_0 ?s49_1) rfl rfl rfl rfl (by (try simp only [qq, seval, -Nat.reducePow, reduceIte, reduceCtorEq, hb6, s12t5, s12t17, s12z7, s12f0, s12f2, s12f3, s12f15, s12f16, hb15, hb23, s9, hb35, sP, sQ]); (repeat' (first | exact .nil | exact wk_c | exact wk_ownc | exact wk_nilsc | exact wk_nils | exact wk_fn | refine .cons ?_ ?_ | refine wk_agg ?_ | refine wk_fnL ?_))) rfl rfl rfl (by simp only [qq, seval, -Nat.reducePow, reduceIte, reduceCtorEq, hb6, s12t5, s12t17, s12z7, s12f0, s12f2, s12f3, s12f15, s12f16, hb15, hb23, s9, hb35, sP, sQ]) ?m49
           case s49_0 => first | assumption | omega | decide +kernel | (simp only [List.length_take, List.length_drop]; omega)
           case s49_1 => first | (have h9 := hsec.1 (by omega); omega) | omega
           simp only [qq, seval, -Nat.reducePow, reduceIte, reduceCtorEq, AV.setOwn, AV.setOwn1, hb6, s12t5, s12t17, s12z7, s12f0, s12f2, s12f3, s12f15, s12f16, hb15, hb23, s9, hb35, sP, sQ]
           refine aops_orunN 4 _ _ ?_
           simp only [qq, seval, -Nat.reducePow, reduceIte, reduceCtorEq, hb6, s12t5, s12t17, s12z7, s12f0, s12f2, s12f3, s12f15, s12f16, hb15, hb23, s9, hb35, sP, sQ]
           refine aops_nil (hL48 _ ?_)
           simp only [qq, seval, -Nat.reducePow, reduceIte, reduceCtorEq, hb6, s12t5, s12t17, s12z7, s12f0, s12f2, s12f3, s12f15, s12f16, hb15, hb23, s9, hb35, sP, sQ]
           try simp only [rk_state]
           refine hK16 _ ?_
           refine reg 0 fun L50 hL50 => ?_
           simp only [qq, seval, -Nat.reducePow, reduceIte, reduceCtorEq, hb6, s12t5, s12t17, s12z7, s12f0, s12f2, s12f3, s12f15, s12f16, hb15, hb23, s9, hb35, sP, sQ]
           refine aops_val (v := ?v51) rfl ?h51 ?_
           case h51 => simp only [qq, seval, -Nat.reducePow, reduceIte, reduceCtorEq, hb6, s12t5, s12t17, s12z7, s12f0, s12f2, s12f3, s12f15, s12f16, hb15, hb23, s9, hb35, sP, sQ]; first | (rw [wr_id] <;> omega) | rfl
           simp only [qq, seval, -Nat.reducePow, reduceIte, reduceCtorEq, hb6, s12t5, s12t17, s12z7, s12f0, s12f2, s12f3, s12f15, s12f16, hb15, hb23, s9, hb35, sP, sQ]
           refine aops_orunN 1 _ _ ?_
           simp only [qq, seval, -Nat.reducePow, reduceIte, reduceCtorEq, hb6, s12t5, s12t17, s12z7, s12f0, s12f2, s12f3, s12f15, s12f16, hb15, hb23, s9, hb35, sP, sQ]
           refine nil_q hL50 ?_
           try simp only [rk_state]
           have sN := packAt_next ps i
           refine hK12 _ ((fun (i : Nat) => ps.length - i) (i + 1)) ?_ ⟨i + 1, rfl, ?_, ?_, ?_, ?_⟩
           · (try simp only []); omega
           · first | omega | simp
           · (try simp only [qq, seval, -Nat.reducePow, reduceIte, reduceCtorEq, hb6, s12t5, s12t17, s12z7, s12f0, s12f2, s12f3, s12f15, s12f16, hb15, hb23, s9, hb35, sP, sQ, sN])
             all_goals (first | done | rfl | (simp only [itemB, List.append_assoc]; done))
           · (try simp only [qq, seval, -Nat.reducePow, reduceIte, reduceCtorEq, hb6, s12t5, s12t17, s12z7, s12f0, s12f2, s12f3, s12f15, s12f16, hb15, hb23, s9, hb35, sP, sQ, sN])
             all_goals (first | done | rfl | (simp only [AV.c.injEq, C.int.injEq, List.cons.injEq, and_true, true_and]; omega))
           · (try simp only [qq, seval, -Nat.reducePow, reduceIte, reduceCtorEq, hb6, s12t5, s12t17, s12z7, s12f0, s12f2, s12f3, s12f15, s12f16, hb15, hb23, s9, hb35, sP, sQ, sN])
             all_goals (first | done | rfl | (simp only [AV.c.injEq, C.int.injEq, List.cons.injEq, and_true, true_and]; omega))
       case b23 =>
        have hp23 := hb23
        try simp only [kb] at hp23
        refine awp_skip ?_
        refine hK21 _ ?_
        refine awp_seq_k fun K52 hK52 => ?_
        refine seq_reg 2 fun L53 hL53 => ?_
        simp only [qq, seval, -Nat.reducePow, reduceIte, reduceCtorEq, hb6, s12t5, s12t17, s12z7, s12f0, s12f2, s12f3, s12f15, s12f16, hb15, hb23]
        refine nil_z hL53 ?_
        as_aux_lemma =>
         refine awp_cond (t := ?t54) ?h54 (fun hb54 => ?a54) (fun hb54 => ?b54)
         case h54 => simp only [qq, seval, -Nat.reducePow, reduceIte, reduceCtorEq, hb6, s12t5, s12t17, s12z7, s12f0, s12f2, s12f3, s12f15, s12f16, hb15, hb23]; rfl
         case a54 =>
          first | exact absurd hb54 (by decide) | (have hp54 := hb54; (try simp only [kb] at hp54); exfalso; omega)
         case b54 =>
          have hp54 := hb54
          try simp only [kb] at hp54
          refine awp_skip ?_
          refine hK52 _ ?_
          have hpl := packAt_len ps i
          have sP : zputR (packAt ps i) ((ps.getD i default).t - (lastP ps i).t - stepP ps i) = (packAt ps i ++ zenc 8 (foldN ((ps.getD i default).t - (lastP ps i).t - stepP ps i)), 0) := zput_nil (by omega) _
          refine seq_reg 2 fun L55 hL55 => ?_
          simp only [qq, seval, -Nat.reducePow, reduceIte, reduceCtorEq, hb6, s12t5, s12t17, s12z7, s12f0, s12f2, s12f3, s12f15, s12f16, hb15, hb23, hb54, sP]
          refine aops_call_own (coded_eq _ _ ((ps.getD i default).t - (lastP ps i).t - stepP ps i) ?s56_0 ?s56_1) rfl rfl rfl rfl (by (try simp only [qq, seval, -Nat.reducePow, reduceIte, reduceCtorEq, hb6, s12t5, s12t17, s12z7, s12f0, s12f2, s12f3, s12f15, s12f16, hb15, hb23, hb54, sP]); (repeat' (first | exact .nil | exact wk_c | exact wk_ownc | exact wk_nilsc | exact wk_nils | exact wk_fn | refine .cons ?_ ?_ | refine wk_agg ?_ | refine wk_fnL ?_))) rfl rfl rfl (by simp only [qq, seval, -Nat.reducePow, reduceIte, reduceCtorEq, hb6, s12t5, s12t17, s12z7, s12f0, s12f2, s12f3, s12f15, s12f16, hb15, hb23, hb54, sP]) ?m56
          case s56_0 => first | assumption | omega | decide +kernel | (simp only [List.length_take, List.length_drop]; omega)
          case s56_1 => first | (have h9 := hsec.1 (by omega); omega) | (have h9 := hsec.2.2.1 (by omega); omega) | omega
          simp only [qq, seval, -Nat.reducePow, reduceIte, reduceCtorEq, AV.setOwn, AV.setOwn1, hb6, s12t5, s12t17, s12z7, s12f0, s12f2, s12f3, s12f15, s12f16, hb15, hb23, hb54, sP]
          refine aops_orunN 4 _ _ ?_
          simp only [qq, seval, -Nat.reducePow, reduceIte, reduceCtorEq, hb6, s12t5, s12t17, s12z7, s12f0, s12f2, s12f3, s12f15, s12f16, hb15, hb23, hb54, sP]
          refine aops_nil (hL55 _ ?_)
          simp only [qq, seval, -Nat.reducePow, reduceIte, reduceCtorEq, hb6, s12t5, s12t17, s12z7, s12f0, s12f2, s12f3, s12f15, s12f16, hb15, hb23, hb54, sP]
          have hze := zenc_len 8 (foldN ((ps.getD i default).t - (lastP ps i).t - stepP ps i))
          have hae : (packAt ps i ++ zenc 8 (foldN ((ps.getD i default).t - (lastP ps i).t - stepP ps i))).length = (packAt ps i).length + (zenc 8 (foldN ((ps.getD i default).t - (lastP ps i).t - stepP ps i))).length := List.length_append
          have sQ : zputR (packAt ps i ++ zenc 8 (foldN ((ps.getD i default).t - (lastP ps i).t - stepP ps i))) ((ps.getD i default).v - (lastP ps i).v) = (packAt ps i ++ zenc 8 (foldN ((ps.getD i default).t - (lastP ps i).t - stepP ps i)) ++ zenc 8 (foldN ((ps.getD i default).v - (lastP ps i).v)), 0) := zput_nil (by omega) _
          refine reg 2 fun L57 hL57 => ?_
          simp only [qq, seval, -Nat.reducePow, reduceIte, reduceCtorEq, hb6, s12t5, s12t17, s12z7, s12f0, s12f2, s12f3, s12f15, s12f16, hb15, hb23, hb54, sP, sQ]
          refine aops_call_own (coded_eq _ _ ((ps.getD i default).v - (lastP ps i).v) ?s58_0 ?s58_1) rfl rfl rfl rfl (by (try simp only [qq, seval, -Nat.reducePow, reduceIte, reduceCtorEq, hb6, s12t5, s12t17, s12z7, s12f0, s12f2, s12f3, s12f15, s12f16, hb15, hb23, hb54, sP, sQ]); (repeat' (first | exact .nil | exact wk_c | exact wk_ownc | exact wk_nilsc | exact wk_nils | exact wk_fn | refine .cons ?_ ?_ | refine wk_agg ?_ | refine wk_fnL ?_))) rfl rfl rfl (by simp only [qq, seval, -Nat.reducePow, reduceIte, reduceCtorEq, hb6, s12t5, s12t17, s12z7, s12f0, s12f2, s12f3, s12f15, s12f16, hb15, hb23, hb54, sP, sQ]) ?m58
          case s58_0 => first | assumption | omega | decide +kernel | (simp only [List.length_take, List.length_drop]; omega)
          case s58_1 => first | (have h9 := hsec.1 (by omega); omega) | omega
          simp only [qq, seval, -Nat.reducePow, reduceIte, reduceCtorEq, AV.setOwn, AV.setOwn1, hb6, s12t5, s12t17, s12z7, s12f0, s12f2, s12f3, s12f15, s12f16, hb15, hb23, hb54, sP, sQ]
          refine aops_orunN 4 _ _ ?_
          simp only [qq, seval, -Nat.reducePow, reduceIte, reduceCtorEq, hb6, s12t5, s12t17, s12z7, s12f0, s12f2, s12f3, s12f15, s12f16, hb15, hb23, hb54, sP, sQ]
          refine aops_nil (hL57 _ ?_)
          simp only [qq, seval, -Nat.reducePow, reduceIte, reduceCtorEq, hb6, s12t5, s12t17, s12z7, s12f0, s12f2, s12f3, s12f15, s12f16, hb15, hb23, hb54, sP, sQ]
          try simp only [rk_state]
          refine hK16 _ ?_
          refine reg 0 fun L59 hL59 => ?_
          simp only [qq, seval, -Nat.reducePow, reduceIte, reduceCtorEq, hb6, s12t5, s12t17, s12z7, s12f0, s12f2, s12f3, s12f15, s12f16, hb15, hb23, hb54, sP, sQ]
          refine aops_val (v := ?v60) rfl ?h60 ?_
          case h60 => simp only [qq, seval, -Nat.reducePow, reduceIte, reduceCtorEq, hb6, s12t5, s12t17, s12z7, s12f0, s12f2, s12f3, s12f15, s12f16, hb15, hb23, hb54, sP, sQ]; first | (rw [wr_id] <;> omega) | rfl
          simp only [qq, seval, -Nat.reducePow, reduceIte, reduceCtorEq, hb6, s12t5, s12t17, s12z7, s12f0, s12f2, s12f3, s12f15, s12f16, hb15, hb23, hb54, sP, sQ]
          refine aops_orunN 1 _ _ ?_
          simp only [qq, seval, -Nat.reducePow, reduceIte, reduceCtorEq, hb6, s12t5, s12t17, s12z7, s12f0, s12f2, s12f3, s12f15, s12f16, hb15, hb23, hb54, sP, sQ]
          refine nil_q hL59 ?_
          try simp only [rk_state]
          have sN := packAt_next ps i
          refine hK12 _ ((fun (i : Nat) => ps.length - i) (i + 1)) ?_ ⟨i + 1, rfl, ?_, ?_, ?_, ?_⟩
          · (try simp only []); omega
          · first | omega | simp
          · (try simp only [qq, seval, -Nat.reducePow, reduceIte, reduceCtorEq, hb6, s12t5, s12t17, s12z7, s12f0, s12f2, s12f3, s12f15, s12f16, hb15, hb23, hb54, sP, sQ, sN])
            all_goals (first | done | rfl | (simp only [itemB, List.append_assoc]; done))
          · (try simp only [qq, seval, -Nat.reducePow, reduceIte, reduceCtorEq, hb6, s12t5, s12t17, s12z7, s12f0, s12f2, s12f3, s12f15, s12f16, hb15, hb23, hb54, sP, sQ, sN])
            all_goals (first | done | rfl | (simp only [AV.c.injEq, C.int.injEq, List.cons.injEq, and_true, true_and]; omega))
          · (try simp only [qq, seval, -Nat.reducePow, reduceIte, reduceCtorEq, hb6, s12t5, s12t17, s12z7, s12f0, s12f2, s12f3, s12f15, s12f16, hb15, hb23, hb54, sP, sQ, sN])
            all_goals (first | done | rfl | (simp only [AV.c.injEq, C.int.injEq, List.cons.injEq, and_true, true_and]; omega))
     case b15 =>
      have hp15 := hb15
      try simp only [kb] at hp15
      refine awp_exit ?_
      simp only [rk_state, reduceIte, Nat.reduceEqDiff]
      refine hK10 _ ?_
      as_aux_lemma =>
       refine seq_reg 3 fun L61 hL61 => ?_
       simp only [qq, seval, -Nat.reducePow, reduceIte, reduceCtorEq, hb6, s12t5, s12t17, s12z7, s12f0, s12f2, s12f3, s12f15, s12f16, hb15]
       refine nil_z hL61 ?_
       refine awp_ret ?_
       try simp only [rk_state]
       refine ⟨_, 64, by simp only [qq, seval, -Nat.reducePow, reduceIte, reduceCtorEq, resA, Try.results46, hb6, s12t5, s12t17, s12z7, s12f0, s12f2, s12f3, s12f15, s12f16, hb15]; rfl, ?_, nomem_a, nomem_a⟩
       simp only [packA]
       unfold packR; first | (rw [if_neg (by omega)]; (repeat' (first | exact .nil | exact wkR_c | exact wkR_own | exact wkR_nils | refine wkR_int ?_ | refine wkR_bool ?_ | refine wkR_sl ?_ | refine wkR_osl ?_ | refine wkR_nsl ?_ | refine wkR_oo ?_ | refine wkR_no ?_ | refine .cons ?_ ?_ | refine wkR_agg ?_ | refine wkR_tup ?_)) <;> rfl) | (rw [if_pos hck]; (have ei : i = ps.length := by omega); subst ei; (repeat' (first | exact .nil | exact wkR_c | exact wkR_own | exact wkR_nils | refine wkR_int ?_ | refine wkR_bool ?_ | refine wkR_sl ?_ | refine wkR_osl ?_ | refine wkR_nsl ?_ | refine wkR_oo ?_ | refine wkR_no ?_ | refine .cons ?_ ?_ | refine wkR_agg ?_ | refine wkR_tup ?_)) <;> rfl)
end Go.Proofs.Y
