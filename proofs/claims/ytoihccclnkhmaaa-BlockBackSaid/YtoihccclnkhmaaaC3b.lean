/-
  What is proved: lines: what Unpack and UnpackedOf compute. Conditions: none.
-/
import Derived.Test.YtoihccclnkhmaaaC3
set_option linter.unusedVariables false
set_option linter.unusedSimpArgs false
set_option maxRecDepth 4000
namespace Go.Proofs.Y
open Go.Rb
set_option maxHeartbeats 4000000 in
set_option maxRecDepth 50000 in
theorem unpack_fun (b : List Bool) (n : Int) (hl : b.length ≤ 140737488355200) : Fun Try.prog 45 [.c (.sl 4 (Rw boC b)), .c (.int .i64 n)] nomem (.tup [.own false 0 34 (Rw Pt.cs (unpackR b n).1), .c (.int .i64 (unpackR b n).2)]) nomem := by
 refine fun_of_awp Try.func45 rfl (by decide +kernel) (by decide +kernel) (Nat.le_of_ble_eq_true rfl) (fun _ _ => rfl) (fun _ _ => rfl) ?_
 refine seq_reg 2 fun L1 hL1 => ?_
 simp only [qq, seval, -Nat.reducePow, reduceIte, reduceCtorEq, ptE]
 refine nil_z hL1 ?_
 refine awp_seq_k fun K2 hK2 => ?_
 refine seq_reg 3 fun L3 hL3 => ?_
 simp only [qq, seval, -Nat.reducePow, reduceIte, reduceCtorEq, ptE]
 refine aops_part (b := ?p4) 18 ?h4 (fun hb4 => ?a4) (fun hb4 => ?b4)
 case h4 => simp only [qq, seval, -Nat.reducePow, reduceIte, reduceCtorEq, ptE]; rfl
 case a4 =>
  have hp4 := hb4
  try simp only [kb] at hp4
  try simp only [hb4]
  refine aops_orunN 3 _ _ ?_
  simp only [qq, seval, -Nat.reducePow, reduceIte, reduceCtorEq, ptE, hb4]
  refine nil_z hL3 ?_
  refine awp_cond (t := true) (by simp only [qq, seval, -Nat.reducePow, reduceIte, reduceCtorEq, ptE, hb4]) (fun _ => ?_) (fun h => ?_)
  case refine_2 => cases h
  refine seq_reg 2 fun L5 hL5 => ?_
  simp only [qq, seval, -Nat.reducePow, reduceIte, reduceCtorEq, ptE, hb4]
  refine nil_z hL5 ?_
  as_aux_lemma =>
   refine awp_ret ?_
   try simp only [rk_state]
   refine ⟨_, 87, by simp only [qq, seval, -Nat.reducePow, reduceIte, reduceCtorEq, resA, Try.results45, ptE, hb4]; rfl, ?_, nomem_a, nomem_a⟩
   simp only [packA]
   (unfold unpackR; rw [if_pos (by omega)]; (repeat' (first | exact .nil | exact wkR_c | exact wkR_own | exact wkR_nils | refine wkR_int ?_ | refine wkR_bool ?_ | refine wkR_sl ?_ | refine wkR_osl ?_ | refine wkR_nsl ?_ | refine wkR_oo ?_ | refine wkR_no ?_ | refine .cons ?_ ?_ | refine wkR_agg ?_ | refine wkR_tup ?_)) <;> rfl)
 case b4 =>
  have hp4 := hb4
  try simp only [kb] at hp4
  try simp only [hb4]
  refine aops_orunN 3 _ _ ?_
  simp only [qq, seval, -Nat.reducePow, reduceIte, reduceCtorEq, ptE, hb4]
  refine nil_z hL3 ?_
  refine awp_cond (t := ?t6) ?h6 (fun hb6 => ?a6) (fun hb6 => ?b6)
  case h6 => simp only [qq, seval, -Nat.reducePow, reduceIte, reduceCtorEq, ptE, hb4]; rfl
  case a6 =>
   have hp6 := hb6
   try simp only [kb] at hp6
   refine seq_reg 2 fun L7 hL7 => ?_
   simp only [qq, seval, -Nat.reducePow, reduceIte, reduceCtorEq, ptE, hb4, hb6]
   refine nil_z hL7 ?_
   refine awp_ret ?_
   try simp only [rk_state]
   refine ⟨_, 87, by simp only [qq, seval, -Nat.reducePow, reduceIte, reduceCtorEq, resA, Try.results45, ptE, hb4, hb6]; rfl, ?_, nomem_a, nomem_a⟩
   simp only [packA]
   (unfold unpackR; rw [if_pos (by omega)]; (repeat' (first | exact .nil | exact wkR_c | exact wkR_own | exact wkR_nils | refine wkR_int ?_ | refine wkR_bool ?_ | refine wkR_sl ?_ | refine wkR_osl ?_ | refine wkR_nsl ?_ | refine wkR_oo ?_ | refine wkR_no ?_ | refine .cons ?_ ?_ | refine wkR_agg ?_ | refine wkR_tup ?_)) <;> rfl)
  case b6 =>
   have hp6 := hb6
   try simp only [kb] at hp6
   refine awp_skip ?_
   refine hK2 _ ?_
   refine seq_reg0 fun L8 hL8 => ?_
   refine aops_nilown 34 87 rfl rfl ?x9 ?_
   case x9 => simp only [qq, seval, -Nat.reducePow, reduceIte, reduceCtorEq, ptE, hb4, hb6]
   simp only [qq, seval, -Nat.reducePow, reduceIte, reduceCtorEq, ptE, hb4, hb6]
   refine nil_z hL8 ?_
   refine seq_reg 1 fun L10 hL10 => ?_
   simp only [qq, seval, -Nat.reducePow, reduceIte, reduceCtorEq, ptE, hb4, hb6]
   refine nil_z hL10 ?_
   as_aux_lemma =>
    refine seq_reg 1 fun L11 hL11 => ?_
    simp only [qq, seval, -Nat.reducePow, reduceIte, reduceCtorEq, ptE, hb4, hb6]
    refine nil_z hL11 ?_
    refine awp_seq_k fun K12 hK12 => ?_
    refine seq_reg 2 fun L13 hL13 => ?_
    simp only [qq, seval, -Nat.reducePow, reduceIte, reduceCtorEq, ptE, hb4, hb6]
    refine nil_z hL13 ?_
    refine awp_block ?_
    refine awp_loopW (W := [24, 26, 27, 25, 28, 29, 30, 9, 10, 11, 31, 32, 33, 4, 5, 35, 36, 37, 38, 34, 39, 40, 41, 12, 13, 11, 42, 43, 44, 4, 5, 45, 46, 47, 48, 49, 50, 51, 52, 53, 54, 55, 14, 56, 57, 58, 59, 60, 0, 61, 62, 63, 64, 65, 66, 67, 68, 69, 70, 71, 72, 73, 74, 15, 75, 76, 77, 4, 5, 78, 79, 80, 81, 82, 83, 84, 85, 86, 87, 8, 6, 88, 23]) (M := [14]) rfl rfl (fun kk s => ∃ (i : Nat) (last : Pt) (st : Int) (acc : List Pt) (c : List Bool), kk = 41 - i ∧ (i ≤ n.toNat) ∧ (unpk (n.toNat - i) i last st acc c = unpackR b n) ∧ (PtIn last) ∧ (-100000 ≤ st ∧ st ≤ 100000) ∧ (acc.length = i) ∧ (0 < i → acc.getD (i - 1) default = last) ∧ (c.length ≤ b.length) ∧ s.t 0 = .c (.sl 4 (Rw boC c)) ∧ s.t 6 = .own false 87 34 (Rw Pt.cs acc) ∧ s.t 8 = .c (.int .i64 st) ∧ s.t 23 = .c (.int .i64 (i : Int)) ∧ s.m 7 = [.c (.int .i64 last.t), .c (.int .i64 last.v)] ∧ s.m 14 = []) ((fun (i : Nat) (last : Pt) (st : Int) (acc : List Pt) (c : List Bool) => 41 - i) (0) (⟨0, 0⟩) (0) ([]) (b)) ?i14 ?r14
    case i14 =>
     refine ⟨0, ⟨0, 0⟩, 0, [], b, rfl, ?_, ?_, ?_, ?_, ?_, ?_, ?_, ?_, ?_, ?_, ?_, ?_, ?_⟩
     · omega
     · (unfold unpackR; rw [if_neg (by omega)]; rfl)
     · (unfold PtIn; decide)
     · omega
     · rfl
     · (intro h; omega)
     · exact Nat.le_refl _
     · (try simp only [qq, seval, -Nat.reducePow, reduceIte, reduceCtorEq, ptE, hb4, hb6])
       all_goals (first | done | rfl | (simp only [AV.c.injEq, C.int.injEq, List.cons.injEq, and_true, true_and]; omega))
     · (try simp only [qq, seval, -Nat.reducePow, reduceIte, reduceCtorEq, ptE, hb4, hb6])
       all_goals (first | done | rfl | (simp only [AV.c.injEq, C.int.injEq, List.cons.injEq, and_true, true_and]; omega))
     · (try simp only [qq, seval, -Nat.reducePow, reduceIte, reduceCtorEq, ptE, hb4, hb6])
       all_goals (first | done | rfl | (simp only [AV.c.injEq, C.int.injEq, List.cons.injEq, and_true, true_and]; omega))
     · (try simp only [qq, seval, -Nat.reducePow, reduceIte, reduceCtorEq, ptE, hb4, hb6])
       all_goals (first | done | rfl | (simp only [AV.c.injEq, C.int.injEq, List.cons.injEq, and_true, true_and]; omega))
     · (try simp only [qq, seval, -Nat.reducePow, reduceIte, reduceCtorEq, ptE, hb4, hb6])
       all_goals (first | done | rfl | (simp only [AV.c.injEq, C.int.injEq, List.cons.injEq, and_true, true_and]; omega))
     · (try simp only [qq, seval, -Nat.reducePow, reduceIte, reduceCtorEq, ptE, hb4, hb6])
       all_goals (first | done | rfl | (simp only [AV.c.injEq, C.int.injEq, List.cons.injEq, and_true, true_and]; omega))
    case r14 =>
     rintro kk s hf ⟨i, last, st, acc, c, rfl, hq7_0, hq7_1, hq7_2, hq7_3, hq7_4, hq7_5, hq7_6, s14t0, s14t6, s14t8, s14t23, s14m7, s14z14⟩ K14 hK14
     have s14f7 := hf 7 rfl (by (try simp only [qq, seval, -Nat.reducePow, reduceIte, reduceCtorEq, kn, ptE, hb4, hb6]); all_goals rfl)
     simp only [qq, seval, -Nat.reducePow, reduceIte, reduceCtorEq, ptE, hb4, hb6] at s14f7
     have s14f22 := hf 22 rfl (by (try simp only [qq, seval, -Nat.reducePow, reduceIte, reduceCtorEq, kn, ptE, hb4, hb6]); all_goals rfl)
     simp only [qq, seval, -Nat.reducePow, reduceIte, reduceCtorEq, ptE, hb4, hb6] at s14f22
     clear hf
     refine seq_reg 1 fun L15 hL15 => ?_
     simp only [qq, seval, -Nat.reducePow, reduceIte, reduceCtorEq, ptE, hb4, hb6, s14t0, s14t6, s14t8, s14t23, s14m7, s14z14, s14f7, s14f22]
     refine nil_z hL15 ?_
     as_aux_lemma =>
      refine awp_seq_k fun K16 hK16 => ?_
      refine awp_cond (t := ?t17) ?h17 (fun hb17 => ?a17) (fun hb17 => ?b17)
      case h17 => simp only [qq, seval, -Nat.reducePow, reduceIte, reduceCtorEq, ptE, hb4, hb6, s14t0, s14t6, s14t8, s14t23, s14m7, s14z14, s14f7, s14f22]; rfl
      case a17 =>
       have hp17 := hb17
       try simp only [kb] at hp17
       refine awp_skip ?_
       refine hK16 _ ?_
       refine awp_seq_k fun K18 hK18 => ?_
       refine awp_block ?_
       have hpl := hq7_2
       unfold PtIn at hpl
       refine seq_reg 1 fun L19 hL19 => ?_
       simp only [qq, seval, -Nat.reducePow, reduceIte, reduceCtorEq, ptE, hb4, hb6, s14t0, s14t6, s14t8, s14t23, s14m7, s14z14, s14f7, s14f22, hb17]
       refine aops_call (zread_fun _ ?s20_0) rfl rfl rfl rfl (by (try simp only [qq, seval, -Nat.reducePow, reduceIte, reduceCtorEq, ptE, hb4, hb6, s14t0, s14t6, s14t8, s14t23, s14m7, s14z14, s14f7, s14f22, hb17]); (repeat' (first | exact .nil | exact wk_c | exact wk_ownc | exact wk_nilsc | exact wk_nils | exact wk_fn | refine .cons ?_ ?_ | refine wk_agg ?_ | refine wk_fnL ?_))) rfl rfl ?m20
       case s20_0 => first | assumption | omega | decide +kernel | (simp only [List.length_take, List.length_drop]; omega)
       simp only [qq, seval, -Nat.reducePow, reduceIte, reduceCtorEq, ptE, hb4, hb6, s14t0, s14t6, s14t8, s14t23, s14m7, s14z14, s14f7, s14f22, hb17]
       refine aops_orunN 7 _ _ ?_
       simp only [qq, seval, -Nat.reducePow, reduceIte, reduceCtorEq, ptE, hb4, hb6, s14t0, s14t6, s14t8, s14t23, s14m7, s14z14, s14f7, s14f22, hb17]
       refine nil_z hL19 ?_
       refine awp_seq_k fun K21 hK21 => ?_
       refine seq_reg 2 fun L22 hL22 => ?_
       simp only [qq, seval, -Nat.reducePow, reduceIte, reduceCtorEq, ptE, hb4, hb6, s14t0, s14t6, s14t8, s14t23, s14m7, s14z14, s14f7, s14f22, hb17]
       refine nil_z hL22 ?_
       refine awp_cond (t := ?t23) ?h23 (fun hb23 => ?a23) (fun hb23 => ?b23)
       case h23 => simp only [qq, seval, -Nat.reducePow, reduceIte, reduceCtorEq, ptE, hb4, hb6, s14t0, s14t6, s14t8, s14t23, s14m7, s14z14, s14f7, s14f22, hb17]; rfl
       case a23 =>
        have hp23 := hb23
        try simp only [kb] at hp23
        refine seq_reg 3 fun L24 hL24 => ?_
        simp only [qq, seval, -Nat.reducePow, reduceIte, reduceCtorEq, ptE, hb4, hb6, s14t0, s14t6, s14t8, s14t23, s14m7, s14z14, s14f7, s14f22, hb17, hb23]
        refine nil_z hL24 ?_
        as_aux_lemma =>
         refine awp_ret ?_
         try simp only [rk_state]
         refine ⟨_, 87, by simp only [qq, seval, -Nat.reducePow, reduceIte, reduceCtorEq, resA, Try.results45, ptE, hb4, hb6, s14t0, s14t6, s14t8, s14t23, s14m7, s14z14, s14f7, s14f22, hb17, hb23]; rfl, ?_, nomem_a, nomem_a⟩
         simp only [packA]
         (rw [← hq7_1, un_a (by omega) (by omega)]; (repeat' (first | exact .nil | exact wkR_c | exact wkR_own | exact wkR_nils | refine wkR_int ?_ | refine wkR_bool ?_ | refine wkR_sl ?_ | refine wkR_osl ?_ | refine wkR_nsl ?_ | refine wkR_oo ?_ | refine wkR_no ?_ | refine .cons ?_ ?_ | refine wkR_agg ?_ | refine wkR_tup ?_)) <;> first | rfl | omega)
       case b23 =>
        have hp23 := hb23
        try simp only [kb] at hp23
        refine awp_skip ?_
        refine hK21 _ ?_
        have hz1 := zreadR_ok (l := c) (by omega)
        have hb1 : (bits1 c).length = c.length - (zreadR c).2.1.toNat := List.length_drop
        refine seq_reg 2 fun L25 hL25 => ?_
        simp only [qq, seval, -Nat.reducePow, reduceIte, reduceCtorEq, ptE, hb4, hb6, s14t0, s14t6, s14t8, s14t23, s14m7, s14z14, s14f7, s14f22, hb17, hb23]
        refine aops_val (v := ?v26) rfl ?h26 ?_
        case h26 => simp only [qq, seval, -Nat.reducePow, reduceIte, reduceCtorEq, ptE, hb4, hb6, s14t0, s14t6, s14t8, s14t23, s14m7, s14z14, s14f7, s14f22, hb17, hb23]; first | (rw [slc_l un36 if4] <;> omega) | (rw [slc_lo un36 if4] <;> omega)
        simp only [qq, seval, -Nat.reducePow, reduceIte, reduceCtorEq, ptE, hb4, hb6, s14t0, s14t6, s14t8, s14t23, s14m7, s14z14, s14f7, s14f22, hb17, hb23]
        have sB : c.drop (zreadR c).2.1.toNat = bits1 c := rfl
        refine aops_call (zread_fun _ ?s27_0) rfl rfl rfl rfl (by (try simp only [qq, seval, -Nat.reducePow, reduceIte, reduceCtorEq, ptE, hb4, hb6, s14t0, s14t6, s14t8, s14t23, s14m7, s14z14, s14f7, s14f22, hb17, hb23, sB]); (repeat' (first | exact .nil | exact wk_c | exact wk_ownc | exact wk_nilsc | exact wk_nils | exact wk_fn | refine .cons ?_ ?_ | refine wk_agg ?_ | refine wk_fnL ?_))) rfl rfl ?m27
        case s27_0 => first | assumption | omega | decide +kernel | (simp only [List.length_take, List.length_drop]; omega)
        simp only [qq, seval, -Nat.reducePow, reduceIte, reduceCtorEq, ptE, hb4, hb6, s14t0, s14t6, s14t8, s14t23, s14m7, s14z14, s14f7, s14f22, hb17, hb23, sB]
        refine aops_orunN 7 _ _ ?_
        simp only [qq, seval, -Nat.reducePow, reduceIte, reduceCtorEq, ptE, hb4, hb6, s14t0, s14t6, s14t8, s14t23, s14m7, s14z14, s14f7, s14f22, hb17, hb23, sB]
        refine nil_z hL25 ?_
        refine awp_seq_k fun K28 hK28 => ?_
        refine seq_reg 2 fun L29 hL29 => ?_
        simp only [qq, seval, -Nat.reducePow, reduceIte, reduceCtorEq, ptE, hb4, hb6, s14t0, s14t6, s14t8, s14t23, s14m7, s14z14, s14f7, s14f22, hb17, hb23, sB]
        refine nil_z hL29 ?_
        refine awp_cond (t := ?t30) ?h30 (fun hb30 => ?a30) (fun hb30 => ?b30)
        case h30 => simp only [qq, seval, -Nat.reducePow, reduceIte, reduceCtorEq, ptE, hb4, hb6, s14t0, s14t6, s14t8, s14t23, s14m7, s14z14, s14f7, s14f22, hb17, hb23, sB]; rfl
        case a30 =>
         have hp30 := hb30
         try simp only [kb] at hp30
         refine seq_reg 3 fun L31 hL31 => ?_
         simp only [qq, seval, -Nat.reducePow, reduceIte, reduceCtorEq, ptE, hb4, hb6, s14t0, s14t6, s14t8, s14t23, s14m7, s14z14, s14f7, s14f22, hb17, hb23, sB, hb30]
         refine nil_z hL31 ?_
         as_aux_lemma =>
          refine awp_ret ?_
          try simp only [rk_state]
          refine ⟨_, 87, by simp only [qq, seval, -Nat.reducePow, reduceIte, reduceCtorEq, resA, Try.results45, ptE, hb4, hb6, s14t0, s14t6, s14t8, s14t23, s14m7, s14z14, s14f7, s14f22, hb17, hb23, sB, hb30]; rfl, ?_, nomem_a, nomem_a⟩
          simp only [packA]
          (rw [← hq7_1, un_b (by omega) (by omega) (by omega)]; (repeat' (first | exact .nil | exact wkR_c | exact wkR_own | exact wkR_nils | refine wkR_int ?_ | refine wkR_bool ?_ | refine wkR_sl ?_ | refine wkR_osl ?_ | refine wkR_nsl ?_ | refine wkR_oo ?_ | refine wkR_no ?_ | refine .cons ?_ ?_ | refine wkR_agg ?_ | refine wkR_tup ?_)) <;> first | rfl | omega)
        case b30 =>
         have hp30 := hb30
         try simp only [kb] at hp30
         refine awp_skip ?_
         refine hK28 _ ?_
         have hz2 := zreadR_ok (l := bits1 c) (by omega)
         have hi1 := zreadR_in c
         have hi2 := zreadR_in (bits1 c)
         refine seq_reg 3 fun L32 hL32 => ?_
         simp only [qq, seval, -Nat.reducePow, reduceIte, reduceCtorEq, ptE, hb4, hb6, s14t0, s14t6, s14t8, s14t23, s14m7, s14z14, s14f7, s14f22, hb17, hb23, sB, hb30]
         refine aops_val (v := ?v33) rfl ?h33 ?_
         case h33 => simp only [qq, seval, -Nat.reducePow, reduceIte, reduceCtorEq, ptE, hb4, hb6, s14t0, s14t6, s14t8, s14t23, s14m7, s14z14, s14f7, s14f22, hb17, hb23, sB, hb30]; first | (rw [wr_id] <;> omega) | rfl
         simp only [qq, seval, -Nat.reducePow, reduceIte, reduceCtorEq, ptE, hb4, hb6, s14t0, s14t6, s14t8, s14t23, s14m7, s14z14, s14f7, s14f22, hb17, hb23, sB, hb30]
         refine aops_orunN 1 _ _ ?_
         simp only [qq, seval, -Nat.reducePow, reduceIte, reduceCtorEq, ptE, hb4, hb6, s14t0, s14t6, s14t8, s14t23, s14m7, s14z14, s14f7, s14f22, hb17, hb23, sB, hb30]
         refine aops_val (v := ?v34) rfl ?h34 ?_
         case h34 => simp only [qq, seval, -Nat.reducePow, reduceIte, reduceCtorEq, ptE, hb4, hb6, s14t0, s14t6, s14t8, s14t23, s14m7, s14z14, s14f7, s14f22, hb17, hb23, sB, hb30]; first | (rw [wr_id] <;> omega) | rfl
         simp only [qq, seval, -Nat.reducePow, reduceIte, reduceCtorEq, ptE, hb4, hb6, s14t0, s14t6, s14t8, s14t23, s14m7, s14z14, s14f7, s14f22, hb17, hb23, sB, hb30]
         refine aops_orunN 3 _ _ ?_
         simp only [qq, seval, -Nat.reducePow, reduceIte, reduceCtorEq, ptE, hb4, hb6, s14t0, s14t6, s14t8, s14t23, s14m7, s14z14, s14f7, s14f22, hb17, hb23, sB, hb30]
         refine aops_val (v := ?v35) rfl ?h35 ?_
         case h35 => simp only [qq, seval, -Nat.reducePow, reduceIte, reduceCtorEq, ptE, hb4, hb6, s14t0, s14t6, s14t8, s14t23, s14m7, s14z14, s14f7, s14f22, hb17, hb23, sB, hb30]; first | (rw [wr_id] <;> omega) | rfl
         simp only [qq, seval, -Nat.reducePow, reduceIte, reduceCtorEq, ptE, hb4, hb6, s14t0, s14t6, s14t8, s14t23, s14m7, s14z14, s14f7, s14f22, hb17, hb23, sB, hb30]
         refine aops_orunN 3 _ _ ?_
         simp only [qq, seval, -Nat.reducePow, reduceIte, reduceCtorEq, ptE, hb4, hb6, s14t0, s14t6, s14t8, s14t23, s14m7, s14z14, s14f7, s14f22, hb17, hb23, sB, hb30]
         refine nil_z hL32 ?_
         have sX : last.t + st + (zreadR c).1 = (nxt last st c).t := rfl
         have sY : last.v + (zreadR (bits1 c)).1 = (nxt last st c).v := rfl
         have sC := bits2_eq (b := c) (by omega) (by omega)
         refine seq_reg 3 fun L36 hL36 => ?_
         simp only [qq, seval, -Nat.reducePow, reduceIte, reduceCtorEq, ptE, hb4, hb6, s14t0, s14t6, s14t8, s14t23, s14m7, s14z14, s14f7, s14f22, hb17, hb23, sB, hb30, sX, sY, sC]
         refine aops_val (v := ?v37) rfl ?h37 ?_
         case h37 => simp only [qq, seval, -Nat.reducePow, reduceIte, reduceCtorEq, ptE, hb4, hb6, s14t0, s14t6, s14t8, s14t23, s14m7, s14z14, s14f7, s14f22, hb17, hb23, sB, hb30, sX, sY, sC]; first | (rw [wr_id] <;> omega) | rfl
         simp only [qq, seval, -Nat.reducePow, reduceIte, reduceCtorEq, ptE, hb4, hb6, s14t0, s14t6, s14t8, s14t23, s14m7, s14z14, s14f7, s14f22, hb17, hb23, sB, hb30, sX, sY, sC]
         refine aops_val (v := ?v38) rfl ?h38 ?_
         case h38 => simp only [qq, seval, -Nat.reducePow, reduceIte, reduceCtorEq, ptE, hb4, hb6, s14t0, s14t6, s14t8, s14t23, s14m7, s14z14, s14f7, s14f22, hb17, hb23, sB, hb30, sX, sY, sC]; first | (rw [slc_l un36 if4] <;> omega) | (rw [slc_lo un36 if4] <;> omega)
         simp only [qq, seval, -Nat.reducePow, reduceIte, reduceCtorEq, ptE, hb4, hb6, s14t0, s14t6, s14t8, s14t23, s14m7, s14z14, s14f7, s14f22, hb17, hb23, sB, hb30, sX, sY, sC]
         refine aops_orunN 1 _ _ ?_
         simp only [qq, seval, -Nat.reducePow, reduceIte, reduceCtorEq, ptE, hb4, hb6, s14t0, s14t6, s14t8, s14t23, s14m7, s14z14, s14f7, s14f22, hb17, hb23, sB, hb30, sX, sY, sC]
         refine nil_z hL36 ?_
         refine awp_seq_k fun K39 hK39 => ?_
         have s20 : (0 ≤ max 0 ((acc.length : Int) - 1)) = True := eq_true (by omega)
         have s21 : (max 0 ((acc.length : Int) - 1)).toNat = acc.length - 1 := by omega
         have s22 : acc.take acc.length = acc := List.take_length
         refine seq_regd 3 (by decide +kernel) fun L40 hL40 => ?_
         simp only [qq, seval, -Nat.reducePow, reduceIte, reduceCtorEq, ptE, hb4, hb6, s14t0, s14t6, s14t8, s14t23, s14m7, s14z14, s14f7, s14f22, hb17, hb23, sB, hb30, sX, sY, sC, s20, s21, s22]
         refine aops_val (v := ?v41) rfl ?h41 ?_
         case h41 => simp only [qq, seval, -Nat.reducePow, reduceIte, reduceCtorEq, ptE, hb4, hb6, s14t0, s14t6, s14t8, s14t23, s14m7, s14z14, s14f7, s14f22, hb17, hb23, sB, hb30, sX, sY, sC, s20, s21, s22]; first | (rw [wr_id] <;> omega) | rfl
         simp only [qq, seval, -Nat.reducePow, reduceIte, reduceCtorEq, ptE, hb4, hb6, s14t0, s14t6, s14t8, s14t23, s14m7, s14z14, s14f7, s14f22, hb17, hb23, sB, hb30, sX, sY, sC, s20, s21, s22]
         refine aops_orunN 5 _ _ ?_
         simp only [qq, seval, -Nat.reducePow, reduceIte, reduceCtorEq, ptE, hb4, hb6, s14t0, s14t6, s14t8, s14t23, s14m7, s14z14, s14f7, s14f22, hb17, hb23, sB, hb30, sX, sY, sC, s20, s21, s22]
         refine aops_val (v := ?v42) rfl ?h42 ?_
         case h42 => simp only [qq, seval, -Nat.reducePow, reduceIte, reduceCtorEq, ptE, hb4, hb6, s14t0, s14t6, s14t8, s14t23, s14m7, s14z14, s14f7, s14f22, hb17, hb23, sB, hb30, sX, sY, sC, s20, s21, s22]; (rw [slc_full un22 if34 (rows := Rw Pt.cs acc) (l := acc.length - 1) rfl (by simp only [ybound, AV.int?, s20, s21, if_true]) (by omega) (by omega) (by rw [Rw_len]; omega)])
         simp only [qq, seval, -Nat.reducePow, reduceIte, reduceCtorEq, ptE, hb4, hb6, s14t0, s14t6, s14t8, s14t23, s14m7, s14z14, s14f7, s14f22, hb17, hb23, sB, hb30, sX, sY, sC, s20, s21, s22]
         refine aops_orunN 2 _ _ ?_
         simp only [qq, seval, -Nat.reducePow, reduceIte, reduceCtorEq, ptE, hb4, hb6, s14t0, s14t6, s14t8, s14t23, s14m7, s14z14, s14f7, s14f22, hb17, hb23, sB, hb30, sX, sY, sC, s20, s21, s22]
         refine aops_append (rows := ?rows43) (new := ?new43) rfl rfl rfl rfl rfl rfl un22 ?hx43 (by simp only [qq, seval, -Nat.reducePow, reduceIte, reduceCtorEq, maskO, maskN, ptE, hb4, hb6, s14t0, s14t6, s14t8, s14t23, s14m7, s14z14, s14f7, s14f22, hb17, hb23, sB, hb30, sX, sY, sC, s20, s21, s22]) (by simp only [qq, seval, -Nat.reducePow, reduceIte, reduceCtorEq, maskO, maskN, ptE, hb4, hb6, s14t0, s14t6, s14t8, s14t23, s14m7, s14z14, s14f7, s14f22, hb17, hb23, sB, hb30, sX, sY, sC, s20, s21, s22]) (by simp only [qq, seval, -Nat.reducePow, reduceIte, reduceCtorEq, ptE, hb4, hb6, s14t0, s14t6, s14t8, s14t23, s14m7, s14z14, s14f7, s14f22, hb17, hb23, sB, hb30, sX, sY, sC, s20, s21, s22]) ?hy43 (by simp only [tyf]; rfl) (by simp only [tyf]; decide) ?hsz43 ?hml43 ?hh43
         case hx43 => simp only [qq, seval, -Nat.reducePow, reduceIte, reduceCtorEq, AV.base, ptE, hb4, hb6, s14t0, s14t6, s14t8, s14t23, s14m7, s14z14, s14f7, s14f22, hb17, hb23, sB, hb30, sX, sY, sC, s20, s21, s22]; rfl
         case hy43 => simp only [qq, seval, -Nat.reducePow, reduceIte, reduceCtorEq, ptE, hb4, hb6, s14t0, s14t6, s14t8, s14t23, s14m7, s14z14, s14f7, s14f22, hb17, hb23, sB, hb30, sX, sY, sC, s20, s21, s22]; rfl
         case hsz43 => ((try simp only [tyf, rwR, List.length_append, List.length_cons, List.length_nil, List.length_take, List.length_drop]); omega)
         case hml43 => ((try simp only [maxLen, tyf, rwR, List.length_append, List.length_cons, List.length_nil, List.length_take, List.length_drop]); omega)
         simp only [qq, seval, -Nat.reducePow, reduceIte, reduceCtorEq, maskO, maskN, ptE, hb4, hb6, s14t0, s14t6, s14t8, s14t23, s14m7, s14z14, s14f7, s14f22, hb17, hb23, sB, hb30, sX, sY, sC, s20, s21, s22]
         have sE := check_two (acc := acc) (last := last) (p := (nxt last st c)) (k := i) hq7_4 hq7_2 hq7_5
         refine aops_call (check_fun _) rfl rfl rfl rfl (by (try simp only [qq, seval, -Nat.reducePow, reduceIte, reduceCtorEq, ptE, hb4, hb6, s14t0, s14t6, s14t8, s14t23, s14m7, s14z14, s14f7, s14f22, hb17, hb23, sB, hb30, sX, sY, sC, s20, s21, s22, sE]); (repeat' (first | exact .nil | exact wk_c | exact wk_ownc | exact wk_nilsc | exact wk_nils | exact wk_fn | refine .cons ?_ ?_ | refine wk_agg ?_ | refine wk_fnL ?_))) rfl rfl ?_
         simp only [qq, seval, -Nat.reducePow, reduceIte, reduceCtorEq, ptE, hb4, hb6, s14t0, s14t6, s14t8, s14t23, s14m7, s14z14, s14f7, s14f22, hb17, hb23, sB, hb30, sX, sY, sC, s20, s21, s22, sE]
         refine aops_orunN 1 _ _ ?_
         simp only [qq, seval, -Nat.reducePow, reduceIte, reduceCtorEq, ptE, hb4, hb6, s14t0, s14t6, s14t8, s14t23, s14m7, s14z14, s14f7, s14f22, hb17, hb23, sB, hb30, sX, sY, sC, s20, s21, s22, sE]
         refine aops_nil (hL40 _ ?_)
         simp only [qq, seval, -Nat.reducePow, reduceIte, reduceCtorEq, ptE, hb4, hb6, s14t0, s14t6, s14t8, s14t23, s14m7, s14z14, s14f7, s14f22, hb17, hb23, sB, hb30, sX, sY, sC, s20, s21, s22, sE]
         as_aux_lemma =>
          refine seq_reg 2 fun L45 hL45 => ?_
          simp only [qq, seval, -Nat.reducePow, reduceIte, reduceCtorEq, ptE, hb4, hb6, s14t0, s14t6, s14t8, s14t23, s14m7, s14z14, s14f7, s14f22, hb17, hb23, sB, hb30, sX, sY, sC, s20, s21, s22, sE]
          refine nil_z hL45 ?_
          refine awp_cond (t := ?t46) ?h46 (fun hb46 => ?a46) (fun hb46 => ?b46)
          case h46 => simp only [qq, seval, -Nat.reducePow, reduceIte, reduceCtorEq, ptE, hb4, hb6, s14t0, s14t6, s14t8, s14t23, s14m7, s14z14, s14f7, s14f22, hb17, hb23, sB, hb30, sX, sY, sC, s20, s21, s22, sE]; rfl
          case a46 =>
           have hp46 := hb46
           try simp only [kb] at hp46
           refine seq_reg 3 fun L47 hL47 => ?_
           simp only [qq, seval, -Nat.reducePow, reduceIte, reduceCtorEq, ptE, hb4, hb6, s14t0, s14t6, s14t8, s14t23, s14m7, s14z14, s14f7, s14f22, hb17, hb23, sB, hb30, sX, sY, sC, s20, s21, s22, sE, hb46]
           refine nil_z hL47 ?_
           refine awp_ret ?_
           try simp only [rk_state]
           refine ⟨_, 87, by simp only [qq, seval, -Nat.reducePow, reduceIte, reduceCtorEq, resA, Try.results45, ptE, hb4, hb6, s14t0, s14t6, s14t8, s14t23, s14m7, s14z14, s14f7, s14f22, hb17, hb23, sB, hb30, sX, sY, sC, s20, s21, s22, sE, hb46]; rfl, ?_, nomem_a, nomem_a⟩
           simp only [packA]
           (rw [← hq7_1, un_c (by omega) (by omega) (by omega) (by omega)]; (repeat' (first | exact .nil | exact wkR_c | exact wkR_own | exact wkR_nils | refine wkR_int ?_ | refine wkR_bool ?_ | refine wkR_sl ?_ | refine wkR_osl ?_ | refine wkR_nsl ?_ | refine wkR_oo ?_ | refine wkR_no ?_ | refine .cons ?_ ?_ | refine wkR_agg ?_ | refine wkR_tup ?_)) <;> first | rfl | omega | (dsimp only; omega))
          case b46 =>
           have hp46 := hb46
           try simp only [kb] at hp46
           refine awp_skip ?_
           refine hK39 _ ?_
           have hse := stepE_or i last (nxt last st c)
           have hpi : PtIn (nxt last st c) := by rcases hse with h | h | h; (exfalso; omega); (exfalso; omega); exact h.1
           have hpj := hpi
           unfold PtIn at hpj
           refine awp_region_drk [(7, some 7), (14, some 14), (78, some 14), (80, some 7)] [78, 80] (by decide +kernel) (by decide +kernel) (by simp only [qq, seval, -Nat.reducePow, reduceIte, reduceCtorEq, ptE, hb4, hb6, s14t0, s14t6, s14t8, s14t23, s14m7, s14z14, s14f7, s14f22, hb17, hb23, sB, hb30, sX, sY, sC, s20, s21, s22, sE, hb46, List.all_cons, List.all_nil, forget, AV.tb]) fun L48 hL48 => ?_
           refine aops_orunN 4 _ _ ?_
           simp only [qq, seval, -Nat.reducePow, reduceIte, reduceCtorEq, ptE, hb4, hb6, s14t0, s14t6, s14t8, s14t23, s14m7, s14z14, s14f7, s14f22, hb17, hb23, sB, hb30, sX, sY, sC, s20, s21, s22, sE, hb46]
           refine aops_val (v := ?v49) rfl ?h49 ?_
           case h49 => simp only [qq, seval, -Nat.reducePow, reduceIte, reduceCtorEq, ptE, hb4, hb6, s14t0, s14t6, s14t8, s14t23, s14m7, s14z14, s14f7, s14f22, hb17, hb23, sB, hb30, sX, sY, sC, s20, s21, s22, sE, hb46]; first | (rw [wr_id] <;> omega) | rfl
           simp only [qq, seval, -Nat.reducePow, reduceIte, reduceCtorEq, ptE, hb4, hb6, s14t0, s14t6, s14t8, s14t23, s14m7, s14z14, s14f7, s14f22, hb17, hb23, sB, hb30, sX, sY, sC, s20, s21, s22, sE, hb46]
           refine aops_orunN 4 _ _ ?_
           simp only [qq, seval, -Nat.reducePow, reduceIte, reduceCtorEq, ptE, hb4, hb6, s14t0, s14t6, s14t8, s14t23, s14m7, s14z14, s14f7, s14f22, hb17, hb23, sB, hb30, sX, sY, sC, s20, s21, s22, sE, hb46]
           refine aops_append (rows := ?rows50) (new := ?new50) rfl rfl rfl rfl rfl rfl un22 ?hx50 (by simp only [qq, seval, -Nat.reducePow, reduceIte, reduceCtorEq, maskO, maskN, ptE, hb4, hb6, s14t0, s14t6, s14t8, s14t23, s14m7, s14z14, s14f7, s14f22, hb17, hb23, sB, hb30, sX, sY, sC, s20, s21, s22, sE, hb46]) (by simp only [qq, seval, -Nat.reducePow, reduceIte, reduceCtorEq, maskO, maskN, ptE, hb4, hb6, s14t0, s14t6, s14t8, s14t23, s14m7, s14z14, s14f7, s14f22, hb17, hb23, sB, hb30, sX, sY, sC, s20, s21, s22, sE, hb46]) (by simp only [qq, seval, -Nat.reducePow, reduceIte, reduceCtorEq, ptE, hb4, hb6, s14t0, s14t6, s14t8, s14t23, s14m7, s14z14, s14f7, s14f22, hb17, hb23, sB, hb30, sX, sY, sC, s20, s21, s22, sE, hb46]) ?hy50 (by simp only [tyf]; rfl) (by simp only [tyf]; decide) ?hsz50 ?hml50 ?hh50
           case hx50 => simp only [qq, seval, -Nat.reducePow, reduceIte, reduceCtorEq, AV.base, ptE, hb4, hb6, s14t0, s14t6, s14t8, s14t23, s14m7, s14z14, s14f7, s14f22, hb17, hb23, sB, hb30, sX, sY, sC, s20, s21, s22, sE, hb46]; rfl
           case hy50 => simp only [qq, seval, -Nat.reducePow, reduceIte, reduceCtorEq, ptE, hb4, hb6, s14t0, s14t6, s14t8, s14t23, s14m7, s14z14, s14f7, s14f22, hb17, hb23, sB, hb30, sX, sY, sC, s20, s21, s22, sE, hb46]; rfl
           case hsz50 => ((try simp only [tyf, rwR, List.length_append, List.length_cons, List.length_nil, List.length_take, List.length_drop]); omega)
           case hml50 => ((try simp only [maxLen, tyf, rwR, List.length_append, List.length_cons, List.length_nil, List.length_take, List.length_drop]); omega)
           simp only [qq, seval, -Nat.reducePow, reduceIte, reduceCtorEq, maskO, maskN, ptE, hb4, hb6, s14t0, s14t6, s14t8, s14t23, s14m7, s14z14, s14f7, s14f22, hb17, hb23, sB, hb30, sX, sY, sC, s20, s21, s22, sE, hb46]
           refine aops_orunN 3 _ _ ?_
           simp only [qq, seval, -Nat.reducePow, reduceIte, reduceCtorEq, ptE, hb4, hb6, s14t0, s14t6, s14t8, s14t23, s14m7, s14z14, s14f7, s14f22, hb17, hb23, sB, hb30, sX, sY, sC, s20, s21, s22, sE, hb46]
           refine aops_nil (hL48 _ ?_)
           simp only [qq, seval, -Nat.reducePow, reduceIte, reduceCtorEq, ptE, hb4, hb6, s14t0, s14t6, s14t8, s14t23, s14m7, s14z14, s14f7, s14f22, hb17, hb23, sB, hb30, sX, sY, sC, s20, s21, s22, sE, hb46]
           try simp only [rk_state]
           refine hK18 _ ?_
           as_aux_lemma =>
            refine reg 0 fun L51 hL51 => ?_
            simp only [qq, seval, -Nat.reducePow, reduceIte, reduceCtorEq, ptE, hb4, hb6, s14t0, s14t6, s14t8, s14t23, s14m7, s14z14, s14f7, s14f22, hb17, hb23, sB, hb30, sX, sY, sC, s20, s21, s22, sE, hb46]
            refine aops_val (v := ?v52) rfl ?h52 ?_
            case h52 => simp only [qq, seval, -Nat.reducePow, reduceIte, reduceCtorEq, ptE, hb4, hb6, s14t0, s14t6, s14t8, s14t23, s14m7, s14z14, s14f7, s14f22, hb17, hb23, sB, hb30, sX, sY, sC, s20, s21, s22, sE, hb46]; first | (rw [wr_id] <;> omega) | rfl
            simp only [qq, seval, -Nat.reducePow, reduceIte, reduceCtorEq, ptE, hb4, hb6, s14t0, s14t6, s14t8, s14t23, s14m7, s14z14, s14f7, s14f22, hb17, hb23, sB, hb30, sX, sY, sC, s20, s21, s22, sE, hb46]
            refine aops_orunN 1 _ _ ?_
            simp only [qq, seval, -Nat.reducePow, reduceIte, reduceCtorEq, ptE, hb4, hb6, s14t0, s14t6, s14t8, s14t23, s14m7, s14z14, s14f7, s14f22, hb17, hb23, sB, hb30, sX, sY, sC, s20, s21, s22, sE, hb46]
            refine nil_q hL51 ?_
            try simp only [rk_state]
            have hnx := un_d (f := n.toNat - i) (k := i) (last := last) (step := st) (acc := acc) (b := c) (by omega) (by omega) (by omega) (by omega)
            refine hK14 _ ((fun (i : Nat) (last : Pt) (st : Int) (acc : List Pt) (c : List Bool) => 41 - i) (i + 1) ((nxt last st c)) ((nxt last st c).t - last.t) (acc ++ [(nxt last st c)]) (bits2 c)) ?_ ⟨i + 1, (nxt last st c), (nxt last st c).t - last.t, acc ++ [(nxt last st c)], bits2 c, rfl, ?_, ?_, ?_, ?_, ?_, ?_, ?_, ?_, ?_, ?_, ?_, ?_, ?_⟩
            · (try simp only []); omega
            · omega
            · (rw [show n.toNat - (i + 1) = n.toNat - i - 1 from by omega, ← hnx]; exact hq7_1)
            · exact hpi
            · omega
            · simp [hq7_4]
            · (intro _; rw [Nat.add_sub_cancel, ← hq7_4]; simp [List.getD])
            · exact Nat.le_trans (bits2_len c) hq7_6
            · (try simp only [qq, seval, -Nat.reducePow, reduceIte, reduceCtorEq, ptE, hb4, hb6, s14t0, s14t6, s14t8, s14t23, s14m7, s14z14, s14f7, s14f22, hb17, hb23, sB, hb30, sX, sY, sC, s20, s21, s22, sE, hb46])
              all_goals (first | done | rfl | (simp only [AV.c.injEq, C.int.injEq, List.cons.injEq, and_true, true_and]; omega))
            · (try simp only [qq, seval, -Nat.reducePow, reduceIte, reduceCtorEq, ptE, hb4, hb6, s14t0, s14t6, s14t8, s14t23, s14m7, s14z14, s14f7, s14f22, hb17, hb23, sB, hb30, sX, sY, sC, s20, s21, s22, sE, hb46])
              all_goals (first | done | rfl | (simp only [AV.c.injEq, C.int.injEq, List.cons.injEq, and_true, true_and]; omega))
            · (try simp only [qq, seval, -Nat.reducePow, reduceIte, reduceCtorEq, ptE, hb4, hb6, s14t0, s14t6, s14t8, s14t23, s14m7, s14z14, s14f7, s14f22, hb17, hb23, sB, hb30, sX, sY, sC, s20, s21, s22, sE, hb46])
              all_goals (first | done | rfl | (simp only [AV.c.injEq, C.int.injEq, List.cons.injEq, and_true, true_and]; omega))
            · (try simp only [qq, seval, -Nat.reducePow, reduceIte, reduceCtorEq, ptE, hb4, hb6, s14t0, s14t6, s14t8, s14t23, s14m7, s14z14, s14f7, s14f22, hb17, hb23, sB, hb30, sX, sY, sC, s20, s21, s22, sE, hb46])
              all_goals (first | done | rfl | (simp only [AV.c.injEq, C.int.injEq, List.cons.injEq, and_true, true_and]; omega))
            · (try simp only [qq, seval, -Nat.reducePow, reduceIte, reduceCtorEq, ptE, hb4, hb6, s14t0, s14t6, s14t8, s14t23, s14m7, s14z14, s14f7, s14f22, hb17, hb23, sB, hb30, sX, sY, sC, s20, s21, s22, sE, hb46])
              all_goals (first | done | rfl | (simp only [AV.c.injEq, C.int.injEq, List.cons.injEq, and_true, true_and]; omega))
            · (try simp only [qq, seval, -Nat.reducePow, reduceIte, reduceCtorEq, ptE, hb4, hb6, s14t0, s14t6, s14t8, s14t23, s14m7, s14z14, s14f7, s14f22, hb17, hb23, sB, hb30, sX, sY, sC, s20, s21, s22, sE, hb46])
              all_goals (first | done | rfl | (simp only [AV.c.injEq, C.int.injEq, List.cons.injEq, and_true, true_and]; omega))
      case b17 =>
       have hp17 := hb17
       try simp only [kb] at hp17
       refine awp_exit ?_
       simp only [rk_state, reduceIte, Nat.reduceEqDiff]
       refine hK12 _ ?_
       refine awp_seq_k fun K53 hK53 => ?_
       refine seq_reg 3 fun L54 hL54 => ?_
       simp only [qq, seval, -Nat.reducePow, reduceIte, reduceCtorEq, ptE, hb4, hb6, s14t0, s14t6, s14t8, s14t23, s14m7, s14z14, s14f7, s14f22, hb17]
       refine nil_z hL54 ?_
       refine awp_cond (t := ?t55) ?h55 (fun hb55 => ?a55) (fun hb55 => ?b55)
       case h55 => simp only [qq, seval, -Nat.reducePow, reduceIte, reduceCtorEq, ptE, hb4, hb6, s14t0, s14t6, s14t8, s14t23, s14m7, s14z14, s14f7, s14f22, hb17]; rfl
       case a55 =>
        have hp55 := hb55
        try simp only [kb] at hp55
        refine seq_reg 2 fun L56 hL56 => ?_
        simp only [qq, seval, -Nat.reducePow, reduceIte, reduceCtorEq, ptE, hb4, hb6, s14t0, s14t6, s14t8, s14t23, s14m7, s14z14, s14f7, s14f22, hb17, hb55]
        refine nil_z hL56 ?_
        as_aux_lemma =>
         refine awp_ret ?_
         try simp only [rk_state]
         refine ⟨_, 87, by simp only [qq, seval, -Nat.reducePow, reduceIte, reduceCtorEq, resA, Try.results45, ptE, hb4, hb6, s14t0, s14t6, s14t8, s14t23, s14m7, s14z14, s14f7, s14f22, hb17, hb55]; rfl, ?_, nomem_a, nomem_a⟩
         simp only [packA]
         (rw [← hq7_1, show n.toNat - i = 0 from by omega, un_e (by omega)]; (repeat' (first | exact .nil | exact wkR_c | exact wkR_own | exact wkR_nils | refine wkR_int ?_ | refine wkR_bool ?_ | refine wkR_sl ?_ | refine wkR_osl ?_ | refine wkR_nsl ?_ | refine wkR_oo ?_ | refine wkR_no ?_ | refine .cons ?_ ?_ | refine wkR_agg ?_ | refine wkR_tup ?_)) <;> first | rfl | omega)
       case b55 =>
        have hp55 := hb55
        try simp only [kb] at hp55
        refine awp_skip ?_
        refine hK53 _ ?_
        refine seq_reg 3 fun L57 hL57 => ?_
        simp only [qq, seval, -Nat.reducePow, reduceIte, reduceCtorEq, ptE, hb4, hb6, s14t0, s14t6, s14t8, s14t23, s14m7, s14z14, s14f7, s14f22, hb17, hb55]
        refine nil_z hL57 ?_
        refine awp_ret ?_
        try simp only [rk_state]
        refine ⟨_, 87, by simp only [qq, seval, -Nat.reducePow, reduceIte, reduceCtorEq, resA, Try.results45, ptE, hb4, hb6, s14t0, s14t6, s14t8, s14t23, s14m7, s14z14, s14f7, s14f22, hb17, hb55]; rfl, ?_, nomem_a, nomem_a⟩
        simp only [packA]
        (rw [← hq7_1, show n.toNat - i = 0 from by omega, un_f (by omega)]; (repeat' (first | exact .nil | exact wkR_c | exact wkR_own | exact wkR_nils | refine wkR_int ?_ | refine wkR_bool ?_ | refine wkR_sl ?_ | refine wkR_osl ?_ | refine wkR_nsl ?_ | refine wkR_oo ?_ | refine wkR_no ?_ | refine .cons ?_ ?_ | refine wkR_agg ?_ | refine wkR_tup ?_)) <;> first | rfl | omega)
set_option maxHeartbeats 4000000 in
set_option maxRecDepth 50000 in
theorem unpackedof_fun (b : List Bool) (n : Int) (hl : b.length ≤ 140737488355200) : Fun Try.prog 47 [.c (.sl 4 (Rw boC b)), .c (.int .i64 n)] nomem (.tup [.c (.sl 34 (Rw Pt.cs (unpackR b n).1)), .c (.int .i64 (unpackR b n).2)]) nomem := by
 refine fun_of_awp Try.func47 rfl (by decide +kernel) (by decide +kernel) (Nat.le_of_ble_eq_true rfl) (fun _ _ => rfl) (fun _ _ => rfl) ?_
 refine seq_reg 2 fun L1 hL1 => ?_
 simp only [qq, seval, -Nat.reducePow, reduceIte, reduceCtorEq, ptE]
 refine nil_z hL1 ?_
 refine awp_seq_k fun K2 hK2 => ?_
 refine seq_reg 1 fun L3 hL3 => ?_
 simp only [qq, seval, -Nat.reducePow, reduceIte, reduceCtorEq, ptE]
 refine aops_call (in_fun _ _ _) rfl rfl rfl rfl (by (try simp only [qq, seval, -Nat.reducePow, reduceIte, reduceCtorEq, ptE]); (repeat' (first | exact .nil | exact wk_c | exact wk_ownc | exact wk_nilsc | exact wk_nils | exact wk_fn | refine .cons ?_ ?_ | refine wk_agg ?_ | refine wk_fnL ?_))) rfl rfl ?_
 simp only [qq, seval, -Nat.reducePow, reduceIte, reduceCtorEq, ptE]
 refine aops_orunN 1 _ _ ?_
 simp only [qq, seval, -Nat.reducePow, reduceIte, reduceCtorEq, ptE]
 refine nil_z hL3 ?_
 refine awp_cond (t := ?t5) ?h5 (fun hb5 => ?a5) (fun hb5 => ?b5)
 case h5 => simp only [qq, seval, -Nat.reducePow, reduceIte, reduceCtorEq, ptE]; rfl
 case a5 =>
  have hp5 := hb5
  try simp only [kb] at hp5
  refine seq_reg 2 fun L6 hL6 => ?_
  simp only [qq, seval, -Nat.reducePow, reduceIte, reduceCtorEq, ptE, hb5]
  refine nil_z hL6 ?_
  as_aux_lemma =>
   refine awp_ret ?_
   try simp only [rk_state]
   refine ⟨_, 0, by simp only [qq, seval, -Nat.reducePow, reduceIte, reduceCtorEq, resA, Try.results47, ptE, hb5]; rfl, ?_, nomem_a, nomem_a⟩
   simp only [packA]
   (unfold unpackR; rw [if_pos (by omega)]; (repeat' (first | exact .nil | exact wkR_c | exact wkR_own | exact wkR_nils | refine wkR_int ?_ | refine wkR_bool ?_ | refine wkR_sl ?_ | refine wkR_osl ?_ | refine wkR_nsl ?_ | refine wkR_oo ?_ | refine wkR_no ?_ | refine .cons ?_ ?_ | refine wkR_agg ?_ | refine wkR_tup ?_)) <;> rfl)
 case b5 =>
  have hp5 := hb5
  try simp only [kb] at hp5
  refine awp_skip ?_
  refine hK2 _ ?_
  refine seq_reg 4 fun L7 hL7 => ?_
  simp only [qq, seval, -Nat.reducePow, reduceIte, reduceCtorEq, ptE, hb5]
  refine nil_z hL7 ?_
  refine awp_seq_k fun K8 hK8 => ?_
  refine seq_reg 2 fun L9 hL9 => ?_
  simp only [qq, seval, -Nat.reducePow, reduceIte, reduceCtorEq, ptE, hb5]
  refine nil_z hL9 ?_
  refine awp_block ?_
  refine awp_loopW (W := [24, 25, 7, 27, 28, 26, 29, 30, 31, 8, 9, 10, 32, 33, 34, 4, 5, 36, 37, 35, 38, 39, 40, 11, 9, 10, 41, 42, 43, 4, 5, 44, 45, 46, 47, 48, 49, 50, 51, 52, 12, 13, 53, 54, 55, 56, 57, 58, 59, 60, 61, 62, 63, 64, 65, 14, 66, 67, 15, 68, 69, 70, 4, 5, 71, 72, 73, 74, 75, 76, 77, 78, 79, 4, 5, 80, 81, 82, 83, 84, 6, 0, 85, 23]) (M := [12, 13, 14]) rfl rfl (fun kk s => ∃ (i : Nat) (last : Pt) (st : Int) (acc O : List Pt) (c : List Bool) (d : Nat), kk = 41 - i ∧ (i ≤ n.toNat) ∧ (unpk (n.toNat - i) i last st acc c = unpackR b n) ∧ (PtIn last) ∧ (-100000 ≤ st ∧ st ≤ 100000) ∧ (O.getD (i + 1) default = last) ∧ ((O.getD i default).t = last.t - st) ∧ (O.drop 2 = acc) ∧ (O.length = i + 2) ∧ (c.length ≤ b.length) ∧ s.t 0 = .c (.sl 4 (Rw boC c)) ∧ s.t 6 = .own false d 34 (Rw Pt.cs O) ∧ s.t 23 = .c (.int .i64 (i : Int)) ∧ s.m 12 = [] ∧ s.m 13 = [] ∧ s.m 14 = []) ((fun (i : Nat) (last : Pt) (st : Int) (acc O : List Pt) (c : List Bool) (d : Nat) => 41 - i) (0) (⟨0, 0⟩) (0) ([]) ([⟨0, 0⟩, ⟨0, 0⟩]) (b) (0)) ?i10 ?r10
  case i10 =>
   refine ⟨0, ⟨0, 0⟩, 0, [], [⟨0, 0⟩, ⟨0, 0⟩], b, 0, rfl, ?_, ?_, ?_, ?_, ?_, ?_, ?_, ?_, ?_, ?_, ?_, ?_, ?_, ?_, ?_⟩
   · omega
   · (unfold unpackR; rw [if_neg (by omega)]; rfl)
   · (unfold PtIn; decide)
   · omega
   · rfl
   · rfl
   · rfl
   · rfl
   · exact Nat.le_refl _
   · (try simp only [qq, seval, -Nat.reducePow, reduceIte, reduceCtorEq, ptE, hb5])
     all_goals (first | done | rfl | (simp only [AV.c.injEq, C.int.injEq, List.cons.injEq, and_true, true_and]; omega))
   · (try simp only [qq, seval, -Nat.reducePow, reduceIte, reduceCtorEq, ptE, hb5])
     all_goals (first | done | rfl | (simp only [AV.c.injEq, C.int.injEq, List.cons.injEq, and_true, true_and]; omega))
   · (try simp only [qq, seval, -Nat.reducePow, reduceIte, reduceCtorEq, ptE, hb5])
     all_goals (first | done | rfl | (simp only [AV.c.injEq, C.int.injEq, List.cons.injEq, and_true, true_and]; omega))
   · (try simp only [qq, seval, -Nat.reducePow, reduceIte, reduceCtorEq, ptE, hb5])
     all_goals (first | done | rfl | (simp only [AV.c.injEq, C.int.injEq, List.cons.injEq, and_true, true_and]; omega))
   · (try simp only [qq, seval, -Nat.reducePow, reduceIte, reduceCtorEq, ptE, hb5])
     all_goals (first | done | rfl | (simp only [AV.c.injEq, C.int.injEq, List.cons.injEq, and_true, true_and]; omega))
   · (try simp only [qq, seval, -Nat.reducePow, reduceIte, reduceCtorEq, ptE, hb5])
     all_goals (first | done | rfl | (simp only [AV.c.injEq, C.int.injEq, List.cons.injEq, and_true, true_and]; omega))
  case r10 =>
   rintro kk s hf ⟨i, last, st, acc, O, c, d, rfl, hq5_0, hq5_1, hq5_2, hq5_3, hq5_4, hq5_5, hq5_6, hq5_7, hq5_8, s10t0, s10t6, s10t23, s10z12, s10z13, s10z14⟩ K10 hK10
   have s10f22 := hf 22 rfl (by (try simp only [qq, seval, -Nat.reducePow, reduceIte, reduceCtorEq, kn, ptE, hb5]); all_goals rfl)
   simp only [qq, seval, -Nat.reducePow, reduceIte, reduceCtorEq, ptE, hb5] at s10f22
   clear hf
   refine seq_reg 1 fun L11 hL11 => ?_
   simp only [qq, seval, -Nat.reducePow, reduceIte, reduceCtorEq, ptE, hb5, s10t0, s10t6, s10t23, s10z12, s10z13, s10z14, s10f22]
   refine nil_z hL11 ?_
   as_aux_lemma =>
    refine awp_seq_k fun K12 hK12 => ?_
    refine awp_cond (t := ?t13) ?h13 (fun hb13 => ?a13) (fun hb13 => ?b13)
    case h13 => simp only [qq, seval, -Nat.reducePow, reduceIte, reduceCtorEq, ptE, hb5, s10t0, s10t6, s10t23, s10z12, s10z13, s10z14, s10f22]; rfl
    case a13 =>
     have hp13 := hb13
     try simp only [kb] at hp13
     refine awp_skip ?_
     refine hK12 _ ?_
     refine awp_seq_k fun K14 hK14 => ?_
     refine awp_block ?_
     refine seq_reg 2 fun L15 hL15 => ?_
     simp only [qq, seval, -Nat.reducePow, reduceIte, reduceCtorEq, ptE, hb5, s10t0, s10t6, s10t23, s10z12, s10z13, s10z14, s10f22, hb13]
     refine nil_z hL15 ?_
     have hpl := hq5_2
     unfold PtIn at hpl
     have sZ1 : (ztakeR c).1 = (zreadR c).1 := rfl
     have sZ3 : (ztakeR c).2.2 = (zreadR c).2.2 := rfl
     have hkl := bits1_len c
     refine seq_reg 1 fun L16 hL16 => ?_
     simp only [qq, seval, -Nat.reducePow, reduceIte, reduceCtorEq, ptE, hb5, s10t0, s10t6, s10t23, s10z12, s10z13, s10z14, s10f22, hb13, sZ1, sZ3]
     refine aops_call (decoded_fun _ ?s17_0) rfl rfl rfl rfl (by (try simp only [qq, seval, -Nat.reducePow, reduceIte, reduceCtorEq, ptE, hb5, s10t0, s10t6, s10t23, s10z12, s10z13, s10z14, s10f22, hb13, sZ1, sZ3]); (repeat' (first | exact .nil | exact wk_c | exact wk_ownc | exact wk_nilsc | exact wk_nils | exact wk_fn | refine .cons ?_ ?_ | refine wk_agg ?_ | refine wk_fnL ?_))) rfl rfl ?m17
     case s17_0 => first | assumption | omega | decide +kernel | (simp only [List.length_take, List.length_drop]; omega)
     simp only [qq, seval, -Nat.reducePow, reduceIte, reduceCtorEq, ptE, hb5, s10t0, s10t6, s10t23, s10z12, s10z13, s10z14, s10f22, hb13, sZ1, sZ3]
     refine aops_orunN 7 _ _ ?_
     simp only [qq, seval, -Nat.reducePow, reduceIte, reduceCtorEq, ptE, hb5, s10t0, s10t6, s10t23, s10z12, s10z13, s10z14, s10f22, hb13, sZ1, sZ3]
     refine nil_z hL16 ?_
     refine awp_seq_k fun K18 hK18 => ?_
     refine seq_reg 2 fun L19 hL19 => ?_
     simp only [qq, seval, -Nat.reducePow, reduceIte, reduceCtorEq, ptE, hb5, s10t0, s10t6, s10t23, s10z12, s10z13, s10z14, s10f22, hb13, sZ1, sZ3]
     refine nil_z hL19 ?_
     as_aux_lemma =>
      refine awp_cond (t := ?t20) ?h20 (fun hb20 => ?a20) (fun hb20 => ?b20)
      case h20 => simp only [qq, seval, -Nat.reducePow, reduceIte, reduceCtorEq, ptE, hb5, s10t0, s10t6, s10t23, s10z12, s10z13, s10z14, s10f22, hb13, sZ1, sZ3]; rfl
      case a20 =>
       have hp20 := hb20
       try simp only [kb] at hp20
       refine seq_reg 3 fun L21 hL21 => ?_
       simp only [qq, seval, -Nat.reducePow, reduceIte, reduceCtorEq, ptE, hb5, s10t0, s10t6, s10t23, s10z12, s10z13, s10z14, s10f22, hb13, sZ1, sZ3, hb20]
       refine nil_z hL21 ?_
       refine awp_ret ?_
       try simp only [rk_state]
       refine ⟨_, 0, by simp only [qq, seval, -Nat.reducePow, reduceIte, reduceCtorEq, resA, Try.results47, ptE, hb5, s10t0, s10t6, s10t23, s10z12, s10z13, s10z14, s10f22, hb13, sZ1, sZ3, hb20]; rfl, ?_, nomem_a, nomem_a⟩
       simp only [packA]
       (rw [← hq5_1, un_a (by omega) (by omega)]; (repeat' (first | exact .nil | exact wkR_c | exact wkR_own | exact wkR_nils | refine wkR_int ?_ | refine wkR_bool ?_ | refine wkR_sl ?_ | refine wkR_osl ?_ | refine wkR_nsl ?_ | refine wkR_oo ?_ | refine wkR_no ?_ | refine .cons ?_ ?_ | refine wkR_agg ?_ | refine wkR_tup ?_)) <;> first | rfl | omega)
      case b20 =>
       have hp20 := hb20
       try simp only [kb] at hp20
       refine awp_skip ?_
       refine hK18 _ ?_
       have sR1 : (ztakeR c).2.1 = bits1 c := ztakeR_rest (by omega)
       have sW1 : (ztakeR (bits1 c)).1 = (zreadR (bits1 c)).1 := rfl
       have sW3 : (ztakeR (bits1 c)).2.2 = (zreadR (bits1 c)).2.2 := rfl
       refine seq_reg 1 fun L22 hL22 => ?_
       simp only [qq, seval, -Nat.reducePow, reduceIte, reduceCtorEq, ptE, hb5, s10t0, s10t6, s10t23, s10z12, s10z13, s10z14, s10f22, hb13, sZ1, sZ3, hb20, sR1, sW1, sW3]
       refine aops_call (decoded_fun _ ?s23_0) rfl rfl rfl rfl (by (try simp only [qq, seval, -Nat.reducePow, reduceIte, reduceCtorEq, ptE, hb5, s10t0, s10t6, s10t23, s10z12, s10z13, s10z14, s10f22, hb13, sZ1, sZ3, hb20, sR1, sW1, sW3]); (repeat' (first | exact .nil | exact wk_c | exact wk_ownc | exact wk_nilsc | exact wk_nils | exact wk_fn | refine .cons ?_ ?_ | refine wk_agg ?_ | refine wk_fnL ?_))) rfl rfl ?m23
       case s23_0 => first | assumption | omega | decide +kernel | (simp only [List.length_take, List.length_drop]; omega)
       simp only [qq, seval, -Nat.reducePow, reduceIte, reduceCtorEq, ptE, hb5, s10t0, s10t6, s10t23, s10z12, s10z13, s10z14, s10f22, hb13, sZ1, sZ3, hb20, sR1, sW1, sW3]
       refine aops_orunN 7 _ _ ?_
       simp only [qq, seval, -Nat.reducePow, reduceIte, reduceCtorEq, ptE, hb5, s10t0, s10t6, s10t23, s10z12, s10z13, s10z14, s10f22, hb13, sZ1, sZ3, hb20, sR1, sW1, sW3]
       refine nil_z hL22 ?_
       refine awp_seq_k fun K24 hK24 => ?_
       refine seq_reg 2 fun L25 hL25 => ?_
       simp only [qq, seval, -Nat.reducePow, reduceIte, reduceCtorEq, ptE, hb5, s10t0, s10t6, s10t23, s10z12, s10z13, s10z14, s10f22, hb13, sZ1, sZ3, hb20, sR1, sW1, sW3]
       refine nil_z hL25 ?_
       as_aux_lemma =>
        refine awp_cond (t := ?t26) ?h26 (fun hb26 => ?a26) (fun hb26 => ?b26)
        case h26 => simp only [qq, seval, -Nat.reducePow, reduceIte, reduceCtorEq, ptE, hb5, s10t0, s10t6, s10t23, s10z12, s10z13, s10z14, s10f22, hb13, sZ1, sZ3, hb20, sR1, sW1, sW3]; rfl
        case a26 =>
         have hp26 := hb26
         try simp only [kb] at hp26
         refine seq_reg 3 fun L27 hL27 => ?_
         simp only [qq, seval, -Nat.reducePow, reduceIte, reduceCtorEq, ptE, hb5, s10t0, s10t6, s10t23, s10z12, s10z13, s10z14, s10f22, hb13, sZ1, sZ3, hb20, sR1, sW1, sW3, hb26]
         refine nil_z hL27 ?_
         refine awp_ret ?_
         try simp only [rk_state]
         refine ⟨_, 0, by simp only [qq, seval, -Nat.reducePow, reduceIte, reduceCtorEq, resA, Try.results47, ptE, hb5, s10t0, s10t6, s10t23, s10z12, s10z13, s10z14, s10f22, hb13, sZ1, sZ3, hb20, sR1, sW1, sW3, hb26]; rfl, ?_, nomem_a, nomem_a⟩
         simp only [packA]
         (rw [← hq5_1, un_b (by omega) (by omega) (by omega)]; (repeat' (first | exact .nil | exact wkR_c | exact wkR_own | exact wkR_nils | refine wkR_int ?_ | refine wkR_bool ?_ | refine wkR_sl ?_ | refine wkR_osl ?_ | refine wkR_nsl ?_ | refine wkR_oo ?_ | refine wkR_no ?_ | refine .cons ?_ ?_ | refine wkR_agg ?_ | refine wkR_tup ?_)) <;> first | rfl | omega)
        case b26 =>
         have hp26 := hb26
         try simp only [kb] at hp26
         refine awp_skip ?_
         refine hK24 _ ?_
         refine awp_seq_k fun K28 hK28 => ?_
         have s9 : ((i : Int) + 1).toNat = i + 1 := by omega
         have sy := hq5_4
         have sx := hq5_5
         have hOl := hq5_7
         refine awp_region_drk [(6, none), (12, some 12), (13, some 13), (44, none), (46, none), (48, none), (51, none)] [44, 46, 48, 51, 12, 13] (by decide +kernel) (by decide +kernel) (by simp only [qq, seval, -Nat.reducePow, reduceIte, reduceCtorEq, ptE, hb5, s10t0, s10t6, s10t23, s10z12, s10z13, s10z14, s10f22, hb13, sZ1, sZ3, hb20, sR1, sW1, sW3, hb26, s9, sy, sx, List.all_cons, List.all_nil, forget, AV.tb]) fun L29 hL29 => ?_
         refine aops_orunN 2 _ _ ?_
         simp only [qq, seval, -Nat.reducePow, reduceIte, reduceCtorEq, ptE, hb5, s10t0, s10t6, s10t23, s10z12, s10z13, s10z14, s10f22, hb13, sZ1, sZ3, hb20, sR1, sW1, sW3, hb26, s9, sy, sx]
         refine aops_val (v := ?v30) rfl ?h30 ?_
         case h30 => simp only [qq, seval, -Nat.reducePow, reduceIte, reduceCtorEq, ptE, hb5, s10t0, s10t6, s10t23, s10z12, s10z13, s10z14, s10f22, hb13, sZ1, sZ3, hb20, sR1, sW1, sW3, hb26, s9, sy, sx]; first | (rw [idx_c un22 if34] <;> omega) | (rw [idx_o un22 if34] <;> omega) | (rw [idx_a un22 if34] <;> omega)
         simp only [qq, seval, -Nat.reducePow, reduceIte, reduceCtorEq, ptE, hb5, s10t0, s10t6, s10t23, s10z12, s10z13, s10z14, s10f22, hb13, sZ1, sZ3, hb20, sR1, sW1, sW3, hb26, s9, sy, sx]
         refine aops_orunN 3 _ _ ?_
         simp only [qq, seval, -Nat.reducePow, reduceIte, reduceCtorEq, ptE, hb5, s10t0, s10t6, s10t23, s10z12, s10z13, s10z14, s10f22, hb13, sZ1, sZ3, hb20, sR1, sW1, sW3, hb26, s9, sy, sx]
         refine aops_val (v := ?v31) rfl ?h31 ?_
         case h31 => simp only [qq, seval, -Nat.reducePow, reduceIte, reduceCtorEq, ptE, hb5, s10t0, s10t6, s10t23, s10z12, s10z13, s10z14, s10f22, hb13, sZ1, sZ3, hb20, sR1, sW1, sW3, hb26, s9, sy, sx]; first | (rw [wr_id] <;> omega) | rfl
         simp only [qq, seval, -Nat.reducePow, reduceIte, reduceCtorEq, ptE, hb5, s10t0, s10t6, s10t23, s10z12, s10z13, s10z14, s10f22, hb13, sZ1, sZ3, hb20, sR1, sW1, sW3, hb26, s9, sy, sx]
         refine aops_val (v := ?v32) rfl ?h32 ?_
         case h32 => simp only [qq, seval, -Nat.reducePow, reduceIte, reduceCtorEq, ptE, hb5, s10t0, s10t6, s10t23, s10z12, s10z13, s10z14, s10f22, hb13, sZ1, sZ3, hb20, sR1, sW1, sW3, hb26, s9, sy, sx]; first | (rw [idx_c un22 if34] <;> omega) | (rw [idx_o un22 if34] <;> omega) | (rw [idx_a un22 if34] <;> omega)
         simp only [qq, seval, -Nat.reducePow, reduceIte, reduceCtorEq, ptE, hb5, s10t0, s10t6, s10t23, s10z12, s10z13, s10z14, s10f22, hb13, sZ1, sZ3, hb20, sR1, sW1, sW3, hb26, s9, sy, sx]
         refine aops_orunN 5 _ _ ?_
         simp only [qq, seval, -Nat.reducePow, reduceIte, reduceCtorEq, ptE, hb5, s10t0, s10t6, s10t23, s10z12, s10z13, s10z14, s10f22, hb13, sZ1, sZ3, hb20, sR1, sW1, sW3, hb26, s9, sy, sx]
         refine aops_nil (hL29 _ ?_)
         simp only [qq, seval, -Nat.reducePow, reduceIte, reduceCtorEq, ptE, hb5, s10t0, s10t6, s10t23, s10z12, s10z13, s10z14, s10f22, hb13, sZ1, sZ3, hb20, sR1, sW1, sW3, hb26, s9, sy, sx]
         refine hK28 _ ?_
         have hi1 := zreadR_in c
         have hi2 := zreadR_in (bits1 c)
         refine seq_reg 2 fun L33 hL33 => ?_
         simp only [qq, seval, -Nat.reducePow, reduceIte, reduceCtorEq, ptE, hb5, s10t0, s10t6, s10t23, s10z12, s10z13, s10z14, s10f22, hb13, sZ1, sZ3, hb20, sR1, sW1, sW3, hb26, s9, sy, sx]
         refine aops_val (v := ?v34) rfl ?h34 ?_
         case h34 => simp only [qq, seval, -Nat.reducePow, reduceIte, reduceCtorEq, ptE, hb5, s10t0, s10t6, s10t23, s10z12, s10z13, s10z14, s10f22, hb13, sZ1, sZ3, hb20, sR1, sW1, sW3, hb26, s9, sy, sx]; first | (rw [wr_id] <;> omega) | rfl
         simp only [qq, seval, -Nat.reducePow, reduceIte, reduceCtorEq, ptE, hb5, s10t0, s10t6, s10t23, s10z12, s10z13, s10z14, s10f22, hb13, sZ1, sZ3, hb20, sR1, sW1, sW3, hb26, s9, sy, sx]
         refine aops_orunN 2 _ _ ?_
         simp only [qq, seval, -Nat.reducePow, reduceIte, reduceCtorEq, ptE, hb5, s10t0, s10t6, s10t23, s10z12, s10z13, s10z14, s10f22, hb13, sZ1, sZ3, hb20, sR1, sW1, sW3, hb26, s9, sy, sx]
         refine aops_val (v := ?v35) rfl ?h35 ?_
         case h35 => simp only [qq, seval, -Nat.reducePow, reduceIte, reduceCtorEq, ptE, hb5, s10t0, s10t6, s10t23, s10z12, s10z13, s10z14, s10f22, hb13, sZ1, sZ3, hb20, sR1, sW1, sW3, hb26, s9, sy, sx]; first | (rw [wr_id] <;> omega) | rfl
         simp only [qq, seval, -Nat.reducePow, reduceIte, reduceCtorEq, ptE, hb5, s10t0, s10t6, s10t23, s10z12, s10z13, s10z14, s10f22, hb13, sZ1, sZ3, hb20, sR1, sW1, sW3, hb26, s9, sy, sx]
         refine aops_orunN 1 _ _ ?_
         simp only [qq, seval, -Nat.reducePow, reduceIte, reduceCtorEq, ptE, hb5, s10t0, s10t6, s10t23, s10z12, s10z13, s10z14, s10f22, hb13, sZ1, sZ3, hb20, sR1, sW1, sW3, hb26, s9, sy, sx]
         refine aops_val (v := ?v36) rfl ?h36 ?_
         case h36 => simp only [qq, seval, -Nat.reducePow, reduceIte, reduceCtorEq, ptE, hb5, s10t0, s10t6, s10t23, s10z12, s10z13, s10z14, s10f22, hb13, sZ1, sZ3, hb20, sR1, sW1, sW3, hb26, s9, sy, sx]; first | (rw [wr_id] <;> omega) | rfl
         simp only [qq, seval, -Nat.reducePow, reduceIte, reduceCtorEq, ptE, hb5, s10t0, s10t6, s10t23, s10z12, s10z13, s10z14, s10f22, hb13, sZ1, sZ3, hb20, sR1, sW1, sW3, hb26, s9, sy, sx]
         refine aops_orunN 3 _ _ ?_
         simp only [qq, seval, -Nat.reducePow, reduceIte, reduceCtorEq, ptE, hb5, s10t0, s10t6, s10t23, s10z12, s10z13, s10z14, s10f22, hb13, sZ1, sZ3, hb20, sR1, sW1, sW3, hb26, s9, sy, sx]
         refine aops_val (v := ?v37) rfl ?h37 ?_
         case h37 => simp only [qq, seval, -Nat.reducePow, reduceIte, reduceCtorEq, ptE, hb5, s10t0, s10t6, s10t23, s10z12, s10z13, s10z14, s10f22, hb13, sZ1, sZ3, hb20, sR1, sW1, sW3, hb26, s9, sy, sx]; first | (rw [wr_id] <;> omega) | rfl
         simp only [qq, seval, -Nat.reducePow, reduceIte, reduceCtorEq, ptE, hb5, s10t0, s10t6, s10t23, s10z12, s10z13, s10z14, s10f22, hb13, sZ1, sZ3, hb20, sR1, sW1, sW3, hb26, s9, sy, sx]
         refine aops_orunN 3 _ _ ?_
         simp only [qq, seval, -Nat.reducePow, reduceIte, reduceCtorEq, ptE, hb5, s10t0, s10t6, s10t23, s10z12, s10z13, s10z14, s10f22, hb13, sZ1, sZ3, hb20, sR1, sW1, sW3, hb26, s9, sy, sx]
         refine nil_z hL33 ?_
         as_aux_lemma =>
          refine awp_seq_k fun K38 hK38 => ?_
          have sX : 2 * last.t - (last.t - st) + (zreadR c).1 = (nxt last st c).t := by show _ = last.t + st + (zreadR c).1; omega
          have sY : last.v + (zreadR (bits1 c)).1 = (nxt last st c).v := rfl
          refine seq_reg 1 fun L39 hL39 => ?_
          simp only [qq, seval, -Nat.reducePow, reduceIte, reduceCtorEq, ptE, hb5, s10t0, s10t6, s10t23, s10z12, s10z13, s10z14, s10f22, hb13, sZ1, sZ3, hb20, sR1, sW1, sW3, hb26, s9, sy, sx, sX, sY]
          refine aops_call (chkp_fun _ _) rfl rfl rfl rfl (by (try simp only [qq, seval, -Nat.reducePow, reduceIte, reduceCtorEq, ptE, hb5, s10t0, s10t6, s10t23, s10z12, s10z13, s10z14, s10f22, hb13, sZ1, sZ3, hb20, sR1, sW1, sW3, hb26, s9, sy, sx, sX, sY]); (repeat' (first | exact .nil | exact wk_c | exact wk_ownc | exact wk_nilsc | exact wk_nils | exact wk_fn | refine .cons ?_ ?_ | refine wk_agg ?_ | refine wk_fnL ?_))) rfl rfl ?_
          simp only [qq, seval, -Nat.reducePow, reduceIte, reduceCtorEq, ptE, hb5, s10t0, s10t6, s10t23, s10z12, s10z13, s10z14, s10f22, hb13, sZ1, sZ3, hb20, sR1, sW1, sW3, hb26, s9, sy, sx, sX, sY]
          refine aops_orunN 1 _ _ ?_
          simp only [qq, seval, -Nat.reducePow, reduceIte, reduceCtorEq, ptE, hb5, s10t0, s10t6, s10t23, s10z12, s10z13, s10z14, s10f22, hb13, sZ1, sZ3, hb20, sR1, sW1, sW3, hb26, s9, sy, sx, sX, sY]
          refine nil_z hL39 ?_
          have hcp := chkP_or (nxt last st c)
          have hse := stepE_or i last (nxt last st c)
          unfold badP PtIn at hcp hse
          refine seq_reg 2 fun L41 hL41 => ?_
          simp only [qq, seval, -Nat.reducePow, reduceIte, reduceCtorEq, ptE, hb5, s10t0, s10t6, s10t23, s10z12, s10z13, s10z14, s10f22, hb13, sZ1, sZ3, hb20, sR1, sW1, sW3, hb26, s9, sy, sx, sX, sY]
          refine nil_z hL41 ?_
          refine awp_cond (t := ?t42) ?h42 (fun hb42 => ?a42) (fun hb42 => ?b42)
          case h42 => simp only [qq, seval, -Nat.reducePow, reduceIte, reduceCtorEq, ptE, hb5, s10t0, s10t6, s10t23, s10z12, s10z13, s10z14, s10f22, hb13, sZ1, sZ3, hb20, sR1, sW1, sW3, hb26, s9, sy, sx, sX, sY]; rfl
          case a42 =>
           have hp42 := hb42
           try simp only [kb] at hp42
           refine seq_reg 3 fun L43 hL43 => ?_
           simp only [qq, seval, -Nat.reducePow, reduceIte, reduceCtorEq, ptE, hb5, s10t0, s10t6, s10t23, s10z12, s10z13, s10z14, s10f22, hb13, sZ1, sZ3, hb20, sR1, sW1, sW3, hb26, s9, sy, sx, sX, sY, hb42]
           refine nil_z hL43 ?_
           as_aux_lemma =>
            refine awp_ret ?_
            try simp only [rk_state]
            refine ⟨_, 0, by simp only [qq, seval, -Nat.reducePow, reduceIte, reduceCtorEq, resA, Try.results47, ptE, hb5, s10t0, s10t6, s10t23, s10z12, s10z13, s10z14, s10f22, hb13, sZ1, sZ3, hb20, sR1, sW1, sW3, hb26, s9, sy, sx, sX, sY, hb42]; rfl, ?_, nomem_a, nomem_a⟩
            simp only [packA]
            (rw [← hq5_1, un_c (by omega) (by omega) (by omega) (by omega)]; (repeat' (first | exact .nil | exact wkR_c | exact wkR_own | exact wkR_nils | refine wkR_int ?_ | refine wkR_bool ?_ | refine wkR_sl ?_ | refine wkR_osl ?_ | refine wkR_nsl ?_ | refine wkR_oo ?_ | refine wkR_no ?_ | refine .cons ?_ ?_ | refine wkR_agg ?_ | refine wkR_tup ?_)) <;> first | rfl | omega | (dsimp only; omega))
          case b42 =>
           have hp42 := hb42
           try simp only [kb] at hp42
           refine awp_skip ?_
           refine hK38 _ ?_
           refine awp_seq_k fun K44 hK44 => ?_
           refine seq_reg 3 fun L45 hL45 => ?_
           simp only [qq, seval, -Nat.reducePow, reduceIte, reduceCtorEq, ptE, hb5, s10t0, s10t6, s10t23, s10z12, s10z13, s10z14, s10f22, hb13, sZ1, sZ3, hb20, sR1, sW1, sW3, hb26, s9, sy, sx, sX, sY, hb42]
           refine aops_part (b := ?p46) 73 ?h46 (fun hb46 => ?a46) (fun hb46 => ?b46)
           case h46 => simp only [qq, seval, -Nat.reducePow, reduceIte, reduceCtorEq, ptE, hb5, s10t0, s10t6, s10t23, s10z12, s10z13, s10z14, s10f22, hb13, sZ1, sZ3, hb20, sR1, sW1, sW3, hb26, s9, sy, sx, sX, sY, hb42]; rfl
           case a46 =>
            have hp46 := hb46
            try simp only [kb] at hp46
            try simp only [hb46]
            refine aops_orunN 6 _ _ ?_
            simp only [qq, seval, -Nat.reducePow, reduceIte, reduceCtorEq, ptE, hb5, s10t0, s10t6, s10t23, s10z12, s10z13, s10z14, s10f22, hb13, sZ1, sZ3, hb20, sR1, sW1, sW3, hb26, s9, sy, sx, sX, sY, hb42, hb46]
            refine nil_z hL45 ?_
            refine awp_cond (t := ?t47) ?h47 (fun hb47 => ?a47) (fun hb47 => ?b47)
            case h47 => simp only [qq, seval, -Nat.reducePow, reduceIte, reduceCtorEq, ptE, hb5, s10t0, s10t6, s10t23, s10z12, s10z13, s10z14, s10f22, hb13, sZ1, sZ3, hb20, sR1, sW1, sW3, hb26, s9, sy, sx, sX, sY, hb42, hb46]; rfl
            case a47 =>
             have hp47 := hb47
             try simp only [kb] at hp47
             refine seq_reg 2 fun L48 hL48 => ?_
             simp only [qq, seval, -Nat.reducePow, reduceIte, reduceCtorEq, ptE, hb5, s10t0, s10t6, s10t23, s10z12, s10z13, s10z14, s10f22, hb13, sZ1, sZ3, hb20, sR1, sW1, sW3, hb26, s9, sy, sx, sX, sY, hb42, hb46, hb47]
             refine nil_z hL48 ?_
             refine awp_ret ?_
             try simp only [rk_state]
             refine ⟨_, 0, by simp only [qq, seval, -Nat.reducePow, reduceIte, reduceCtorEq, resA, Try.results47, ptE, hb5, s10t0, s10t6, s10t23, s10z12, s10z13, s10z14, s10f22, hb13, sZ1, sZ3, hb20, sR1, sW1, sW3, hb26, s9, sy, sx, sX, sY, hb42, hb46, hb47]; rfl, ?_, nomem_a, nomem_a⟩
             simp only [packA]
             (rw [← hq5_1, un_c (by omega) (by omega) (by omega) (by omega)]; (repeat' (first | exact .nil | exact wkR_c | exact wkR_own | exact wkR_nils | refine wkR_int ?_ | refine wkR_bool ?_ | refine wkR_sl ?_ | refine wkR_osl ?_ | refine wkR_nsl ?_ | refine wkR_oo ?_ | refine wkR_no ?_ | refine .cons ?_ ?_ | refine wkR_agg ?_ | refine wkR_tup ?_)) <;> first | rfl | omega | (dsimp only; omega))
            case b47 =>
             have hp47 := hb47
             try simp only [kb] at hp47
             refine awp_skip ?_
             refine hK44 _ ?_
             have sR2 : (ztakeR (bits1 c)).2.1 = bits2 c := ztakeR_rest (by omega)
             have hse0 : stepE i last (nxt last st c) = 0 := by omega
             refine reg 3 fun L49 hL49 => ?_
             simp only [qq, seval, -Nat.reducePow, reduceIte, reduceCtorEq, ptE, hb5, s10t0, s10t6, s10t23, s10z12, s10z13, s10z14, s10f22, hb13, sZ1, sZ3, hb20, sR1, sW1, sW3, hb26, s9, sy, sx, sX, sY, hb42, hb46, hb47, sR2]
             refine aops_append (rows := ?rows50) (new := ?new50) rfl rfl rfl rfl rfl rfl un22 ?hx50 (by simp only [qq, seval, -Nat.reducePow, reduceIte, reduceCtorEq, maskO, maskN, ptE, hb5, s10t0, s10t6, s10t23, s10z12, s10z13, s10z14, s10f22, hb13, sZ1, sZ3, hb20, sR1, sW1, sW3, hb26, s9, sy, sx, sX, sY, hb42, hb46, hb47, sR2]) (by simp only [qq, seval, -Nat.reducePow, reduceIte, reduceCtorEq, maskO, maskN, ptE, hb5, s10t0, s10t6, s10t23, s10z12, s10z13, s10z14, s10f22, hb13, sZ1, sZ3, hb20, sR1, sW1, sW3, hb26, s9, sy, sx, sX, sY, hb42, hb46, hb47, sR2]) (by simp only [qq, seval, -Nat.reducePow, reduceIte, reduceCtorEq, ptE, hb5, s10t0, s10t6, s10t23, s10z12, s10z13, s10z14, s10f22, hb13, sZ1, sZ3, hb20, sR1, sW1, sW3, hb26, s9, sy, sx, sX, sY, hb42, hb46, hb47, sR2]) ?hy50 (by simp only [tyf]; rfl) (by simp only [tyf]; decide) ?hsz50 ?hml50 ?hh50
             case hx50 => simp only [qq, seval, -Nat.reducePow, reduceIte, reduceCtorEq, AV.base, ptE, hb5, s10t0, s10t6, s10t23, s10z12, s10z13, s10z14, s10f22, hb13, sZ1, sZ3, hb20, sR1, sW1, sW3, hb26, s9, sy, sx, sX, sY, hb42, hb46, hb47, sR2]; rfl
             case hy50 => simp only [qq, seval, -Nat.reducePow, reduceIte, reduceCtorEq, ptE, hb5, s10t0, s10t6, s10t23, s10z12, s10z13, s10z14, s10f22, hb13, sZ1, sZ3, hb20, sR1, sW1, sW3, hb26, s9, sy, sx, sX, sY, hb42, hb46, hb47, sR2]; rfl
             case hsz50 => ((try simp only [tyf, rwR, List.length_append, List.length_cons, List.length_nil, List.length_take, List.length_drop]); omega)
             case hml50 => ((try simp only [maxLen, tyf, rwR, List.length_append, List.length_cons, List.length_nil, List.length_take, List.length_drop]); omega)
             simp only [qq, seval, -Nat.reducePow, reduceIte, reduceCtorEq, maskO, maskN, ptE, hb5, s10t0, s10t6, s10t23, s10z12, s10z13, s10z14, s10f22, hb13, sZ1, sZ3, hb20, sR1, sW1, sW3, hb26, s9, sy, sx, sX, sY, hb42, hb46, hb47, sR2]
             refine aops_orunN 3 _ _ ?_
             simp only [qq, seval, -Nat.reducePow, reduceIte, reduceCtorEq, ptE, hb5, s10t0, s10t6, s10t23, s10z12, s10z13, s10z14, s10f22, hb13, sZ1, sZ3, hb20, sR1, sW1, sW3, hb26, s9, sy, sx, sX, sY, hb42, hb46, hb47, sR2]
             refine aops_nil (hL49 _ ?_)
             simp only [qq, seval, -Nat.reducePow, reduceIte, reduceCtorEq, ptE, hb5, s10t0, s10t6, s10t23, s10z12, s10z13, s10z14, s10f22, hb13, sZ1, sZ3, hb20, sR1, sW1, sW3, hb26, s9, sy, sx, sX, sY, hb42, hb46, hb47, sR2]
             try simp only [rk_state]
             refine hK14 _ ?_
             as_aux_lemma =>
              refine reg 0 fun L51 hL51 => ?_
              simp only [qq, seval, -Nat.reducePow, reduceIte, reduceCtorEq, ptE, hb5, s10t0, s10t6, s10t23, s10z12, s10z13, s10z14, s10f22, hb13, sZ1, sZ3, hb20, sR1, sW1, sW3, hb26, s9, sy, sx, sX, sY, hb42, hb46, hb47, sR2]
              refine aops_val (v := ?v52) rfl ?h52 ?_
              case h52 => simp only [qq, seval, -Nat.reducePow, reduceIte, reduceCtorEq, ptE, hb5, s10t0, s10t6, s10t23, s10z12, s10z13, s10z14, s10f22, hb13, sZ1, sZ3, hb20, sR1, sW1, sW3, hb26, s9, sy, sx, sX, sY, hb42, hb46, hb47, sR2]; first | (rw [wr_id] <;> omega) | rfl
              simp only [qq, seval, -Nat.reducePow, reduceIte, reduceCtorEq, ptE, hb5, s10t0, s10t6, s10t23, s10z12, s10z13, s10z14, s10f22, hb13, sZ1, sZ3, hb20, sR1, sW1, sW3, hb26, s9, sy, sx, sX, sY, hb42, hb46, hb47, sR2]
              refine aops_orunN 1 _ _ ?_
              simp only [qq, seval, -Nat.reducePow, reduceIte, reduceCtorEq, ptE, hb5, s10t0, s10t6, s10t23, s10z12, s10z13, s10z14, s10f22, hb13, sZ1, sZ3, hb20, sR1, sW1, sW3, hb26, s9, sy, sx, sX, sY, hb42, hb46, hb47, sR2]
              refine nil_q hL51 ?_
              try simp only [rk_state]
              have hnx := un_d (f := n.toNat - i) (k := i) (last := last) (step := st) (acc := acc) (b := c) (by omega) (by omega) (by omega) (by omega)
              have hpi : PtIn (nxt last st c) := by rcases hse with h | h | h; (exfalso; omega); (exfalso; omega); exact h.1
              have hpj := hpi
              unfold PtIn at hpj
              refine hK10 _ ((fun (i : Nat) (last : Pt) (st : Int) (acc O : List Pt) (c : List Bool) (d : Nat) => 41 - i) (i + 1) ((nxt last st c)) ((nxt last st c).t - last.t) (acc ++ [(nxt last st c)]) (O ++ [(nxt last st c)]) (bits2 c) (83)) ?_ ⟨i + 1, (nxt last st c), (nxt last st c).t - last.t, acc ++ [(nxt last st c)], O ++ [(nxt last st c)], bits2 c, 83, rfl, ?_, ?_, ?_, ?_, ?_, ?_, ?_, ?_, ?_, ?_, ?_, ?_, ?_, ?_, ?_⟩
              · (try simp only []); omega
              · omega
              · (rw [show n.toNat - (i + 1) = n.toNat - i - 1 from by omega, ← hnx]; exact hq5_1)
              · exact hpi
              · omega
              · (rw [show i + 1 + 1 = O.length from by omega]; simp [List.getD])
              · (have h9 : (O ++ [(nxt last st c)]).getD (i + 1) default = last := by (rw [← hq5_4]; simp [List.getD, List.getElem?_append_left (show i + 1 < O.length by omega)])); (rw [h9]; omega)
              · (rw [List.drop_append_of_le_length (by omega), hq5_6])
              · (rw [List.length_append]; simp only [List.length_cons, List.length_nil]; omega)
              · exact Nat.le_trans (bits2_len c) hq5_8
              · (try simp only [qq, seval, -Nat.reducePow, reduceIte, reduceCtorEq, ptE, hb5, s10t0, s10t6, s10t23, s10z12, s10z13, s10z14, s10f22, hb13, sZ1, sZ3, hb20, sR1, sW1, sW3, hb26, s9, sy, sx, sX, sY, hb42, hb46, hb47, sR2])
                all_goals (first | done | rfl | (simp only [AV.c.injEq, C.int.injEq, List.cons.injEq, and_true, true_and]; omega))
              · (try simp only [qq, seval, -Nat.reducePow, reduceIte, reduceCtorEq, ptE, hb5, s10t0, s10t6, s10t23, s10z12, s10z13, s10z14, s10f22, hb13, sZ1, sZ3, hb20, sR1, sW1, sW3, hb26, s9, sy, sx, sX, sY, hb42, hb46, hb47, sR2])
                all_goals (first | done | rfl | (simp only [AV.c.injEq, C.int.injEq, List.cons.injEq, and_true, true_and]; omega))
              · (try simp only [qq, seval, -Nat.reducePow, reduceIte, reduceCtorEq, ptE, hb5, s10t0, s10t6, s10t23, s10z12, s10z13, s10z14, s10f22, hb13, sZ1, sZ3, hb20, sR1, sW1, sW3, hb26, s9, sy, sx, sX, sY, hb42, hb46, hb47, sR2])
                all_goals (first | done | rfl | (simp only [AV.c.injEq, C.int.injEq, List.cons.injEq, and_true, true_and]; omega))
              · (try simp only [qq, seval, -Nat.reducePow, reduceIte, reduceCtorEq, ptE, hb5, s10t0, s10t6, s10t23, s10z12, s10z13, s10z14, s10f22, hb13, sZ1, sZ3, hb20, sR1, sW1, sW3, hb26, s9, sy, sx, sX, sY, hb42, hb46, hb47, sR2])
                all_goals (first | done | rfl | (simp only [AV.c.injEq, C.int.injEq, List.cons.injEq, and_true, true_and]; omega))
              · (try simp only [qq, seval, -Nat.reducePow, reduceIte, reduceCtorEq, ptE, hb5, s10t0, s10t6, s10t23, s10z12, s10z13, s10z14, s10f22, hb13, sZ1, sZ3, hb20, sR1, sW1, sW3, hb26, s9, sy, sx, sX, sY, hb42, hb46, hb47, sR2])
                all_goals (first | done | rfl | (simp only [AV.c.injEq, C.int.injEq, List.cons.injEq, and_true, true_and]; omega))
              · (try simp only [qq, seval, -Nat.reducePow, reduceIte, reduceCtorEq, ptE, hb5, s10t0, s10t6, s10t23, s10z12, s10z13, s10z14, s10f22, hb13, sZ1, sZ3, hb20, sR1, sW1, sW3, hb26, s9, sy, sx, sX, sY, hb42, hb46, hb47, sR2])
                all_goals (first | done | rfl | (simp only [AV.c.injEq, C.int.injEq, List.cons.injEq, and_true, true_and]; omega))
           case b46 =>
            have hp46 := hb46
            try simp only [kb] at hp46
            try simp only [hb46]
            refine aops_orunN 6 _ _ ?_
            simp only [qq, seval, -Nat.reducePow, reduceIte, reduceCtorEq, ptE, hb5, s10t0, s10t6, s10t23, s10z12, s10z13, s10z14, s10f22, hb13, sZ1, sZ3, hb20, sR1, sW1, sW3, hb26, s9, sy, sx, sX, sY, hb42, hb46]
            refine nil_z hL45 ?_
            refine awp_cond (t := false) (by simp only [qq, seval, -Nat.reducePow, reduceIte, reduceCtorEq, ptE, hb5, s10t0, s10t6, s10t23, s10z12, s10z13, s10z14, s10f22, hb13, sZ1, sZ3, hb20, sR1, sW1, sW3, hb26, s9, sy, sx, sX, sY, hb42, hb46]) (fun h => ?_) (fun _ => ?_)
            case refine_1 => cases h
            refine awp_skip ?_
            refine hK44 _ ?_
            have sR2 : (ztakeR (bits1 c)).2.1 = bits2 c := ztakeR_rest (by omega)
            have hse0 : stepE i last (nxt last st c) = 0 := by omega
            refine reg 3 fun L53 hL53 => ?_
            simp only [qq, seval, -Nat.reducePow, reduceIte, reduceCtorEq, ptE, hb5, s10t0, s10t6, s10t23, s10z12, s10z13, s10z14, s10f22, hb13, sZ1, sZ3, hb20, sR1, sW1, sW3, hb26, s9, sy, sx, sX, sY, hb42, hb46, sR2]
            refine aops_append (rows := ?rows54) (new := ?new54) rfl rfl rfl rfl rfl rfl un22 ?hx54 (by simp only [qq, seval, -Nat.reducePow, reduceIte, reduceCtorEq, maskO, maskN, ptE, hb5, s10t0, s10t6, s10t23, s10z12, s10z13, s10z14, s10f22, hb13, sZ1, sZ3, hb20, sR1, sW1, sW3, hb26, s9, sy, sx, sX, sY, hb42, hb46, sR2]) (by simp only [qq, seval, -Nat.reducePow, reduceIte, reduceCtorEq, maskO, maskN, ptE, hb5, s10t0, s10t6, s10t23, s10z12, s10z13, s10z14, s10f22, hb13, sZ1, sZ3, hb20, sR1, sW1, sW3, hb26, s9, sy, sx, sX, sY, hb42, hb46, sR2]) (by simp only [qq, seval, -Nat.reducePow, reduceIte, reduceCtorEq, ptE, hb5, s10t0, s10t6, s10t23, s10z12, s10z13, s10z14, s10f22, hb13, sZ1, sZ3, hb20, sR1, sW1, sW3, hb26, s9, sy, sx, sX, sY, hb42, hb46, sR2]) ?hy54 (by simp only [tyf]; rfl) (by simp only [tyf]; decide) ?hsz54 ?hml54 ?hh54
            case hx54 => simp only [qq, seval, -Nat.reducePow, reduceIte, reduceCtorEq, AV.base, ptE, hb5, s10t0, s10t6, s10t23, s10z12, s10z13, s10z14, s10f22, hb13, sZ1, sZ3, hb20, sR1, sW1, sW3, hb26, s9, sy, sx, sX, sY, hb42, hb46, sR2]; rfl
            case hy54 => simp only [qq, seval, -Nat.reducePow, reduceIte, reduceCtorEq, ptE, hb5, s10t0, s10t6, s10t23, s10z12, s10z13, s10z14, s10f22, hb13, sZ1, sZ3, hb20, sR1, sW1, sW3, hb26, s9, sy, sx, sX, sY, hb42, hb46, sR2]; rfl
            case hsz54 => ((try simp only [tyf, rwR, List.length_append, List.length_cons, List.length_nil, List.length_take, List.length_drop]); omega)
            case hml54 => ((try simp only [maxLen, tyf, rwR, List.length_append, List.length_cons, List.length_nil, List.length_take, List.length_drop]); omega)
            simp only [qq, seval, -Nat.reducePow, reduceIte, reduceCtorEq, maskO, maskN, ptE, hb5, s10t0, s10t6, s10t23, s10z12, s10z13, s10z14, s10f22, hb13, sZ1, sZ3, hb20, sR1, sW1, sW3, hb26, s9, sy, sx, sX, sY, hb42, hb46, sR2]
            refine aops_orunN 3 _ _ ?_
            simp only [qq, seval, -Nat.reducePow, reduceIte, reduceCtorEq, ptE, hb5, s10t0, s10t6, s10t23, s10z12, s10z13, s10z14, s10f22, hb13, sZ1, sZ3, hb20, sR1, sW1, sW3, hb26, s9, sy, sx, sX, sY, hb42, hb46, sR2]
            refine aops_nil (hL53 _ ?_)
            simp only [qq, seval, -Nat.reducePow, reduceIte, reduceCtorEq, ptE, hb5, s10t0, s10t6, s10t23, s10z12, s10z13, s10z14, s10f22, hb13, sZ1, sZ3, hb20, sR1, sW1, sW3, hb26, s9, sy, sx, sX, sY, hb42, hb46, sR2]
            try simp only [rk_state]
            refine hK14 _ ?_
            refine reg 0 fun L55 hL55 => ?_
            simp only [qq, seval, -Nat.reducePow, reduceIte, reduceCtorEq, ptE, hb5, s10t0, s10t6, s10t23, s10z12, s10z13, s10z14, s10f22, hb13, sZ1, sZ3, hb20, sR1, sW1, sW3, hb26, s9, sy, sx, sX, sY, hb42, hb46, sR2]
            refine aops_val (v := ?v56) rfl ?h56 ?_
            case h56 => simp only [qq, seval, -Nat.reducePow, reduceIte, reduceCtorEq, ptE, hb5, s10t0, s10t6, s10t23, s10z12, s10z13, s10z14, s10f22, hb13, sZ1, sZ3, hb20, sR1, sW1, sW3, hb26, s9, sy, sx, sX, sY, hb42, hb46, sR2]; first | (rw [wr_id] <;> omega) | rfl
            simp only [qq, seval, -Nat.reducePow, reduceIte, reduceCtorEq, ptE, hb5, s10t0, s10t6, s10t23, s10z12, s10z13, s10z14, s10f22, hb13, sZ1, sZ3, hb20, sR1, sW1, sW3, hb26, s9, sy, sx, sX, sY, hb42, hb46, sR2]
            refine aops_orunN 1 _ _ ?_
            simp only [qq, seval, -Nat.reducePow, reduceIte, reduceCtorEq, ptE, hb5, s10t0, s10t6, s10t23, s10z12, s10z13, s10z14, s10f22, hb13, sZ1, sZ3, hb20, sR1, sW1, sW3, hb26, s9, sy, sx, sX, sY, hb42, hb46, sR2]
            refine nil_q hL55 ?_
            try simp only [rk_state]
            have hnx := un_d (f := n.toNat - i) (k := i) (last := last) (step := st) (acc := acc) (b := c) (by omega) (by omega) (by omega) (by omega)
            have hpi : PtIn (nxt last st c) := by rcases hse with h | h | h; (exfalso; omega); (exfalso; omega); exact h.1
            have hpj := hpi
            unfold PtIn at hpj
            refine hK10 _ ((fun (i : Nat) (last : Pt) (st : Int) (acc O : List Pt) (c : List Bool) (d : Nat) => 41 - i) (i + 1) ((nxt last st c)) ((nxt last st c).t - last.t) (acc ++ [(nxt last st c)]) (O ++ [(nxt last st c)]) (bits2 c) (83)) ?_ ⟨i + 1, (nxt last st c), (nxt last st c).t - last.t, acc ++ [(nxt last st c)], O ++ [(nxt last st c)], bits2 c, 83, rfl, ?_, ?_, ?_, ?_, ?_, ?_, ?_, ?_, ?_, ?_, ?_, ?_, ?_, ?_, ?_⟩
            · (try simp only []); omega
            · omega
            · (rw [show n.toNat - (i + 1) = n.toNat - i - 1 from by omega, ← hnx]; exact hq5_1)
            · exact hpi
            · omega
            · (rw [show i + 1 + 1 = O.length from by omega]; simp [List.getD])
            · (have h9 : (O ++ [(nxt last st c)]).getD (i + 1) default = last := by (rw [← hq5_4]; simp [List.getD, List.getElem?_append_left (show i + 1 < O.length by omega)])); (rw [h9]; omega)
            · (rw [List.drop_append_of_le_length (by omega), hq5_6])
            · (rw [List.length_append]; simp only [List.length_cons, List.length_nil]; omega)
            · exact Nat.le_trans (bits2_len c) hq5_8
            · (try simp only [qq, seval, -Nat.reducePow, reduceIte, reduceCtorEq, ptE, hb5, s10t0, s10t6, s10t23, s10z12, s10z13, s10z14, s10f22, hb13, sZ1, sZ3, hb20, sR1, sW1, sW3, hb26, s9, sy, sx, sX, sY, hb42, hb46, sR2])
              all_goals (first | done | rfl | (simp only [AV.c.injEq, C.int.injEq, List.cons.injEq, and_true, true_and]; omega))
            · (try simp only [qq, seval, -Nat.reducePow, reduceIte, reduceCtorEq, ptE, hb5, s10t0, s10t6, s10t23, s10z12, s10z13, s10z14, s10f22, hb13, sZ1, sZ3, hb20, sR1, sW1, sW3, hb26, s9, sy, sx, sX, sY, hb42, hb46, sR2])
              all_goals (first | done | rfl | (simp only [AV.c.injEq, C.int.injEq, List.cons.injEq, and_true, true_and]; omega))
            · (try simp only [qq, seval, -Nat.reducePow, reduceIte, reduceCtorEq, ptE, hb5, s10t0, s10t6, s10t23, s10z12, s10z13, s10z14, s10f22, hb13, sZ1, sZ3, hb20, sR1, sW1, sW3, hb26, s9, sy, sx, sX, sY, hb42, hb46, sR2])
              all_goals (first | done | rfl | (simp only [AV.c.injEq, C.int.injEq, List.cons.injEq, and_true, true_and]; omega))
            · (try simp only [qq, seval, -Nat.reducePow, reduceIte, reduceCtorEq, ptE, hb5, s10t0, s10t6, s10t23, s10z12, s10z13, s10z14, s10f22, hb13, sZ1, sZ3, hb20, sR1, sW1, sW3, hb26, s9, sy, sx, sX, sY, hb42, hb46, sR2])
              all_goals (first | done | rfl | (simp only [AV.c.injEq, C.int.injEq, List.cons.injEq, and_true, true_and]; omega))
            · (try simp only [qq, seval, -Nat.reducePow, reduceIte, reduceCtorEq, ptE, hb5, s10t0, s10t6, s10t23, s10z12, s10z13, s10z14, s10f22, hb13, sZ1, sZ3, hb20, sR1, sW1, sW3, hb26, s9, sy, sx, sX, sY, hb42, hb46, sR2])
              all_goals (first | done | rfl | (simp only [AV.c.injEq, C.int.injEq, List.cons.injEq, and_true, true_and]; omega))
            · (try simp only [qq, seval, -Nat.reducePow, reduceIte, reduceCtorEq, ptE, hb5, s10t0, s10t6, s10t23, s10z12, s10z13, s10z14, s10f22, hb13, sZ1, sZ3, hb20, sR1, sW1, sW3, hb26, s9, sy, sx, sX, sY, hb42, hb46, sR2])
              all_goals (first | done | rfl | (simp only [AV.c.injEq, C.int.injEq, List.cons.injEq, and_true, true_and]; omega))
    case b13 =>
     have hp13 := hb13
     try simp only [kb] at hp13
     refine awp_exit ?_
     simp only [rk_state, reduceIte, Nat.reduceEqDiff]
     refine hK8 _ ?_
     as_aux_lemma =>
      refine awp_seq_k fun K57 hK57 => ?_
      refine seq_reg 3 fun L58 hL58 => ?_
      simp only [qq, seval, -Nat.reducePow, reduceIte, reduceCtorEq, ptE, hb5, s10t0, s10t6, s10t23, s10z12, s10z13, s10z14, s10f22, hb13]
      refine nil_z hL58 ?_
      refine awp_cond (t := ?t59) ?h59 (fun hb59 => ?a59) (fun hb59 => ?b59)
      case h59 => simp only [qq, seval, -Nat.reducePow, reduceIte, reduceCtorEq, ptE, hb5, s10t0, s10t6, s10t23, s10z12, s10z13, s10z14, s10f22, hb13]; rfl
      case a59 =>
       have hp59 := hb59
       try simp only [kb] at hp59
       refine seq_reg 2 fun L60 hL60 => ?_
       simp only [qq, seval, -Nat.reducePow, reduceIte, reduceCtorEq, ptE, hb5, s10t0, s10t6, s10t23, s10z12, s10z13, s10z14, s10f22, hb13, hb59]
       refine nil_z hL60 ?_
       refine awp_ret ?_
       try simp only [rk_state]
       refine ⟨_, 0, by simp only [qq, seval, -Nat.reducePow, reduceIte, reduceCtorEq, resA, Try.results47, ptE, hb5, s10t0, s10t6, s10t23, s10z12, s10z13, s10z14, s10f22, hb13, hb59]; rfl, ?_, nomem_a, nomem_a⟩
       simp only [packA]
       (rw [← hq5_1, show n.toNat - i = 0 from by omega, un_e (by omega)]; (repeat' (first | exact .nil | exact wkR_c | exact wkR_own | exact wkR_nils | refine wkR_int ?_ | refine wkR_bool ?_ | refine wkR_sl ?_ | refine wkR_osl ?_ | refine wkR_nsl ?_ | refine wkR_oo ?_ | refine wkR_no ?_ | refine .cons ?_ ?_ | refine wkR_agg ?_ | refine wkR_tup ?_)) <;> first | rfl | omega)
      case b59 =>
       have hp59 := hb59
       try simp only [kb] at hp59
       refine awp_skip ?_
       refine hK57 _ ?_
       have sD := hq5_6
       refine seq_reg 1 fun L61 hL61 => ?_
       simp only [qq, seval, -Nat.reducePow, reduceIte, reduceCtorEq, ptE, hb5, s10t0, s10t6, s10t23, s10z12, s10z13, s10z14, s10f22, hb13, hb59, sD]
       refine aops_val (v := ?v62) rfl ?h62 ?_
       case h62 => simp only [qq, seval, -Nat.reducePow, reduceIte, reduceCtorEq, ptE, hb5, s10t0, s10t6, s10t23, s10z12, s10z13, s10z14, s10f22, hb13, hb59, sD]; first | (rw [slc_l un22 if34] <;> omega) | (rw [slc_lo un22 if34] <;> omega)
       simp only [qq, seval, -Nat.reducePow, reduceIte, reduceCtorEq, ptE, hb5, s10t0, s10t6, s10t23, s10z12, s10z13, s10z14, s10f22, hb13, hb59, sD]
       refine aops_orunN 2 _ _ ?_
       simp only [qq, seval, -Nat.reducePow, reduceIte, reduceCtorEq, ptE, hb5, s10t0, s10t6, s10t23, s10z12, s10z13, s10z14, s10f22, hb13, hb59, sD]
       refine nil_z hL61 ?_
       as_aux_lemma =>
        refine awp_ret ?_
        try simp only [rk_state]
        refine ⟨_, 0, by simp only [qq, seval, -Nat.reducePow, reduceIte, reduceCtorEq, resA, Try.results47, ptE, hb5, s10t0, s10t6, s10t23, s10z12, s10z13, s10z14, s10f22, hb13, hb59, sD]; rfl, ?_, nomem_a, nomem_a⟩
        simp only [packA]
        (rw [← hq5_1, show n.toNat - i = 0 from by omega, un_f (by omega)]; (repeat' (first | exact .nil | exact wkR_c | exact wkR_own | exact wkR_nils | refine wkR_int ?_ | refine wkR_bool ?_ | refine wkR_sl ?_ | refine wkR_osl ?_ | refine wkR_nsl ?_ | refine wkR_oo ?_ | refine wkR_no ?_ | refine .cons ?_ ?_ | refine wkR_agg ?_ | refine wkR_tup ?_)) <;> first | rfl | omega)
end Go.Proofs.Y
