/-
  What is proved: bits: what Read, Take, BitsOf, Taken compute. Conditions: none.
-/
import Derived.Test.YtoihccclnkhmaaaC1
import Derived.Test.YtoihccclnkhmaaaC1c
import Derived.Test.YtoihccclnkhmaaaP1b
set_option linter.unusedVariables false
set_option linter.unusedSimpArgs false
set_option maxRecDepth 4000
namespace Go.Proofs.Y
open Go.Rb
set_option maxHeartbeats 4000000 in
set_option maxRecDepth 50000 in
theorem read_fun (l : List Bool) (w : Int) : Fun Try.prog 94 [.c (.sl 4 (Rw boC l)), .c (.int .i64 w)] nomem (.tup [.c (.int .i64 (readR l w).1), .c (.int .i64 (readR l w).2)]) nomem := by
 refine fun_of_awp Try.func94 rfl (by decide +kernel) (by decide +kernel) (Nat.le_of_ble_eq_true rfl) (fun _ _ => rfl) (fun _ _ => rfl) ?_
 refine awp_seq_k fun K1 hK1 => ?_
 refine awp_region_lit fun L2 hL2 => ?_
 refine aops_orunN 2 _ _ ?_
 simp only [qq, Nat.reduceBEq, reduceIte, Nat.reduceEqDiff, Nat.reduceAdd, Nat.reduceLeDiff, reduceCtorEq, Nat.reduceMul, Int.reduceToNat]
 refine aops_nil (hL2 _ ?_)
 simp only [qq, Nat.reduceBEq, reduceIte, Nat.reduceEqDiff, Nat.reduceAdd, Nat.reduceLeDiff, reduceCtorEq, Nat.reduceMul, Int.reduceToNat]
 try simp only [rk_state]
 refine hK1 _ ?_
 refine awp_seq_k fun K3 hK3 => ?_
 refine awp_seq_k fun K4 hK4 => ?_
 refine awp_region_lit fun L5 hL5 => ?_
 refine aops_orunN 3 _ _ ?_
 simp only [qq, Nat.reduceBEq, reduceIte, Nat.reduceEqDiff, Nat.reduceAdd, Nat.reduceLeDiff, reduceCtorEq, Nat.reduceMul, Int.reduceToNat]
 refine aops_part (b := ?p6) 11 ?h6 (fun hb6 => ?a6) (fun hb6 => ?b6)
 case h6 => simp only [qq, Nat.reduceBEq, reduceIte, Nat.reduceEqDiff, Nat.reduceAdd, Nat.reduceLeDiff, reduceCtorEq, Nat.reduceMul, Int.reduceToNat]; rfl
 case a6 =>
  have hp6 := hb6
  try simp only [kb] at hp6
  all_goals try exact absurd hb6 (by decide)
  all_goals try (exfalso; omega)
  all_goals
   try simp only [hb6]
   refine aops_orunN 3 _ _ ?_
   simp only [qq, Nat.reduceBEq, reduceIte, Nat.reduceEqDiff, Nat.reduceAdd, Nat.reduceLeDiff, reduceCtorEq, Nat.reduceMul, Int.reduceToNat, hb6]
   refine aops_nil (hL5 _ ?_)
   simp only [qq, Nat.reduceBEq, reduceIte, Nat.reduceEqDiff, Nat.reduceAdd, Nat.reduceLeDiff, reduceCtorEq, Nat.reduceMul, Int.reduceToNat, hb6]
   try simp only [rk_state]
   refine hK4 _ ?_
   refine awp_cond (t := true) (by simp only [qq, Nat.reduceBEq, reduceIte, Nat.reduceEqDiff, Nat.reduceAdd, Nat.reduceLeDiff, reduceCtorEq, Nat.reduceMul, Int.reduceToNat, hb6]) (fun _ => ?_) (fun h => ?_)
   case refine_2 => cases h
   refine awp_seq_k fun K7 hK7 => ?_
   refine awp_region_lit fun L8 hL8 => ?_
   refine aops_orunN 2 _ _ ?_
   simp only [qq, Nat.reduceBEq, reduceIte, Nat.reduceEqDiff, Nat.reduceAdd, Nat.reduceLeDiff, reduceCtorEq, Nat.reduceMul, Int.reduceToNat, hb6]
   refine aops_nil (hL8 _ ?_)
   simp only [qq, Nat.reduceBEq, reduceIte, Nat.reduceEqDiff, Nat.reduceAdd, Nat.reduceLeDiff, reduceCtorEq, Nat.reduceMul, Int.reduceToNat, hb6]
   try simp only [rk_state]
   refine hK7 _ ?_
   as_aux_lemma =>
    refine awp_ret ?_
    try simp only [rk_state]
    refine ⟨_, 0, by simp only [qq, Nat.reduceBEq, reduceIte, Nat.reduceEqDiff, Nat.reduceAdd, Nat.reduceLeDiff, reduceCtorEq, Nat.reduceMul, Int.reduceToNat, resA, Try.results94, hb6]; rfl, ?_, fun l hl => absurd rfl hl, fun l hl => absurd rfl hl⟩
    simp only [packA]
    (repeat' (first | exact .nil | exact wkR_c | exact wkR_own | exact wkR_nils | refine wkR_int ?_ | refine wkR_bool ?_ | refine wkR_sl ?_ | refine wkR_osl ?_ | refine wkR_nsl ?_ | refine wkR_oo ?_ | refine wkR_no ?_ | refine .cons ?_ ?_ | refine wkR_agg ?_ | refine wkR_tup ?_)) <;> (unfold readR; first | (rw [if_pos (by omega)]; done) | (rw [if_neg (by omega), if_pos (by omega)]; done) | (rw [if_neg (by omega), if_neg (by omega)]; first | done | (rw [List.take_of_length_le (by omega)])))
 case b6 =>
  have hp6 := hb6
  try simp only [kb] at hp6
  all_goals try exact absurd hb6 (by decide)
  all_goals try (exfalso; omega)
  all_goals
   try simp only [hb6]
   refine aops_orunN 3 _ _ ?_
   simp only [qq, Nat.reduceBEq, reduceIte, Nat.reduceEqDiff, Nat.reduceAdd, Nat.reduceLeDiff, reduceCtorEq, Nat.reduceMul, Int.reduceToNat, hb6]
   refine aops_nil (hL5 _ ?_)
   simp only [qq, Nat.reduceBEq, reduceIte, Nat.reduceEqDiff, Nat.reduceAdd, Nat.reduceLeDiff, reduceCtorEq, Nat.reduceMul, Int.reduceToNat, hb6]
   try simp only [rk_state]
   refine hK4 _ ?_
   refine awp_cond (t := ?t9) ?h9 (fun hb9 => ?a9) (fun hb9 => ?b9)
   case h9 => simp only [qq, Nat.reduceBEq, reduceIte, Nat.reduceEqDiff, Nat.reduceAdd, Nat.reduceLeDiff, reduceCtorEq, Nat.reduceMul, Int.reduceToNat, hb6]; rfl
   case a9 =>
    have hp9 := hb9
    try simp only [kb] at hp9
    all_goals try exact absurd hb9 (by decide)
    all_goals try (exfalso; omega)
    all_goals
     refine awp_seq_k fun K10 hK10 => ?_
     refine awp_region_lit fun L11 hL11 => ?_
     refine aops_orunN 2 _ _ ?_
     simp only [qq, Nat.reduceBEq, reduceIte, Nat.reduceEqDiff, Nat.reduceAdd, Nat.reduceLeDiff, reduceCtorEq, Nat.reduceMul, Int.reduceToNat, hb6, hb9]
     refine aops_nil (hL11 _ ?_)
     simp only [qq, Nat.reduceBEq, reduceIte, Nat.reduceEqDiff, Nat.reduceAdd, Nat.reduceLeDiff, reduceCtorEq, Nat.reduceMul, Int.reduceToNat, hb6, hb9]
     try simp only [rk_state]
     refine hK10 _ ?_
     refine awp_ret ?_
     try simp only [rk_state]
     refine ⟨_, 0, by simp only [qq, Nat.reduceBEq, reduceIte, Nat.reduceEqDiff, Nat.reduceAdd, Nat.reduceLeDiff, reduceCtorEq, Nat.reduceMul, Int.reduceToNat, resA, Try.results94, hb6, hb9]; rfl, ?_, fun l hl => absurd rfl hl, fun l hl => absurd rfl hl⟩
     simp only [packA]
     (repeat' (first | exact .nil | exact wkR_c | exact wkR_own | exact wkR_nils | refine wkR_int ?_ | refine wkR_bool ?_ | refine wkR_sl ?_ | refine wkR_osl ?_ | refine wkR_nsl ?_ | refine wkR_oo ?_ | refine wkR_no ?_ | refine .cons ?_ ?_ | refine wkR_agg ?_ | refine wkR_tup ?_)) <;> (unfold readR; first | (rw [if_pos (by omega)]; done) | (rw [if_neg (by omega), if_pos (by omega)]; done) | (rw [if_neg (by omega), if_neg (by omega)]; first | done | (rw [List.take_of_length_le (by omega)])))
   case b9 =>
    have hp9 := hb9
    try simp only [kb] at hp9
    all_goals try exact absurd hb9 (by decide)
    all_goals try (exfalso; omega)
    all_goals
     refine awp_skip ?_
     try simp only [rk_state]
     refine hK3 _ ?_
     refine awp_seq_k fun K12 hK12 => ?_
     refine awp_seq_k fun K13 hK13 => ?_
     refine awp_region_lit fun L14 hL14 => ?_
     refine aops_orunN 4 _ _ ?_
     simp only [qq, Nat.reduceBEq, reduceIte, Nat.reduceEqDiff, Nat.reduceAdd, Nat.reduceLeDiff, reduceCtorEq, Nat.reduceMul, Int.reduceToNat, hb6, hb9]
     refine aops_nil (hL14 _ ?_)
     simp only [qq, Nat.reduceBEq, reduceIte, Nat.reduceEqDiff, Nat.reduceAdd, Nat.reduceLeDiff, reduceCtorEq, Nat.reduceMul, Int.reduceToNat, hb6, hb9]
     try simp only [rk_state]
     refine hK13 _ ?_
     refine awp_cond (t := ?t15) ?h15 (fun hb15 => ?a15) (fun hb15 => ?b15)
     case h15 => simp only [qq, Nat.reduceBEq, reduceIte, Nat.reduceEqDiff, Nat.reduceAdd, Nat.reduceLeDiff, reduceCtorEq, Nat.reduceMul, Int.reduceToNat, hb6, hb9]; rfl
     case a15 =>
      have hp15 := hb15
      try simp only [kb] at hp15
      all_goals try exact absurd hb15 (by decide)
      all_goals try (exfalso; omega)
      all_goals
       refine awp_seq_k fun K16 hK16 => ?_
       refine awp_region_lit fun L17 hL17 => ?_
       refine aops_orunN 2 _ _ ?_
       simp only [qq, Nat.reduceBEq, reduceIte, Nat.reduceEqDiff, Nat.reduceAdd, Nat.reduceLeDiff, reduceCtorEq, Nat.reduceMul, Int.reduceToNat, hb6, hb9, hb15]
       refine aops_nil (hL17 _ ?_)
       simp only [qq, Nat.reduceBEq, reduceIte, Nat.reduceEqDiff, Nat.reduceAdd, Nat.reduceLeDiff, reduceCtorEq, Nat.reduceMul, Int.reduceToNat, hb6, hb9, hb15]
       try simp only [rk_state]
       refine hK16 _ ?_
       as_aux_lemma =>
        refine awp_ret ?_
        try simp only [rk_state]
        refine ⟨_, 0, by simp only [qq, Nat.reduceBEq, reduceIte, Nat.reduceEqDiff, Nat.reduceAdd, Nat.reduceLeDiff, reduceCtorEq, Nat.reduceMul, Int.reduceToNat, resA, Try.results94, hb6, hb9, hb15]; rfl, ?_, fun l hl => absurd rfl hl, fun l hl => absurd rfl hl⟩
        simp only [packA]
        (repeat' (first | exact .nil | exact wkR_c | exact wkR_own | exact wkR_nils | refine wkR_int ?_ | refine wkR_bool ?_ | refine wkR_sl ?_ | refine wkR_osl ?_ | refine wkR_nsl ?_ | refine wkR_oo ?_ | refine wkR_no ?_ | refine .cons ?_ ?_ | refine wkR_agg ?_ | refine wkR_tup ?_)) <;> (unfold readR; first | (rw [if_pos (by omega)]; done) | (rw [if_neg (by omega), if_pos (by omega)]; done) | (rw [if_neg (by omega), if_neg (by omega)]; first | done | (rw [List.take_of_length_le (by omega)])))
     case b15 =>
      have hp15 := hb15
      try simp only [kb] at hp15
      all_goals try exact absurd hb15 (by decide)
      all_goals try (exfalso; omega)
      all_goals
       refine awp_skip ?_
       try simp only [rk_state]
       refine hK12 _ ?_
       refine awp_seq_k fun K18 hK18 => ?_
       refine awp_region_lit fun L19 hL19 => ?_
       refine aops_orunN 1 _ _ ?_
       simp only [qq, Nat.reduceBEq, reduceIte, Nat.reduceEqDiff, Nat.reduceAdd, Nat.reduceLeDiff, reduceCtorEq, Nat.reduceMul, Int.reduceToNat, hb6, hb9, hb15]
       refine aops_nil (hL19 _ ?_)
       simp only [qq, Nat.reduceBEq, reduceIte, Nat.reduceEqDiff, Nat.reduceAdd, Nat.reduceLeDiff, reduceCtorEq, Nat.reduceMul, Int.reduceToNat, hb6, hb9, hb15]
       try simp only [rk_state]
       refine hK18 _ ?_
       refine awp_seq_k fun K20 hK20 => ?_
       refine awp_seq_k fun K21 hK21 => ?_
       have hk : (l.take w.toNat).length = w.toNat := by rw [List.length_take]; omega
       refine awp_region_lit fun L22 hL22 => ?_
       refine aops_orunN 2 _ _ ?_
       simp only [qq, Nat.reduceBEq, reduceIte, Nat.reduceEqDiff, Nat.reduceAdd, Nat.reduceLeDiff, reduceCtorEq, Nat.reduceMul, Int.reduceToNat, hb6, hb9, hb15]
       refine aops_val (v := ?v23) rfl ?h23 ?_
       case h23 => simp only [qq, Nat.reduceBEq, reduceIte, Nat.reduceEqDiff, Nat.reduceAdd, Nat.reduceLeDiff, reduceCtorEq, Nat.reduceMul, Int.reduceToNat, hb6, hb9, hb15]; first | (rw [slc_h un36 if4] <;> omega) | (rw [slc_ho un36 if4] <;> omega)
       simp only [qq, Nat.reduceBEq, reduceIte, Nat.reduceEqDiff, Nat.reduceAdd, Nat.reduceLeDiff, reduceCtorEq, Nat.reduceMul, Int.reduceToNat, hb6, hb9, hb15]
       refine aops_orunN 2 _ _ ?_
       simp only [qq, Nat.reduceBEq, reduceIte, Nat.reduceEqDiff, Nat.reduceAdd, Nat.reduceLeDiff, reduceCtorEq, Nat.reduceMul, Int.reduceToNat, hb6, hb9, hb15]
       refine aops_nil (hL22 _ ?_)
       simp only [qq, Nat.reduceBEq, reduceIte, Nat.reduceEqDiff, Nat.reduceAdd, Nat.reduceLeDiff, reduceCtorEq, Nat.reduceMul, Int.reduceToNat, hb6, hb9, hb15]
       try simp only [rk_state]
       refine hK21 _ ?_
       refine awp_block ?_
       refine awp_loopW (W := [24, 25, 26, 8, 27, 28, 6, 29, 30, 31, 6, 32, 23]) (M := []) rfl rfl (fun k s => ∃ (i : Nat), k = w.toNat - i ∧ (i ≤ w.toNat) ∧ s.t 6 = .c (.int .i64 (val ((l.take w.toNat).take i))) ∧ s.t 23 = .c (.int .i64 (i : Int))) ((fun (i : Nat) => w.toNat - i) (0)) ?i24 ?r24
       case i24 =>
        refine ⟨0, rfl, ?_, ?_, ?_⟩
        · first | omega | simp
        · (try simp only [qq, Nat.reduceBEq, reduceIte, Nat.reduceEqDiff, Nat.reduceAdd, Nat.reduceLeDiff, reduceCtorEq, Nat.reduceMul, Int.reduceToNat, hb6, hb9, hb15])
          all_goals (first | done | rfl | (simp only [AV.c.injEq, C.int.injEq, List.cons.injEq, and_true, true_and]; omega))
        · (try simp only [qq, Nat.reduceBEq, reduceIte, Nat.reduceEqDiff, Nat.reduceAdd, Nat.reduceLeDiff, reduceCtorEq, Nat.reduceMul, Int.reduceToNat, hb6, hb9, hb15])
          all_goals (first | done | rfl | (simp only [AV.c.injEq, C.int.injEq, List.cons.injEq, and_true, true_and]; omega))
       case r24 =>
        rintro k s hf ⟨i, rfl, hq7_0, s24t6, s24t23⟩ K24 hK24
        have s24f4 := hf 4 rfl (by (try simp only [qq, Nat.reduceBEq, reduceIte, Nat.reduceEqDiff, Nat.reduceAdd, Nat.reduceLeDiff, reduceCtorEq, Nat.reduceMul, Int.reduceToNat, kn, hb6, hb9, hb15]); all_goals rfl)
        simp only [qq, Nat.reduceBEq, reduceIte, Nat.reduceEqDiff, Nat.reduceAdd, Nat.reduceLeDiff, reduceCtorEq, Nat.reduceMul, Int.reduceToNat, hb6, hb9, hb15] at s24f4
        have s24f5 := hf 5 rfl (by (try simp only [qq, Nat.reduceBEq, reduceIte, Nat.reduceEqDiff, Nat.reduceAdd, Nat.reduceLeDiff, reduceCtorEq, Nat.reduceMul, Int.reduceToNat, kn, hb6, hb9, hb15]); all_goals rfl)
        simp only [qq, Nat.reduceBEq, reduceIte, Nat.reduceEqDiff, Nat.reduceAdd, Nat.reduceLeDiff, reduceCtorEq, Nat.reduceMul, Int.reduceToNat, hb6, hb9, hb15] at s24f5
        have s24f21 := hf 21 rfl (by (try simp only [qq, Nat.reduceBEq, reduceIte, Nat.reduceEqDiff, Nat.reduceAdd, Nat.reduceLeDiff, reduceCtorEq, Nat.reduceMul, Int.reduceToNat, kn, hb6, hb9, hb15]); all_goals rfl)
        simp only [qq, Nat.reduceBEq, reduceIte, Nat.reduceEqDiff, Nat.reduceAdd, Nat.reduceLeDiff, reduceCtorEq, Nat.reduceMul, Int.reduceToNat, hb6, hb9, hb15] at s24f21
        have s24f22 := hf 22 rfl (by (try simp only [qq, Nat.reduceBEq, reduceIte, Nat.reduceEqDiff, Nat.reduceAdd, Nat.reduceLeDiff, reduceCtorEq, Nat.reduceMul, Int.reduceToNat, kn, hb6, hb9, hb15]); all_goals rfl)
        simp only [qq, Nat.reduceBEq, reduceIte, Nat.reduceEqDiff, Nat.reduceAdd, Nat.reduceLeDiff, reduceCtorEq, Nat.reduceMul, Int.reduceToNat, hb6, hb9, hb15] at s24f22
        clear hf
        refine awp_seq_k fun K25 hK25 => ?_
        refine awp_region_lit fun L26 hL26 => ?_
        refine aops_orunN 1 _ _ ?_
        simp only [qq, Nat.reduceBEq, reduceIte, Nat.reduceEqDiff, Nat.reduceAdd, Nat.reduceLeDiff, reduceCtorEq, Nat.reduceMul, Int.reduceToNat, hb6, hb9, hb15, s24t6, s24t23, s24f4, s24f5, s24f21, s24f22]
        refine aops_nil (hL26 _ ?_)
        simp only [qq, Nat.reduceBEq, reduceIte, Nat.reduceEqDiff, Nat.reduceAdd, Nat.reduceLeDiff, reduceCtorEq, Nat.reduceMul, Int.reduceToNat, hb6, hb9, hb15, s24t6, s24t23, s24f4, s24f5, s24f21, s24f22]
        try simp only [rk_state]
        refine hK25 _ ?_
        as_aux_lemma =>
         refine awp_seq_k fun K27 hK27 => ?_
         refine awp_cond (t := ?t28) ?h28 (fun hb28 => ?a28) (fun hb28 => ?b28)
         case h28 => simp only [qq, Nat.reduceBEq, reduceIte, Nat.reduceEqDiff, Nat.reduceAdd, Nat.reduceLeDiff, reduceCtorEq, Nat.reduceMul, Int.reduceToNat, hb6, hb9, hb15, s24t6, s24t23, s24f4, s24f5, s24f21, s24f22]; rfl
         case a28 =>
          have hp28 := hb28
          try simp only [kb] at hp28
          all_goals try exact absurd hb28 (by decide)
          all_goals try (exfalso; omega)
          all_goals
           refine awp_skip ?_
           try simp only [rk_state]
           refine hK27 _ ?_
           refine awp_seq_k fun K29 hK29 => ?_
           refine awp_block ?_
           refine awp_seq_k fun K30 hK30 => ?_
           refine awp_region_lit fun L31 hL31 => ?_
           refine aops_val (v := ?v32) rfl ?h32 ?_
           case h32 => simp only [qq, Nat.reduceBEq, reduceIte, Nat.reduceEqDiff, Nat.reduceAdd, Nat.reduceLeDiff, reduceCtorEq, Nat.reduceMul, Int.reduceToNat, hb6, hb9, hb15, s24t6, s24t23, s24f4, s24f5, s24f21, s24f22, hb28]; first | (rw [idx_c un36 if4] <;> omega) | (rw [idx_o un36 if4] <;> omega) | (rw [idx_a un36 if4] <;> omega)
           simp only [qq, Nat.reduceBEq, reduceIte, Nat.reduceEqDiff, Nat.reduceAdd, Nat.reduceLeDiff, reduceCtorEq, Nat.reduceMul, Int.reduceToNat, hb6, hb9, hb15, s24t6, s24t23, s24f4, s24f5, s24f21, s24f22, hb28]
           refine aops_orunN 2 _ _ ?_
           simp only [qq, Nat.reduceBEq, reduceIte, Nat.reduceEqDiff, Nat.reduceAdd, Nat.reduceLeDiff, reduceCtorEq, Nat.reduceMul, Int.reduceToNat, hb6, hb9, hb15, s24t6, s24t23, s24f4, s24f5, s24f21, s24f22, hb28]
           refine aops_nil (hL31 _ ?_)
           simp only [qq, Nat.reduceBEq, reduceIte, Nat.reduceEqDiff, Nat.reduceAdd, Nat.reduceLeDiff, reduceCtorEq, Nat.reduceMul, Int.reduceToNat, hb6, hb9, hb15, s24t6, s24t23, s24f4, s24f5, s24f21, s24f22, hb28]
           try simp only [rk_state]
           refine hK30 _ ?_
           refine awp_seq_k fun K33 hK33 => ?_
           have hv := val_lt40 (l := (l.take w.toNat).take i) (by rw [List.length_take]; omega)
           refine awp_region_lit fun L34 hL34 => ?_
           refine aops_orunN 1 _ _ ?_
           simp only [qq, Nat.reduceBEq, reduceIte, Nat.reduceEqDiff, Nat.reduceAdd, Nat.reduceLeDiff, reduceCtorEq, Nat.reduceMul, Int.reduceToNat, hb6, hb9, hb15, s24t6, s24t23, s24f4, s24f5, s24f21, s24f22, hb28]
           refine aops_val (v := ?v35) rfl ?h35 ?_
           case h35 => simp only [qq, Nat.reduceBEq, reduceIte, Nat.reduceEqDiff, Nat.reduceAdd, Nat.reduceLeDiff, reduceCtorEq, Nat.reduceMul, Int.reduceToNat, hb6, hb9, hb15, s24t6, s24t23, s24f4, s24f5, s24f21, s24f22, hb28]; first | (rw [wr_id] <;> omega) | rfl
           simp only [qq, Nat.reduceBEq, reduceIte, Nat.reduceEqDiff, Nat.reduceAdd, Nat.reduceLeDiff, reduceCtorEq, Nat.reduceMul, Int.reduceToNat, hb6, hb9, hb15, s24t6, s24t23, s24f4, s24f5, s24f21, s24f22, hb28]
           refine aops_orunN 1 _ _ ?_
           simp only [qq, Nat.reduceBEq, reduceIte, Nat.reduceEqDiff, Nat.reduceAdd, Nat.reduceLeDiff, reduceCtorEq, Nat.reduceMul, Int.reduceToNat, hb6, hb9, hb15, s24t6, s24t23, s24f4, s24f5, s24f21, s24f22, hb28]
           refine aops_nil (hL34 _ ?_)
           simp only [qq, Nat.reduceBEq, reduceIte, Nat.reduceEqDiff, Nat.reduceAdd, Nat.reduceLeDiff, reduceCtorEq, Nat.reduceMul, Int.reduceToNat, hb6, hb9, hb15, s24t6, s24t23, s24f4, s24f5, s24f21, s24f22, hb28]
           try simp only [rk_state]
           refine hK33 _ ?_
           refine awp_seq_k fun K36 hK36 => ?_
           refine awp_region_lit fun L37 hL37 => ?_
           refine aops_orunN 1 _ _ ?_
           simp only [qq, Nat.reduceBEq, reduceIte, Nat.reduceEqDiff, Nat.reduceAdd, Nat.reduceLeDiff, reduceCtorEq, Nat.reduceMul, Int.reduceToNat, hb6, hb9, hb15, s24t6, s24t23, s24f4, s24f5, s24f21, s24f22, hb28]
           refine aops_nil (hL37 _ ?_)
           simp only [qq, Nat.reduceBEq, reduceIte, Nat.reduceEqDiff, Nat.reduceAdd, Nat.reduceLeDiff, reduceCtorEq, Nat.reduceMul, Int.reduceToNat, hb6, hb9, hb15, s24t6, s24t23, s24f4, s24f5, s24f21, s24f22, hb28]
           try simp only [rk_state]
           refine hK36 _ ?_
           as_aux_lemma =>
            refine awp_cond (t := ?t38) ?h38 (fun hb38 => ?a38) (fun hb38 => ?b38)
            case h38 => simp only [qq, Nat.reduceBEq, reduceIte, Nat.reduceEqDiff, Nat.reduceAdd, Nat.reduceLeDiff, reduceCtorEq, Nat.reduceMul, Int.reduceToNat, hb6, hb9, hb15, s24t6, s24t23, s24f4, s24f5, s24f21, s24f22, hb28]; rfl
            case a38 =>
             have hp38 := hb38
             try simp only [kb] at hp38
             all_goals try exact absurd hb38 (by decide)
             all_goals try (exfalso; omega)
             all_goals
              refine awp_region_lit fun L39 hL39 => ?_
              refine aops_orunN 1 _ _ ?_
              simp only [qq, Nat.reduceBEq, reduceIte, Nat.reduceEqDiff, Nat.reduceAdd, Nat.reduceLeDiff, reduceCtorEq, Nat.reduceMul, Int.reduceToNat, hb6, hb9, hb15, s24t6, s24t23, s24f4, s24f5, s24f21, s24f22, hb28, hb38]
              refine aops_val (v := ?v40) rfl ?h40 ?_
              case h40 => simp only [qq, Nat.reduceBEq, reduceIte, Nat.reduceEqDiff, Nat.reduceAdd, Nat.reduceLeDiff, reduceCtorEq, Nat.reduceMul, Int.reduceToNat, hb6, hb9, hb15, s24t6, s24t23, s24f4, s24f5, s24f21, s24f22, hb28, hb38]; first | (rw [wr_id] <;> omega) | rfl
              simp only [qq, Nat.reduceBEq, reduceIte, Nat.reduceEqDiff, Nat.reduceAdd, Nat.reduceLeDiff, reduceCtorEq, Nat.reduceMul, Int.reduceToNat, hb6, hb9, hb15, s24t6, s24t23, s24f4, s24f5, s24f21, s24f22, hb28, hb38]
              refine aops_orunN 1 _ _ ?_
              simp only [qq, Nat.reduceBEq, reduceIte, Nat.reduceEqDiff, Nat.reduceAdd, Nat.reduceLeDiff, reduceCtorEq, Nat.reduceMul, Int.reduceToNat, hb6, hb9, hb15, s24t6, s24t23, s24f4, s24f5, s24f21, s24f22, hb28, hb38]
              refine aops_nil (hL39 _ ?_)
              simp only [qq, Nat.reduceBEq, reduceIte, Nat.reduceEqDiff, Nat.reduceAdd, Nat.reduceLeDiff, reduceCtorEq, Nat.reduceMul, Int.reduceToNat, hb6, hb9, hb15, s24t6, s24t23, s24f4, s24f5, s24f21, s24f22, hb28, hb38]
              try simp only [rk_state]
              try simp only [rk_state]
              refine hK29 _ ?_
              refine awp_region_lit fun L41 hL41 => ?_
              refine aops_val (v := ?v42) rfl ?h42 ?_
              case h42 => simp only [qq, Nat.reduceBEq, reduceIte, Nat.reduceEqDiff, Nat.reduceAdd, Nat.reduceLeDiff, reduceCtorEq, Nat.reduceMul, Int.reduceToNat, hb6, hb9, hb15, s24t6, s24t23, s24f4, s24f5, s24f21, s24f22, hb28, hb38]; first | (rw [wr_id] <;> omega) | rfl
              simp only [qq, Nat.reduceBEq, reduceIte, Nat.reduceEqDiff, Nat.reduceAdd, Nat.reduceLeDiff, reduceCtorEq, Nat.reduceMul, Int.reduceToNat, hb6, hb9, hb15, s24t6, s24t23, s24f4, s24f5, s24f21, s24f22, hb28, hb38]
              refine aops_orunN 1 _ _ ?_
              simp only [qq, Nat.reduceBEq, reduceIte, Nat.reduceEqDiff, Nat.reduceAdd, Nat.reduceLeDiff, reduceCtorEq, Nat.reduceMul, Int.reduceToNat, hb6, hb9, hb15, s24t6, s24t23, s24f4, s24f5, s24f21, s24f22, hb28, hb38]
              refine aops_nil (hL41 _ ?_)
              simp only [qq, Nat.reduceBEq, reduceIte, Nat.reduceEqDiff, Nat.reduceAdd, Nat.reduceLeDiff, reduceCtorEq, Nat.reduceMul, Int.reduceToNat, hb6, hb9, hb15, s24t6, s24t23, s24f4, s24f5, s24f21, s24f22, hb28, hb38]
              try simp only [rk_state]
              have sn := val_next (l := l.take w.toNat) (i := i) (by omega)
              refine hK24 _ ((fun (i : Nat) => w.toNat - i) (i + 1)) ?_ ⟨i + 1, rfl, ?_, ?_, ?_⟩
              · (try simp only []); omega
              · first | omega | simp
              · (try simp only [qq, Nat.reduceBEq, reduceIte, Nat.reduceEqDiff, Nat.reduceAdd, Nat.reduceLeDiff, reduceCtorEq, Nat.reduceMul, Int.reduceToNat, hb6, hb9, hb15, s24t6, s24t23, s24f4, s24f5, s24f21, s24f22, hb28, hb38, sn])
                all_goals first | done | rfl | (simp only [AV.c.injEq, C.int.injEq, sn, true_and]; simp_all; done) | (simp only [AV.c.injEq, C.int.injEq, sn, true_and]; simp_all; omega)
              · (try simp only [qq, Nat.reduceBEq, reduceIte, Nat.reduceEqDiff, Nat.reduceAdd, Nat.reduceLeDiff, reduceCtorEq, Nat.reduceMul, Int.reduceToNat, hb6, hb9, hb15, s24t6, s24t23, s24f4, s24f5, s24f21, s24f22, hb28, hb38, sn])
                all_goals (first | done | rfl | (simp only [AV.c.injEq, C.int.injEq, List.cons.injEq, and_true, true_and]; omega))
            case b38 =>
             have hp38 := hb38
             try simp only [kb] at hp38
             all_goals try exact absurd hb38 (by decide)
             all_goals try (exfalso; omega)
             all_goals
              refine awp_skip ?_
              try simp only [rk_state]
              try simp only [rk_state]
              refine hK29 _ ?_
              refine awp_region_lit fun L43 hL43 => ?_
              refine aops_val (v := ?v44) rfl ?h44 ?_
              case h44 => simp only [qq, Nat.reduceBEq, reduceIte, Nat.reduceEqDiff, Nat.reduceAdd, Nat.reduceLeDiff, reduceCtorEq, Nat.reduceMul, Int.reduceToNat, hb6, hb9, hb15, s24t6, s24t23, s24f4, s24f5, s24f21, s24f22, hb28, hb38]; first | (rw [wr_id] <;> omega) | rfl
              simp only [qq, Nat.reduceBEq, reduceIte, Nat.reduceEqDiff, Nat.reduceAdd, Nat.reduceLeDiff, reduceCtorEq, Nat.reduceMul, Int.reduceToNat, hb6, hb9, hb15, s24t6, s24t23, s24f4, s24f5, s24f21, s24f22, hb28, hb38]
              refine aops_orunN 1 _ _ ?_
              simp only [qq, Nat.reduceBEq, reduceIte, Nat.reduceEqDiff, Nat.reduceAdd, Nat.reduceLeDiff, reduceCtorEq, Nat.reduceMul, Int.reduceToNat, hb6, hb9, hb15, s24t6, s24t23, s24f4, s24f5, s24f21, s24f22, hb28, hb38]
              refine aops_nil (hL43 _ ?_)
              simp only [qq, Nat.reduceBEq, reduceIte, Nat.reduceEqDiff, Nat.reduceAdd, Nat.reduceLeDiff, reduceCtorEq, Nat.reduceMul, Int.reduceToNat, hb6, hb9, hb15, s24t6, s24t23, s24f4, s24f5, s24f21, s24f22, hb28, hb38]
              try simp only [rk_state]
              have sn := val_next (l := l.take w.toNat) (i := i) (by omega)
              refine hK24 _ ((fun (i : Nat) => w.toNat - i) (i + 1)) ?_ ⟨i + 1, rfl, ?_, ?_, ?_⟩
              · (try simp only []); omega
              · first | omega | simp
              · (try simp only [qq, Nat.reduceBEq, reduceIte, Nat.reduceEqDiff, Nat.reduceAdd, Nat.reduceLeDiff, reduceCtorEq, Nat.reduceMul, Int.reduceToNat, hb6, hb9, hb15, s24t6, s24t23, s24f4, s24f5, s24f21, s24f22, hb28, hb38, sn])
                all_goals first | done | rfl | (simp only [AV.c.injEq, C.int.injEq, sn, true_and]; simp_all; done) | (simp only [AV.c.injEq, C.int.injEq, sn, true_and]; simp_all; omega)
              · (try simp only [qq, Nat.reduceBEq, reduceIte, Nat.reduceEqDiff, Nat.reduceAdd, Nat.reduceLeDiff, reduceCtorEq, Nat.reduceMul, Int.reduceToNat, hb6, hb9, hb15, s24t6, s24t23, s24f4, s24f5, s24f21, s24f22, hb28, hb38, sn])
                all_goals (first | done | rfl | (simp only [AV.c.injEq, C.int.injEq, List.cons.injEq, and_true, true_and]; omega))
         case b28 =>
          have hp28 := hb28
          try simp only [kb] at hp28
          all_goals try exact absurd hb28 (by decide)
          all_goals try (exfalso; omega)
          all_goals
           refine awp_exit ?_
           simp only [rk_state, reduceIte, Nat.reduceEqDiff]
           try simp only [rk_state]
           refine hK20 _ ?_
           as_aux_lemma =>
            refine awp_seq_k fun K45 hK45 => ?_
            refine awp_region_lit fun L46 hL46 => ?_
            refine aops_orunN 3 _ _ ?_
            simp only [qq, Nat.reduceBEq, reduceIte, Nat.reduceEqDiff, Nat.reduceAdd, Nat.reduceLeDiff, reduceCtorEq, Nat.reduceMul, Int.reduceToNat, hb6, hb9, hb15, s24t6, s24t23, s24f4, s24f5, s24f21, s24f22, hb28]
            refine aops_nil (hL46 _ ?_)
            simp only [qq, Nat.reduceBEq, reduceIte, Nat.reduceEqDiff, Nat.reduceAdd, Nat.reduceLeDiff, reduceCtorEq, Nat.reduceMul, Int.reduceToNat, hb6, hb9, hb15, s24t6, s24t23, s24f4, s24f5, s24f21, s24f22, hb28]
            try simp only [rk_state]
            refine hK45 _ ?_
            refine awp_ret ?_
            try simp only [rk_state]
            refine ⟨_, 0, by simp only [qq, Nat.reduceBEq, reduceIte, Nat.reduceEqDiff, Nat.reduceAdd, Nat.reduceLeDiff, reduceCtorEq, Nat.reduceMul, Int.reduceToNat, resA, Try.results94, hb6, hb9, hb15, s24t6, s24t23, s24f4, s24f5, s24f21, s24f22, hb28]; rfl, ?_, fun l hl => absurd rfl hl, fun l hl => absurd rfl hl⟩
            simp only [packA]
            (repeat' (first | exact .nil | exact wkR_c | exact wkR_own | exact wkR_nils | refine wkR_int ?_ | refine wkR_bool ?_ | refine wkR_sl ?_ | refine wkR_osl ?_ | refine wkR_nsl ?_ | refine wkR_oo ?_ | refine wkR_no ?_ | refine .cons ?_ ?_ | refine wkR_agg ?_ | refine wkR_tup ?_)) <;> (unfold readR; first | (rw [if_pos (by omega)]; done) | (rw [if_neg (by omega), if_pos (by omega)]; done) | (rw [if_neg (by omega), if_neg (by omega)]; first | done | (rw [List.take_of_length_le (by omega)])))
set_option maxHeartbeats 4000000 in
set_option maxRecDepth 50000 in
theorem take_fun (l : List Bool) (w : Int) (hl : l.length ≤ 140737488355328) : Fun Try.prog 33 [.c (.sl 4 (Rw boC l)), .c (.int .i64 w)] nomem (.tup [.c (.int .i64 (takeR l w).1), .own false 0 4 (Rw boC (takeR l w).2.1), .c (.int .i64 (takeR l w).2.2)]) nomem := by
 refine fun_of_awp Try.func33 rfl (by decide +kernel) (by decide +kernel) (Nat.le_of_ble_eq_true rfl) (fun _ _ => rfl) (fun _ _ => rfl) ?_
 refine awp_seq_k fun K1 hK1 => ?_
 refine awp_region_lit fun L2 hL2 => ?_
 refine aops_orunN 3 _ _ ?_
 simp only [qq, Nat.reduceBEq, reduceIte, Nat.reduceEqDiff, Nat.reduceAdd, Nat.reduceLeDiff, reduceCtorEq, Nat.reduceMul, Int.reduceToNat]
 refine aops_nil (hL2 _ ?_)
 simp only [qq, Nat.reduceBEq, reduceIte, Nat.reduceEqDiff, Nat.reduceAdd, Nat.reduceLeDiff, reduceCtorEq, Nat.reduceMul, Int.reduceToNat]
 try simp only [rk_state]
 refine hK1 _ ?_
 refine awp_seq_k fun K3 hK3 => ?_
 refine awp_region_lit fun L4 hL4 => ?_
 refine aops_orunN 2 _ _ ?_
 simp only [qq, Nat.reduceBEq, reduceIte, Nat.reduceEqDiff, Nat.reduceAdd, Nat.reduceLeDiff, reduceCtorEq, Nat.reduceMul, Int.reduceToNat]
 refine aops_call (read_fun _ _) rfl rfl rfl rfl (by (try simp only [qq, Nat.reduceBEq, reduceIte, Nat.reduceEqDiff, Nat.reduceAdd, Nat.reduceLeDiff, reduceCtorEq, Nat.reduceMul, Int.reduceToNat]); (repeat' (first | exact .nil | exact wk_c | exact wk_ownc | exact wk_nilsc | exact wk_nils | exact wk_fn | refine .cons ?_ ?_ | refine wk_agg ?_ | refine wk_fnL ?_))) rfl rfl ?_
 simp only [qq, Nat.reduceBEq, reduceIte, Nat.reduceEqDiff, Nat.reduceAdd, Nat.reduceLeDiff, reduceCtorEq, Nat.reduceMul, Int.reduceToNat]
 refine aops_orunN 5 _ _ ?_
 simp only [qq, Nat.reduceBEq, reduceIte, Nat.reduceEqDiff, Nat.reduceAdd, Nat.reduceLeDiff, reduceCtorEq, Nat.reduceMul, Int.reduceToNat]
 refine aops_nil (hL4 _ ?_)
 simp only [qq, Nat.reduceBEq, reduceIte, Nat.reduceEqDiff, Nat.reduceAdd, Nat.reduceLeDiff, reduceCtorEq, Nat.reduceMul, Int.reduceToNat]
 try simp only [rk_state]
 refine hK3 _ ?_
 refine awp_seq_k fun K6 hK6 => ?_
 refine awp_seq_k fun K7 hK7 => ?_
 refine awp_region_lit fun L8 hL8 => ?_
 refine aops_orunN 2 _ _ ?_
 simp only [qq, Nat.reduceBEq, reduceIte, Nat.reduceEqDiff, Nat.reduceAdd, Nat.reduceLeDiff, reduceCtorEq, Nat.reduceMul, Int.reduceToNat]
 refine aops_nil (hL8 _ ?_)
 simp only [qq, Nat.reduceBEq, reduceIte, Nat.reduceEqDiff, Nat.reduceAdd, Nat.reduceLeDiff, reduceCtorEq, Nat.reduceMul, Int.reduceToNat]
 try simp only [rk_state]
 refine hK7 _ ?_
 as_aux_lemma =>
  refine awp_cond (t := ?t9) ?h9 (fun hb9 => ?a9) (fun hb9 => ?b9)
  case h9 => simp only [qq, Nat.reduceBEq, reduceIte, Nat.reduceEqDiff, Nat.reduceAdd, Nat.reduceLeDiff, reduceCtorEq, Nat.reduceMul, Int.reduceToNat]; rfl
  case a9 =>
   have hp9 := hb9
   try simp only [kb] at hp9
   all_goals try exact absurd hb9 (by decide)
   all_goals try (exfalso; omega)
   all_goals
    refine awp_seq_k fun K10 hK10 => ?_
    refine awp_region_lit fun L11 hL11 => ?_
    refine aops_orunN 4 _ _ ?_
    simp only [qq, Nat.reduceBEq, reduceIte, Nat.reduceEqDiff, Nat.reduceAdd, Nat.reduceLeDiff, reduceCtorEq, Nat.reduceMul, Int.reduceToNat, hb9]
    refine aops_nil (hL11 _ ?_)
    simp only [qq, Nat.reduceBEq, reduceIte, Nat.reduceEqDiff, Nat.reduceAdd, Nat.reduceLeDiff, reduceCtorEq, Nat.reduceMul, Int.reduceToNat, hb9]
    try simp only [rk_state]
    refine hK10 _ ?_
    refine awp_ret ?_
    try simp only [rk_state]
    first | refine ⟨_, 22, by simp only [qq, Nat.reduceBEq, reduceIte, Nat.reduceEqDiff, Nat.reduceAdd, Nat.reduceLeDiff, reduceCtorEq, Nat.reduceMul, Int.reduceToNat, resA, Try.results33, hb9]; rfl, ?_, fun l hl => absurd rfl hl, fun l hl => absurd rfl hl⟩ | refine ⟨_, 0, by simp only [qq, Nat.reduceBEq, reduceIte, Nat.reduceEqDiff, Nat.reduceAdd, Nat.reduceLeDiff, reduceCtorEq, Nat.reduceMul, Int.reduceToNat, resA, Try.results33, hb9]; rfl, ?_, fun l hl => absurd rfl hl, fun l hl => absurd rfl hl⟩
    simp only [packA]
    rw [takeR_eq]; (repeat' (first | exact .nil | exact wkR_c | exact wkR_own | exact wkR_nils | refine wkR_int ?_ | refine wkR_bool ?_ | refine wkR_sl ?_ | refine wkR_osl ?_ | refine wkR_nsl ?_ | refine wkR_oo ?_ | refine wkR_no ?_ | refine .cons ?_ ?_ | refine wkR_agg ?_ | refine wkR_tup ?_)) <;> first | done | rfl | omega | (rw [readR_bad (by omega)]; done) | (rw [if_neg (by omega)]; exact rfl) | (rw [if_neg (by omega)]; done) | (rw [if_pos (by omega)]; done) | simp_all
  case b9 =>
   have hp9 := hb9
   try simp only [kb] at hp9
   all_goals try exact absurd hb9 (by decide)
   all_goals try (exfalso; omega)
   all_goals
    refine awp_skip ?_
    try simp only [rk_state]
    refine hK6 _ ?_
    refine awp_seq_k fun K12 hK12 => ?_
    have hro := readR_ok (l := l) (w := w) (by omega)
    refine awp_region_lit fun L13 hL13 => ?_
    refine aops_orunN 3 _ _ ?_
    simp only [qq, Nat.reduceBEq, reduceIte, Nat.reduceEqDiff, Nat.reduceAdd, Nat.reduceLeDiff, reduceCtorEq, Nat.reduceMul, Int.reduceToNat, hb9]
    refine aops_val (v := ?v14) rfl ?h14 ?_
    case h14 => simp only [qq, Nat.reduceBEq, reduceIte, Nat.reduceEqDiff, Nat.reduceAdd, Nat.reduceLeDiff, reduceCtorEq, Nat.reduceMul, Int.reduceToNat, hb9]; first | (rw [slc_l un36 if4] <;> omega) | (rw [slc_lo un36 if4] <;> omega)
    simp only [qq, Nat.reduceBEq, reduceIte, Nat.reduceEqDiff, Nat.reduceAdd, Nat.reduceLeDiff, reduceCtorEq, Nat.reduceMul, Int.reduceToNat, hb9]
    refine aops_call_own (clone_bool_fun _ ?s15_0) rfl rfl rfl rfl (by (try simp only [qq, Nat.reduceBEq, reduceIte, Nat.reduceEqDiff, Nat.reduceAdd, Nat.reduceLeDiff, reduceCtorEq, Nat.reduceMul, Int.reduceToNat, hb9]); (repeat' (first | exact .nil | exact wk_c | exact wk_ownc | exact wk_nilsc | exact wk_nils | exact wk_fn | refine .cons ?_ ?_ | refine wk_agg ?_ | refine wk_fnL ?_))) rfl rfl rfl (by simp only [qq, Nat.reduceBEq, reduceIte, Nat.reduceEqDiff, Nat.reduceAdd, Nat.reduceLeDiff, reduceCtorEq, Nat.reduceMul, Int.reduceToNat, hb9]) ?m15
    case s15_0 => first | assumption | omega | decide +kernel | (simp only [List.length_take, List.length_drop]; omega)
    simp only [qq, Nat.reduceBEq, reduceIte, Nat.reduceEqDiff, Nat.reduceAdd, Nat.reduceLeDiff, reduceCtorEq, Nat.reduceMul, Int.reduceToNat, AV.setOwn, AV.setOwn1, hb9]
    refine aops_orunN 3 _ _ ?_
    simp only [qq, Nat.reduceBEq, reduceIte, Nat.reduceEqDiff, Nat.reduceAdd, Nat.reduceLeDiff, reduceCtorEq, Nat.reduceMul, Int.reduceToNat, hb9]
    refine aops_nil (hL13 _ ?_)
    simp only [qq, Nat.reduceBEq, reduceIte, Nat.reduceEqDiff, Nat.reduceAdd, Nat.reduceLeDiff, reduceCtorEq, Nat.reduceMul, Int.reduceToNat, hb9]
    try simp only [rk_state]
    refine hK12 _ ?_
    refine awp_ret ?_
    try simp only [rk_state]
    first | refine ⟨_, 22, by simp only [qq, Nat.reduceBEq, reduceIte, Nat.reduceEqDiff, Nat.reduceAdd, Nat.reduceLeDiff, reduceCtorEq, Nat.reduceMul, Int.reduceToNat, resA, Try.results33, hb9]; rfl, ?_, fun l hl => absurd rfl hl, fun l hl => absurd rfl hl⟩ | refine ⟨_, 0, by simp only [qq, Nat.reduceBEq, reduceIte, Nat.reduceEqDiff, Nat.reduceAdd, Nat.reduceLeDiff, reduceCtorEq, Nat.reduceMul, Int.reduceToNat, resA, Try.results33, hb9]; rfl, ?_, fun l hl => absurd rfl hl, fun l hl => absurd rfl hl⟩
    simp only [packA]
    rw [takeR_eq]; (repeat' (first | exact .nil | exact wkR_c | exact wkR_own | exact wkR_nils | refine wkR_int ?_ | refine wkR_bool ?_ | refine wkR_sl ?_ | refine wkR_osl ?_ | refine wkR_nsl ?_ | refine wkR_oo ?_ | refine wkR_no ?_ | refine .cons ?_ ?_ | refine wkR_agg ?_ | refine wkR_tup ?_)) <;> first | done | rfl | omega | (rw [readR_bad (by omega)]; done) | (rw [if_neg (by omega)]; exact rfl) | (rw [if_neg (by omega)]; done) | (rw [if_pos (by omega)]; done) | simp_all
set_option maxHeartbeats 4000000 in
set_option maxRecDepth 50000 in
theorem taken_fun (l : List Bool) (w : Int) : Fun Try.prog 35 [.c (.sl 4 (Rw boC l)), .c (.int .i64 w)] nomem (.tup [.c (.int .i64 (takeR l w).1), .c (.sl 4 (Rw boC (takeR l w).2.1)), .c (.int .i64 (takeR l w).2.2)]) nomem := by
 refine fun_of_awp Try.func35 rfl (by decide +kernel) (by decide +kernel) (Nat.le_of_ble_eq_true rfl) (fun _ _ => rfl) (fun _ _ => rfl) ?_
 refine awp_seq_k fun K1 hK1 => ?_
 refine awp_region_lit fun L2 hL2 => ?_
 refine aops_orunN 3 _ _ ?_
 simp only [qq, Nat.reduceBEq, reduceIte, Nat.reduceEqDiff, Nat.reduceAdd, Nat.reduceLeDiff, reduceCtorEq, Nat.reduceMul, Int.reduceToNat]
 refine aops_nil (hL2 _ ?_)
 simp only [qq, Nat.reduceBEq, reduceIte, Nat.reduceEqDiff, Nat.reduceAdd, Nat.reduceLeDiff, reduceCtorEq, Nat.reduceMul, Int.reduceToNat]
 try simp only [rk_state]
 refine hK1 _ ?_
 refine awp_seq_k fun K3 hK3 => ?_
 refine awp_seq_k fun K4 hK4 => ?_
 refine awp_region_lit fun L5 hL5 => ?_
 refine aops_orunN 1 _ _ ?_
 simp only [qq, Nat.reduceBEq, reduceIte, Nat.reduceEqDiff, Nat.reduceAdd, Nat.reduceLeDiff, reduceCtorEq, Nat.reduceMul, Int.reduceToNat]
 refine aops_call (in_fun _ _ _) rfl rfl rfl rfl (by (try simp only [qq, Nat.reduceBEq, reduceIte, Nat.reduceEqDiff, Nat.reduceAdd, Nat.reduceLeDiff, reduceCtorEq, Nat.reduceMul, Int.reduceToNat]); (repeat' (first | exact .nil | exact wk_c | exact wk_ownc | exact wk_nilsc | exact wk_nils | exact wk_fn | refine .cons ?_ ?_ | refine wk_agg ?_ | refine wk_fnL ?_))) rfl rfl ?_
 simp only [qq, Nat.reduceBEq, reduceIte, Nat.reduceEqDiff, Nat.reduceAdd, Nat.reduceLeDiff, reduceCtorEq, Nat.reduceMul, Int.reduceToNat]
 refine aops_orunN 1 _ _ ?_
 simp only [qq, Nat.reduceBEq, reduceIte, Nat.reduceEqDiff, Nat.reduceAdd, Nat.reduceLeDiff, reduceCtorEq, Nat.reduceMul, Int.reduceToNat]
 refine aops_nil (hL5 _ ?_)
 simp only [qq, Nat.reduceBEq, reduceIte, Nat.reduceEqDiff, Nat.reduceAdd, Nat.reduceLeDiff, reduceCtorEq, Nat.reduceMul, Int.reduceToNat]
 try simp only [rk_state]
 refine hK4 _ ?_
 refine awp_cond (t := ?t7) ?h7 (fun hb7 => ?a7) (fun hb7 => ?b7)
 case h7 => simp only [qq, Nat.reduceBEq, reduceIte, Nat.reduceEqDiff, Nat.reduceAdd, Nat.reduceLeDiff, reduceCtorEq, Nat.reduceMul, Int.reduceToNat]; rfl
 case a7 =>
  have hp7 := hb7
  try simp only [kb] at hp7
  all_goals try exact absurd hb7 (by decide)
  all_goals try (exfalso; omega)
  all_goals
   refine awp_seq_k fun K8 hK8 => ?_
   refine awp_region_lit fun L9 hL9 => ?_
   refine aops_orunN 3 _ _ ?_
   simp only [qq, Nat.reduceBEq, reduceIte, Nat.reduceEqDiff, Nat.reduceAdd, Nat.reduceLeDiff, reduceCtorEq, Nat.reduceMul, Int.reduceToNat, hb7]
   refine aops_nil (hL9 _ ?_)
   simp only [qq, Nat.reduceBEq, reduceIte, Nat.reduceEqDiff, Nat.reduceAdd, Nat.reduceLeDiff, reduceCtorEq, Nat.reduceMul, Int.reduceToNat, hb7]
   try simp only [rk_state]
   refine hK8 _ ?_
   as_aux_lemma =>
    refine awp_ret ?_
    try simp only [rk_state]
    refine ⟨_, 0, by simp only [qq, Nat.reduceBEq, reduceIte, Nat.reduceEqDiff, Nat.reduceAdd, Nat.reduceLeDiff, reduceCtorEq, Nat.reduceMul, Int.reduceToNat, resA, Try.results35, hb7]; rfl, ?_, fun l hl => absurd rfl hl, fun l hl => absurd rfl hl⟩
    simp only [packA]
    unfold takeR; first | (rw [if_pos (by omega)]; (repeat' (first | exact .nil | exact wkR_c | exact wkR_own | exact wkR_nils | refine wkR_int ?_ | refine wkR_bool ?_ | refine wkR_sl ?_ | refine wkR_osl ?_ | refine wkR_nsl ?_ | refine wkR_oo ?_ | refine wkR_no ?_ | refine .cons ?_ ?_ | refine wkR_agg ?_ | refine wkR_tup ?_)) <;> rfl) | (rw [if_neg (by omega), if_pos (by omega)]; (repeat' (first | exact .nil | exact wkR_c | exact wkR_own | exact wkR_nils | refine wkR_int ?_ | refine wkR_bool ?_ | refine wkR_sl ?_ | refine wkR_osl ?_ | refine wkR_nsl ?_ | refine wkR_oo ?_ | refine wkR_no ?_ | refine .cons ?_ ?_ | refine wkR_agg ?_ | refine wkR_tup ?_)) <;> rfl) | (have ej : (j : Int) = w := by omega); (rw [if_neg (by omega), if_neg (by omega)]); (repeat' (first | exact .nil | exact wkR_c | exact wkR_own | exact wkR_nils | refine wkR_int ?_ | refine wkR_bool ?_ | refine wkR_sl ?_ | refine wkR_osl ?_ | refine wkR_nsl ?_ | refine wkR_oo ?_ | refine wkR_no ?_ | refine .cons ?_ ?_ | refine wkR_agg ?_ | refine wkR_tup ?_)) <;> first | done | (rw [show (l.take w.toNat).length - j = 0 from by omega, List.drop_zero])
 case b7 =>
  have hp7 := hb7
  try simp only [kb] at hp7
  all_goals try exact absurd hb7 (by decide)
  all_goals try (exfalso; omega)
  all_goals
   refine awp_skip ?_
   try simp only [rk_state]
   refine hK3 _ ?_
   refine awp_seq_k fun K10 hK10 => ?_
   refine awp_seq_k fun K11 hK11 => ?_
   refine awp_region_lit fun L12 hL12 => ?_
   refine aops_orunN 4 _ _ ?_
   simp only [qq, Nat.reduceBEq, reduceIte, Nat.reduceEqDiff, Nat.reduceAdd, Nat.reduceLeDiff, reduceCtorEq, Nat.reduceMul, Int.reduceToNat, hb7]
   refine aops_nil (hL12 _ ?_)
   simp only [qq, Nat.reduceBEq, reduceIte, Nat.reduceEqDiff, Nat.reduceAdd, Nat.reduceLeDiff, reduceCtorEq, Nat.reduceMul, Int.reduceToNat, hb7]
   try simp only [rk_state]
   refine hK11 _ ?_
   refine awp_cond (t := ?t13) ?h13 (fun hb13 => ?a13) (fun hb13 => ?b13)
   case h13 => simp only [qq, Nat.reduceBEq, reduceIte, Nat.reduceEqDiff, Nat.reduceAdd, Nat.reduceLeDiff, reduceCtorEq, Nat.reduceMul, Int.reduceToNat, hb7]; rfl
   case a13 =>
    have hp13 := hb13
    try simp only [kb] at hp13
    all_goals try exact absurd hb13 (by decide)
    all_goals try (exfalso; omega)
    all_goals
     refine awp_seq_k fun K14 hK14 => ?_
     refine awp_region_lit fun L15 hL15 => ?_
     refine aops_orunN 3 _ _ ?_
     simp only [qq, Nat.reduceBEq, reduceIte, Nat.reduceEqDiff, Nat.reduceAdd, Nat.reduceLeDiff, reduceCtorEq, Nat.reduceMul, Int.reduceToNat, hb7, hb13]
     refine aops_nil (hL15 _ ?_)
     simp only [qq, Nat.reduceBEq, reduceIte, Nat.reduceEqDiff, Nat.reduceAdd, Nat.reduceLeDiff, reduceCtorEq, Nat.reduceMul, Int.reduceToNat, hb7, hb13]
     try simp only [rk_state]
     refine hK14 _ ?_
     refine awp_ret ?_
     try simp only [rk_state]
     refine ⟨_, 0, by simp only [qq, Nat.reduceBEq, reduceIte, Nat.reduceEqDiff, Nat.reduceAdd, Nat.reduceLeDiff, reduceCtorEq, Nat.reduceMul, Int.reduceToNat, resA, Try.results35, hb7, hb13]; rfl, ?_, fun l hl => absurd rfl hl, fun l hl => absurd rfl hl⟩
     simp only [packA]
     unfold takeR; first | (rw [if_pos (by omega)]; (repeat' (first | exact .nil | exact wkR_c | exact wkR_own | exact wkR_nils | refine wkR_int ?_ | refine wkR_bool ?_ | refine wkR_sl ?_ | refine wkR_osl ?_ | refine wkR_nsl ?_ | refine wkR_oo ?_ | refine wkR_no ?_ | refine .cons ?_ ?_ | refine wkR_agg ?_ | refine wkR_tup ?_)) <;> rfl) | (rw [if_neg (by omega), if_pos (by omega)]; (repeat' (first | exact .nil | exact wkR_c | exact wkR_own | exact wkR_nils | refine wkR_int ?_ | refine wkR_bool ?_ | refine wkR_sl ?_ | refine wkR_osl ?_ | refine wkR_nsl ?_ | refine wkR_oo ?_ | refine wkR_no ?_ | refine .cons ?_ ?_ | refine wkR_agg ?_ | refine wkR_tup ?_)) <;> rfl) | (have ej : (j : Int) = w := by omega); (rw [if_neg (by omega), if_neg (by omega)]); (repeat' (first | exact .nil | exact wkR_c | exact wkR_own | exact wkR_nils | refine wkR_int ?_ | refine wkR_bool ?_ | refine wkR_sl ?_ | refine wkR_osl ?_ | refine wkR_nsl ?_ | refine wkR_oo ?_ | refine wkR_no ?_ | refine .cons ?_ ?_ | refine wkR_agg ?_ | refine wkR_tup ?_)) <;> first | done | (rw [show (l.take w.toNat).length - j = 0 from by omega, List.drop_zero])
   case b13 =>
    have hp13 := hb13
    try simp only [kb] at hp13
    all_goals try exact absurd hb13 (by decide)
    all_goals try (exfalso; omega)
    all_goals
     refine awp_skip ?_
     try simp only [rk_state]
     refine hK10 _ ?_
     refine awp_seq_k fun K16 hK16 => ?_
     refine awp_region_lit fun L17 hL17 => ?_
     refine aops_orunN 2 _ _ ?_
     simp only [qq, Nat.reduceBEq, reduceIte, Nat.reduceEqDiff, Nat.reduceAdd, Nat.reduceLeDiff, reduceCtorEq, Nat.reduceMul, Int.reduceToNat, hb7, hb13]
     refine aops_nil (hL17 _ ?_)
     simp only [qq, Nat.reduceBEq, reduceIte, Nat.reduceEqDiff, Nat.reduceAdd, Nat.reduceLeDiff, reduceCtorEq, Nat.reduceMul, Int.reduceToNat, hb7, hb13]
     try simp only [rk_state]
     refine hK16 _ ?_
     as_aux_lemma =>
      refine awp_seq_k fun K18 hK18 => ?_
      refine awp_seq_k fun K19 hK19 => ?_
      have hk : (l.take w.toNat).length = w.toNat := by rw [List.length_take]; omega
      refine awp_region_lit fun L20 hL20 => ?_
      refine aops_orunN 1 _ _ ?_
      simp only [qq, Nat.reduceBEq, reduceIte, Nat.reduceEqDiff, Nat.reduceAdd, Nat.reduceLeDiff, reduceCtorEq, Nat.reduceMul, Int.reduceToNat, hb7, hb13]
      refine aops_val (v := ?v21) rfl ?h21 ?_
      case h21 => simp only [qq, Nat.reduceBEq, reduceIte, Nat.reduceEqDiff, Nat.reduceAdd, Nat.reduceLeDiff, reduceCtorEq, Nat.reduceMul, Int.reduceToNat, hb7, hb13]; first | (rw [wr_id] <;> omega) | rfl
      simp only [qq, Nat.reduceBEq, reduceIte, Nat.reduceEqDiff, Nat.reduceAdd, Nat.reduceLeDiff, reduceCtorEq, Nat.reduceMul, Int.reduceToNat, hb7, hb13]
      refine aops_orunN 1 _ _ ?_
      simp only [qq, Nat.reduceBEq, reduceIte, Nat.reduceEqDiff, Nat.reduceAdd, Nat.reduceLeDiff, reduceCtorEq, Nat.reduceMul, Int.reduceToNat, hb7, hb13]
      refine aops_nil (hL20 _ ?_)
      simp only [qq, Nat.reduceBEq, reduceIte, Nat.reduceEqDiff, Nat.reduceAdd, Nat.reduceLeDiff, reduceCtorEq, Nat.reduceMul, Int.reduceToNat, hb7, hb13]
      try simp only [rk_state]
      refine hK19 _ ?_
      refine awp_block ?_
      refine awp_loopW (W := [19, 20, 23, 24, 25, 26, 27, 28, 29, 7, 30, 31, 8, 21, 22, 9]) (M := []) rfl rfl (fun k s => ∃ (j : Nat), k = w.toNat - j ∧ (j ≤ w.toNat) ∧ s.t 7 = .c (.int .i64 (val ((l.take w.toNat).drop ((l.take w.toNat).length - j)))) ∧ s.t 8 = .c (.int .i64 (2 ^ j)) ∧ s.t 9 = .c (.int .i64 (w - 1 - (j : Int)))) ((fun (j : Nat) => w.toNat - j) (0)) ?i22 ?r22
      case i22 =>
       refine ⟨0, rfl, ?_, ?_, ?_, ?_⟩
       · first | omega | simp
       · (try simp only [qq, Nat.reduceBEq, reduceIte, Nat.reduceEqDiff, Nat.reduceAdd, Nat.reduceLeDiff, reduceCtorEq, Nat.reduceMul, Int.reduceToNat, hb7, hb13])
         all_goals (simp only [Nat.sub_zero]; rw [List.drop_of_length_le (Nat.le_refl _)]; rfl)
       · (try simp only [qq, Nat.reduceBEq, reduceIte, Nat.reduceEqDiff, Nat.reduceAdd, Nat.reduceLeDiff, reduceCtorEq, Nat.reduceMul, Int.reduceToNat, hb7, hb13])
         all_goals simp
       · (try simp only [qq, Nat.reduceBEq, reduceIte, Nat.reduceEqDiff, Nat.reduceAdd, Nat.reduceLeDiff, reduceCtorEq, Nat.reduceMul, Int.reduceToNat, hb7, hb13])
         all_goals (first | done | rfl | (simp only [AV.c.injEq, C.int.injEq, List.cons.injEq, and_true, true_and]; omega))
      case r22 =>
       rintro k s hf ⟨j, rfl, hq7_0, s22t7, s22t8, s22t9⟩ K22 hK22
       have s22f0 := hf 0 rfl (by (try simp only [qq, Nat.reduceBEq, reduceIte, Nat.reduceEqDiff, Nat.reduceAdd, Nat.reduceLeDiff, reduceCtorEq, Nat.reduceMul, Int.reduceToNat, kn, hb7, hb13]); all_goals rfl)
       simp only [qq, Nat.reduceBEq, reduceIte, Nat.reduceEqDiff, Nat.reduceAdd, Nat.reduceLeDiff, reduceCtorEq, Nat.reduceMul, Int.reduceToNat, hb7, hb13] at s22f0
       have s22f1 := hf 1 rfl (by (try simp only [qq, Nat.reduceBEq, reduceIte, Nat.reduceEqDiff, Nat.reduceAdd, Nat.reduceLeDiff, reduceCtorEq, Nat.reduceMul, Int.reduceToNat, kn, hb7, hb13]); all_goals rfl)
       simp only [qq, Nat.reduceBEq, reduceIte, Nat.reduceEqDiff, Nat.reduceAdd, Nat.reduceLeDiff, reduceCtorEq, Nat.reduceMul, Int.reduceToNat, hb7, hb13] at s22f1
       have s22f4 := hf 4 rfl (by (try simp only [qq, Nat.reduceBEq, reduceIte, Nat.reduceEqDiff, Nat.reduceAdd, Nat.reduceLeDiff, reduceCtorEq, Nat.reduceMul, Int.reduceToNat, kn, hb7, hb13]); all_goals rfl)
       simp only [qq, Nat.reduceBEq, reduceIte, Nat.reduceEqDiff, Nat.reduceAdd, Nat.reduceLeDiff, reduceCtorEq, Nat.reduceMul, Int.reduceToNat, hb7, hb13] at s22f4
       have s22f5 := hf 5 rfl (by (try simp only [qq, Nat.reduceBEq, reduceIte, Nat.reduceEqDiff, Nat.reduceAdd, Nat.reduceLeDiff, reduceCtorEq, Nat.reduceMul, Int.reduceToNat, kn, hb7, hb13]); all_goals rfl)
       simp only [qq, Nat.reduceBEq, reduceIte, Nat.reduceEqDiff, Nat.reduceAdd, Nat.reduceLeDiff, reduceCtorEq, Nat.reduceMul, Int.reduceToNat, hb7, hb13] at s22f5
       have s22f6 := hf 6 rfl (by (try simp only [qq, Nat.reduceBEq, reduceIte, Nat.reduceEqDiff, Nat.reduceAdd, Nat.reduceLeDiff, reduceCtorEq, Nat.reduceMul, Int.reduceToNat, kn, hb7, hb13]); all_goals rfl)
       simp only [qq, Nat.reduceBEq, reduceIte, Nat.reduceEqDiff, Nat.reduceAdd, Nat.reduceLeDiff, reduceCtorEq, Nat.reduceMul, Int.reduceToNat, hb7, hb13] at s22f6
       clear hf
       refine awp_seq_k fun K23 hK23 => ?_
       refine awp_seq_k fun K24 hK24 => ?_
       refine awp_region_lit fun L25 hL25 => ?_
       refine aops_orunN 2 _ _ ?_
       simp only [qq, Nat.reduceBEq, reduceIte, Nat.reduceEqDiff, Nat.reduceAdd, Nat.reduceLeDiff, reduceCtorEq, Nat.reduceMul, Int.reduceToNat, hb7, hb13, s22t7, s22t8, s22t9, s22f0, s22f1, s22f4, s22f5, s22f6]
       refine aops_nil (hL25 _ ?_)
       simp only [qq, Nat.reduceBEq, reduceIte, Nat.reduceEqDiff, Nat.reduceAdd, Nat.reduceLeDiff, reduceCtorEq, Nat.reduceMul, Int.reduceToNat, hb7, hb13, s22t7, s22t8, s22t9, s22f0, s22f1, s22f4, s22f5, s22f6]
       try simp only [rk_state]
       refine hK24 _ ?_
       refine awp_cond (t := ?t26) ?h26 (fun hb26 => ?a26) (fun hb26 => ?b26)
       case h26 => simp only [qq, Nat.reduceBEq, reduceIte, Nat.reduceEqDiff, Nat.reduceAdd, Nat.reduceLeDiff, reduceCtorEq, Nat.reduceMul, Int.reduceToNat, hb7, hb13, s22t7, s22t8, s22t9, s22f0, s22f1, s22f4, s22f5, s22f6]; rfl
       case a26 =>
        have hp26 := hb26
        try simp only [kb] at hp26
        all_goals try exact absurd hb26 (by decide)
        all_goals try (exfalso; omega)
        all_goals
         refine awp_skip ?_
         try simp only [rk_state]
         refine hK23 _ ?_
         refine awp_seq_k fun K27 hK27 => ?_
         refine awp_block ?_
         refine awp_seq_k fun K28 hK28 => ?_
         refine awp_seq_k fun K29 hK29 => ?_
         have s9 : (w - 1 - (j : Int)).toNat = (l.take w.toNat).length - 1 - j := by omega
         have hvs := val_step (l := l.take w.toNat) (j := j) (by omega)
         have hv := val_lt40 (l := (l.take w.toNat).drop ((l.take w.toNat).length - j)) (by rw [List.length_drop]; omega)
         have hp := pow40 (k := j) (by omega)
         have hg : (l.take w.toNat).getD ((l.take w.toNat).length - 1 - j) default = l.getD ((l.take w.toNat).length - 1 - j) default := by (simp only [List.getD]; rw [List.getElem?_take, if_pos (by omega)])
         rw [hg] at hvs
         refine awp_region_lit fun L30 hL30 => ?_
         refine aops_orunN 2 _ _ ?_
         simp only [qq, Nat.reduceBEq, reduceIte, Nat.reduceEqDiff, Nat.reduceAdd, Nat.reduceLeDiff, reduceCtorEq, Nat.reduceMul, Int.reduceToNat, hb7, hb13, s22t7, s22t8, s22t9, s22f0, s22f1, s22f4, s22f5, s22f6, hb26, s9]
         refine aops_val (v := ?v31) rfl ?h31 ?_
         case h31 => simp only [qq, Nat.reduceBEq, reduceIte, Nat.reduceEqDiff, Nat.reduceAdd, Nat.reduceLeDiff, reduceCtorEq, Nat.reduceMul, Int.reduceToNat, hb7, hb13, s22t7, s22t8, s22t9, s22f0, s22f1, s22f4, s22f5, s22f6, hb26, s9]; first | (rw [idx_c un36 if4] <;> omega) | (rw [idx_o un36 if4] <;> omega) | (rw [idx_a un36 if4] <;> omega)
         simp only [qq, Nat.reduceBEq, reduceIte, Nat.reduceEqDiff, Nat.reduceAdd, Nat.reduceLeDiff, reduceCtorEq, Nat.reduceMul, Int.reduceToNat, hb7, hb13, s22t7, s22t8, s22t9, s22f0, s22f1, s22f4, s22f5, s22f6, hb26, s9]
         refine aops_orunN 1 _ _ ?_
         simp only [qq, Nat.reduceBEq, reduceIte, Nat.reduceEqDiff, Nat.reduceAdd, Nat.reduceLeDiff, reduceCtorEq, Nat.reduceMul, Int.reduceToNat, hb7, hb13, s22t7, s22t8, s22t9, s22f0, s22f1, s22f4, s22f5, s22f6, hb26, s9]
         refine aops_nil (hL30 _ ?_)
         simp only [qq, Nat.reduceBEq, reduceIte, Nat.reduceEqDiff, Nat.reduceAdd, Nat.reduceLeDiff, reduceCtorEq, Nat.reduceMul, Int.reduceToNat, hb7, hb13, s22t7, s22t8, s22t9, s22f0, s22f1, s22f4, s22f5, s22f6, hb26, s9]
         try simp only [rk_state]
         refine hK29 _ ?_
         as_aux_lemma =>
          refine awp_cond (t := ?t32) ?h32 (fun hb32 => ?a32) (fun hb32 => ?b32)
          case h32 => simp only [qq, Nat.reduceBEq, reduceIte, Nat.reduceEqDiff, Nat.reduceAdd, Nat.reduceLeDiff, reduceCtorEq, Nat.reduceMul, Int.reduceToNat, hb7, hb13, s22t7, s22t8, s22t9, s22f0, s22f1, s22f4, s22f5, s22f6, hb26, s9]; rfl
          case a32 =>
           have hp32 := hb32
           try simp only [kb] at hp32
           all_goals try exact absurd hb32 (by decide)
           all_goals try (exfalso; omega)
           all_goals
            refine awp_region_lit fun L33 hL33 => ?_
            refine aops_orunN 2 _ _ ?_
            simp only [qq, Nat.reduceBEq, reduceIte, Nat.reduceEqDiff, Nat.reduceAdd, Nat.reduceLeDiff, reduceCtorEq, Nat.reduceMul, Int.reduceToNat, hb7, hb13, s22t7, s22t8, s22t9, s22f0, s22f1, s22f4, s22f5, s22f6, hb26, s9, hb32]
            refine aops_val (v := ?v34) rfl ?h34 ?_
            case h34 => simp only [qq, Nat.reduceBEq, reduceIte, Nat.reduceEqDiff, Nat.reduceAdd, Nat.reduceLeDiff, reduceCtorEq, Nat.reduceMul, Int.reduceToNat, hb7, hb13, s22t7, s22t8, s22t9, s22f0, s22f1, s22f4, s22f5, s22f6, hb26, s9, hb32]; first | (rw [wr_id] <;> omega) | rfl
            simp only [qq, Nat.reduceBEq, reduceIte, Nat.reduceEqDiff, Nat.reduceAdd, Nat.reduceLeDiff, reduceCtorEq, Nat.reduceMul, Int.reduceToNat, hb7, hb13, s22t7, s22t8, s22t9, s22f0, s22f1, s22f4, s22f5, s22f6, hb26, s9, hb32]
            refine aops_orunN 1 _ _ ?_
            simp only [qq, Nat.reduceBEq, reduceIte, Nat.reduceEqDiff, Nat.reduceAdd, Nat.reduceLeDiff, reduceCtorEq, Nat.reduceMul, Int.reduceToNat, hb7, hb13, s22t7, s22t8, s22t9, s22f0, s22f1, s22f4, s22f5, s22f6, hb26, s9, hb32]
            refine aops_nil (hL33 _ ?_)
            simp only [qq, Nat.reduceBEq, reduceIte, Nat.reduceEqDiff, Nat.reduceAdd, Nat.reduceLeDiff, reduceCtorEq, Nat.reduceMul, Int.reduceToNat, hb7, hb13, s22t7, s22t8, s22t9, s22f0, s22f1, s22f4, s22f5, s22f6, hb26, s9, hb32]
            try simp only [rk_state]
            refine hK28 _ ?_
            refine awp_region_lit fun L35 hL35 => ?_
            refine aops_orunN 1 _ _ ?_
            simp only [qq, Nat.reduceBEq, reduceIte, Nat.reduceEqDiff, Nat.reduceAdd, Nat.reduceLeDiff, reduceCtorEq, Nat.reduceMul, Int.reduceToNat, hb7, hb13, s22t7, s22t8, s22t9, s22f0, s22f1, s22f4, s22f5, s22f6, hb26, s9, hb32]
            refine aops_val (v := ?v36) rfl ?h36 ?_
            case h36 => simp only [qq, Nat.reduceBEq, reduceIte, Nat.reduceEqDiff, Nat.reduceAdd, Nat.reduceLeDiff, reduceCtorEq, Nat.reduceMul, Int.reduceToNat, hb7, hb13, s22t7, s22t8, s22t9, s22f0, s22f1, s22f4, s22f5, s22f6, hb26, s9, hb32]; first | (rw [wr_id] <;> omega) | rfl
            simp only [qq, Nat.reduceBEq, reduceIte, Nat.reduceEqDiff, Nat.reduceAdd, Nat.reduceLeDiff, reduceCtorEq, Nat.reduceMul, Int.reduceToNat, hb7, hb13, s22t7, s22t8, s22t9, s22f0, s22f1, s22f4, s22f5, s22f6, hb26, s9, hb32]
            refine aops_orunN 1 _ _ ?_
            simp only [qq, Nat.reduceBEq, reduceIte, Nat.reduceEqDiff, Nat.reduceAdd, Nat.reduceLeDiff, reduceCtorEq, Nat.reduceMul, Int.reduceToNat, hb7, hb13, s22t7, s22t8, s22t9, s22f0, s22f1, s22f4, s22f5, s22f6, hb26, s9, hb32]
            refine aops_nil (hL35 _ ?_)
            simp only [qq, Nat.reduceBEq, reduceIte, Nat.reduceEqDiff, Nat.reduceAdd, Nat.reduceLeDiff, reduceCtorEq, Nat.reduceMul, Int.reduceToNat, hb7, hb13, s22t7, s22t8, s22t9, s22f0, s22f1, s22f4, s22f5, s22f6, hb26, s9, hb32]
            try simp only [rk_state]
            try simp only [rk_state]
            refine hK27 _ ?_
            refine awp_region_lit fun L37 hL37 => ?_
            refine aops_orunN 1 _ _ ?_
            simp only [qq, Nat.reduceBEq, reduceIte, Nat.reduceEqDiff, Nat.reduceAdd, Nat.reduceLeDiff, reduceCtorEq, Nat.reduceMul, Int.reduceToNat, hb7, hb13, s22t7, s22t8, s22t9, s22f0, s22f1, s22f4, s22f5, s22f6, hb26, s9, hb32]
            refine aops_val (v := ?v38) rfl ?h38 ?_
            case h38 => simp only [qq, Nat.reduceBEq, reduceIte, Nat.reduceEqDiff, Nat.reduceAdd, Nat.reduceLeDiff, reduceCtorEq, Nat.reduceMul, Int.reduceToNat, hb7, hb13, s22t7, s22t8, s22t9, s22f0, s22f1, s22f4, s22f5, s22f6, hb26, s9, hb32]; first | (rw [wr_id] <;> omega) | rfl
            simp only [qq, Nat.reduceBEq, reduceIte, Nat.reduceEqDiff, Nat.reduceAdd, Nat.reduceLeDiff, reduceCtorEq, Nat.reduceMul, Int.reduceToNat, hb7, hb13, s22t7, s22t8, s22t9, s22f0, s22f1, s22f4, s22f5, s22f6, hb26, s9, hb32]
            refine aops_orunN 1 _ _ ?_
            simp only [qq, Nat.reduceBEq, reduceIte, Nat.reduceEqDiff, Nat.reduceAdd, Nat.reduceLeDiff, reduceCtorEq, Nat.reduceMul, Int.reduceToNat, hb7, hb13, s22t7, s22t8, s22t9, s22f0, s22f1, s22f4, s22f5, s22f6, hb26, s9, hb32]
            refine aops_nil (hL37 _ ?_)
            simp only [qq, Nat.reduceBEq, reduceIte, Nat.reduceEqDiff, Nat.reduceAdd, Nat.reduceLeDiff, reduceCtorEq, Nat.reduceMul, Int.reduceToNat, hb7, hb13, s22t7, s22t8, s22t9, s22f0, s22f1, s22f4, s22f5, s22f6, hb26, s9, hb32]
            try simp only [rk_state]
            have e1 : (l.take w.toNat).length - (j + 1) = (l.take w.toNat).length - 1 - j := by omega
            have hpn := Int.pow_succ 2 j
            refine hK22 _ ((fun (j : Nat) => w.toNat - j) (j + 1)) ?_ ⟨j + 1, rfl, ?_, ?_, ?_, ?_⟩
            · (try simp only []); omega
            · first | omega | simp
            · (try simp only [qq, Nat.reduceBEq, reduceIte, Nat.reduceEqDiff, Nat.reduceAdd, Nat.reduceLeDiff, reduceCtorEq, Nat.reduceMul, Int.reduceToNat, hb7, hb13, s22t7, s22t8, s22t9, s22f0, s22f1, s22f4, s22f5, s22f6, hb26, s9, hb32])
              all_goals (simp only [AV.c.injEq, C.int.injEq, true_and]; rw [e1, hvs]; simp_all; try omega)
            · (try simp only [qq, Nat.reduceBEq, reduceIte, Nat.reduceEqDiff, Nat.reduceAdd, Nat.reduceLeDiff, reduceCtorEq, Nat.reduceMul, Int.reduceToNat, hb7, hb13, s22t7, s22t8, s22t9, s22f0, s22f1, s22f4, s22f5, s22f6, hb26, s9, hb32])
              all_goals (simp only [AV.c.injEq, C.int.injEq, true_and]; omega)
            · (try simp only [qq, Nat.reduceBEq, reduceIte, Nat.reduceEqDiff, Nat.reduceAdd, Nat.reduceLeDiff, reduceCtorEq, Nat.reduceMul, Int.reduceToNat, hb7, hb13, s22t7, s22t8, s22t9, s22f0, s22f1, s22f4, s22f5, s22f6, hb26, s9, hb32])
              all_goals (first | done | rfl | (simp only [AV.c.injEq, C.int.injEq, List.cons.injEq, and_true, true_and]; omega))
          case b32 =>
           have hp32 := hb32
           try simp only [kb] at hp32
           all_goals try exact absurd hb32 (by decide)
           all_goals try (exfalso; omega)
           all_goals
            refine awp_skip ?_
            try simp only [rk_state]
            refine hK28 _ ?_
            as_aux_lemma =>
             refine awp_region_lit fun L39 hL39 => ?_
             refine aops_orunN 1 _ _ ?_
             simp only [qq, Nat.reduceBEq, reduceIte, Nat.reduceEqDiff, Nat.reduceAdd, Nat.reduceLeDiff, reduceCtorEq, Nat.reduceMul, Int.reduceToNat, hb7, hb13, s22t7, s22t8, s22t9, s22f0, s22f1, s22f4, s22f5, s22f6, hb26, s9, hb32]
             refine aops_val (v := ?v40) rfl ?h40 ?_
             case h40 => simp only [qq, Nat.reduceBEq, reduceIte, Nat.reduceEqDiff, Nat.reduceAdd, Nat.reduceLeDiff, reduceCtorEq, Nat.reduceMul, Int.reduceToNat, hb7, hb13, s22t7, s22t8, s22t9, s22f0, s22f1, s22f4, s22f5, s22f6, hb26, s9, hb32]; first | (rw [wr_id] <;> omega) | rfl
             simp only [qq, Nat.reduceBEq, reduceIte, Nat.reduceEqDiff, Nat.reduceAdd, Nat.reduceLeDiff, reduceCtorEq, Nat.reduceMul, Int.reduceToNat, hb7, hb13, s22t7, s22t8, s22t9, s22f0, s22f1, s22f4, s22f5, s22f6, hb26, s9, hb32]
             refine aops_orunN 1 _ _ ?_
             simp only [qq, Nat.reduceBEq, reduceIte, Nat.reduceEqDiff, Nat.reduceAdd, Nat.reduceLeDiff, reduceCtorEq, Nat.reduceMul, Int.reduceToNat, hb7, hb13, s22t7, s22t8, s22t9, s22f0, s22f1, s22f4, s22f5, s22f6, hb26, s9, hb32]
             refine aops_nil (hL39 _ ?_)
             simp only [qq, Nat.reduceBEq, reduceIte, Nat.reduceEqDiff, Nat.reduceAdd, Nat.reduceLeDiff, reduceCtorEq, Nat.reduceMul, Int.reduceToNat, hb7, hb13, s22t7, s22t8, s22t9, s22f0, s22f1, s22f4, s22f5, s22f6, hb26, s9, hb32]
             try simp only [rk_state]
             try simp only [rk_state]
             refine hK27 _ ?_
             refine awp_region_lit fun L41 hL41 => ?_
             refine aops_orunN 1 _ _ ?_
             simp only [qq, Nat.reduceBEq, reduceIte, Nat.reduceEqDiff, Nat.reduceAdd, Nat.reduceLeDiff, reduceCtorEq, Nat.reduceMul, Int.reduceToNat, hb7, hb13, s22t7, s22t8, s22t9, s22f0, s22f1, s22f4, s22f5, s22f6, hb26, s9, hb32]
             refine aops_val (v := ?v42) rfl ?h42 ?_
             case h42 => simp only [qq, Nat.reduceBEq, reduceIte, Nat.reduceEqDiff, Nat.reduceAdd, Nat.reduceLeDiff, reduceCtorEq, Nat.reduceMul, Int.reduceToNat, hb7, hb13, s22t7, s22t8, s22t9, s22f0, s22f1, s22f4, s22f5, s22f6, hb26, s9, hb32]; first | (rw [wr_id] <;> omega) | rfl
             simp only [qq, Nat.reduceBEq, reduceIte, Nat.reduceEqDiff, Nat.reduceAdd, Nat.reduceLeDiff, reduceCtorEq, Nat.reduceMul, Int.reduceToNat, hb7, hb13, s22t7, s22t8, s22t9, s22f0, s22f1, s22f4, s22f5, s22f6, hb26, s9, hb32]
             refine aops_orunN 1 _ _ ?_
             simp only [qq, Nat.reduceBEq, reduceIte, Nat.reduceEqDiff, Nat.reduceAdd, Nat.reduceLeDiff, reduceCtorEq, Nat.reduceMul, Int.reduceToNat, hb7, hb13, s22t7, s22t8, s22t9, s22f0, s22f1, s22f4, s22f5, s22f6, hb26, s9, hb32]
             refine aops_nil (hL41 _ ?_)
             simp only [qq, Nat.reduceBEq, reduceIte, Nat.reduceEqDiff, Nat.reduceAdd, Nat.reduceLeDiff, reduceCtorEq, Nat.reduceMul, Int.reduceToNat, hb7, hb13, s22t7, s22t8, s22t9, s22f0, s22f1, s22f4, s22f5, s22f6, hb26, s9, hb32]
             try simp only [rk_state]
             have e1 : (l.take w.toNat).length - (j + 1) = (l.take w.toNat).length - 1 - j := by omega
             have hpn := Int.pow_succ 2 j
             refine hK22 _ ((fun (j : Nat) => w.toNat - j) (j + 1)) ?_ ⟨j + 1, rfl, ?_, ?_, ?_, ?_⟩
             · (try simp only []); omega
             · first | omega | simp
             · (try simp only [qq, Nat.reduceBEq, reduceIte, Nat.reduceEqDiff, Nat.reduceAdd, Nat.reduceLeDiff, reduceCtorEq, Nat.reduceMul, Int.reduceToNat, hb7, hb13, s22t7, s22t8, s22t9, s22f0, s22f1, s22f4, s22f5, s22f6, hb26, s9, hb32])
               all_goals (simp only [AV.c.injEq, C.int.injEq, true_and]; rw [e1, hvs]; simp_all; try omega)
             · (try simp only [qq, Nat.reduceBEq, reduceIte, Nat.reduceEqDiff, Nat.reduceAdd, Nat.reduceLeDiff, reduceCtorEq, Nat.reduceMul, Int.reduceToNat, hb7, hb13, s22t7, s22t8, s22t9, s22f0, s22f1, s22f4, s22f5, s22f6, hb26, s9, hb32])
               all_goals (simp only [AV.c.injEq, C.int.injEq, true_and]; omega)
             · (try simp only [qq, Nat.reduceBEq, reduceIte, Nat.reduceEqDiff, Nat.reduceAdd, Nat.reduceLeDiff, reduceCtorEq, Nat.reduceMul, Int.reduceToNat, hb7, hb13, s22t7, s22t8, s22t9, s22f0, s22f1, s22f4, s22f5, s22f6, hb26, s9, hb32])
               all_goals (first | done | rfl | (simp only [AV.c.injEq, C.int.injEq, List.cons.injEq, and_true, true_and]; omega))
       case b26 =>
        have hp26 := hb26
        try simp only [kb] at hp26
        all_goals try exact absurd hb26 (by decide)
        all_goals try (exfalso; omega)
        all_goals
         refine awp_exit ?_
         simp only [rk_state, reduceIte, Nat.reduceEqDiff]
         try simp only [rk_state]
         refine hK18 _ ?_
         refine awp_seq_k fun K43 hK43 => ?_
         refine awp_region_dr (by decide +kernel) fun L44 hL44 => ?_
         refine aops_orunN 3 _ _ ?_
         simp only [qq, Nat.reduceBEq, reduceIte, Nat.reduceEqDiff, Nat.reduceAdd, Nat.reduceLeDiff, reduceCtorEq, Nat.reduceMul, Int.reduceToNat, hb7, hb13, s22t7, s22t8, s22t9, s22f0, s22f1, s22f4, s22f5, s22f6, hb26]
         refine aops_val (v := ?v45) rfl ?h45 ?_
         case h45 => simp only [qq, Nat.reduceBEq, reduceIte, Nat.reduceEqDiff, Nat.reduceAdd, Nat.reduceLeDiff, reduceCtorEq, Nat.reduceMul, Int.reduceToNat, hb7, hb13, s22t7, s22t8, s22t9, s22f0, s22f1, s22f4, s22f5, s22f6, hb26]; first | (rw [slc_l un36 if4] <;> omega) | (rw [slc_lo un36 if4] <;> omega)
         simp only [qq, Nat.reduceBEq, reduceIte, Nat.reduceEqDiff, Nat.reduceAdd, Nat.reduceLeDiff, reduceCtorEq, Nat.reduceMul, Int.reduceToNat, hb7, hb13, s22t7, s22t8, s22t9, s22f0, s22f1, s22f4, s22f5, s22f6, hb26]
         refine aops_orunN 3 _ _ ?_
         simp only [qq, Nat.reduceBEq, reduceIte, Nat.reduceEqDiff, Nat.reduceAdd, Nat.reduceLeDiff, reduceCtorEq, Nat.reduceMul, Int.reduceToNat, hb7, hb13, s22t7, s22t8, s22t9, s22f0, s22f1, s22f4, s22f5, s22f6, hb26]
         refine aops_nil (hL44 _ ?_)
         simp only [qq, Nat.reduceBEq, reduceIte, Nat.reduceEqDiff, Nat.reduceAdd, Nat.reduceLeDiff, reduceCtorEq, Nat.reduceMul, Int.reduceToNat, hb7, hb13, s22t7, s22t8, s22t9, s22f0, s22f1, s22f4, s22f5, s22f6, hb26]
         try simp only [rk_state]
         refine hK43 _ ?_
         as_aux_lemma =>
          refine awp_ret ?_
          try simp only [rk_state]
          refine ⟨_, 0, by simp only [qq, Nat.reduceBEq, reduceIte, Nat.reduceEqDiff, Nat.reduceAdd, Nat.reduceLeDiff, reduceCtorEq, Nat.reduceMul, Int.reduceToNat, resA, Try.results35, hb7, hb13, s22t7, s22t8, s22t9, s22f0, s22f1, s22f4, s22f5, s22f6, hb26]; rfl, ?_, fun l hl => absurd rfl hl, fun l hl => absurd rfl hl⟩
          simp only [packA]
          unfold takeR; first | (rw [if_pos (by omega)]; (repeat' (first | exact .nil | exact wkR_c | exact wkR_own | exact wkR_nils | refine wkR_int ?_ | refine wkR_bool ?_ | refine wkR_sl ?_ | refine wkR_osl ?_ | refine wkR_nsl ?_ | refine wkR_oo ?_ | refine wkR_no ?_ | refine .cons ?_ ?_ | refine wkR_agg ?_ | refine wkR_tup ?_)) <;> rfl) | (rw [if_neg (by omega), if_pos (by omega)]; (repeat' (first | exact .nil | exact wkR_c | exact wkR_own | exact wkR_nils | refine wkR_int ?_ | refine wkR_bool ?_ | refine wkR_sl ?_ | refine wkR_osl ?_ | refine wkR_nsl ?_ | refine wkR_oo ?_ | refine wkR_no ?_ | refine .cons ?_ ?_ | refine wkR_agg ?_ | refine wkR_tup ?_)) <;> rfl) | (have ej : (j : Int) = w := by omega); (rw [if_neg (by omega), if_neg (by omega)]); (repeat' (first | exact .nil | exact wkR_c | exact wkR_own | exact wkR_nils | refine wkR_int ?_ | refine wkR_bool ?_ | refine wkR_sl ?_ | refine wkR_osl ?_ | refine wkR_nsl ?_ | refine wkR_oo ?_ | refine wkR_no ?_ | refine .cons ?_ ?_ | refine wkR_agg ?_ | refine wkR_tup ?_)) <;> first | done | (rw [show (l.take w.toNat).length - j = 0 from by omega, List.drop_zero])
set_option maxHeartbeats 4000000 in
set_option maxRecDepth 50000 in
theorem bitsof_fun (l : List Bool) (n w : Int) (hl : l.length ≤ 140737488355288) (hn : n ≤ 9223372036854775807) : Fun Try.prog 34 [.c (.sl 4 (Rw boC l)), .c (.int .i64 n), .c (.int .i64 w)] nomem (.tup [.own false 0 4 (Rw boC (putR l n w).1), .c (.int .i64 (putR l n w).2)]) nomem := by
 refine fun_of_awp Try.func34 rfl (by decide +kernel) (by decide +kernel) (Nat.le_of_ble_eq_true rfl) (fun _ _ => rfl) (fun _ _ => rfl) ?_
 refine awp_seq_k fun K1 hK1 => ?_
 refine awp_region_lit fun L2 hL2 => ?_
 refine aops_orunN 2 _ _ ?_
 simp only [qq, Nat.reduceBEq, reduceIte, Nat.reduceEqDiff, Nat.reduceAdd, Nat.reduceLeDiff, reduceCtorEq, Nat.reduceMul, Int.reduceToNat, Nat.mul_one]
 refine aops_nil (hL2 _ ?_)
 simp only [qq, Nat.reduceBEq, reduceIte, Nat.reduceEqDiff, Nat.reduceAdd, Nat.reduceLeDiff, reduceCtorEq, Nat.reduceMul, Int.reduceToNat, Nat.mul_one]
 try simp only [rk_state]
 refine hK1 _ ?_
 refine awp_seq_k fun K3 hK3 => ?_
 refine awp_seq_k fun K4 hK4 => ?_
 refine awp_region_lit fun L5 hL5 => ?_
 refine aops_orunN 1 _ _ ?_
 simp only [qq, Nat.reduceBEq, reduceIte, Nat.reduceEqDiff, Nat.reduceAdd, Nat.reduceLeDiff, reduceCtorEq, Nat.reduceMul, Int.reduceToNat, Nat.mul_one]
 refine aops_call (in_fun _ _ _) rfl rfl rfl rfl (by (try simp only [qq, Nat.reduceBEq, reduceIte, Nat.reduceEqDiff, Nat.reduceAdd, Nat.reduceLeDiff, reduceCtorEq, Nat.reduceMul, Int.reduceToNat, Nat.mul_one]); (repeat' (first | exact .nil | exact wk_c | exact wk_ownc | exact wk_nilsc | exact wk_nils | exact wk_fn | refine .cons ?_ ?_ | refine wk_agg ?_ | refine wk_fnL ?_))) rfl rfl ?_
 simp only [qq, Nat.reduceBEq, reduceIte, Nat.reduceEqDiff, Nat.reduceAdd, Nat.reduceLeDiff, reduceCtorEq, Nat.reduceMul, Int.reduceToNat, Nat.mul_one]
 refine aops_orunN 2 _ _ ?_
 simp only [qq, Nat.reduceBEq, reduceIte, Nat.reduceEqDiff, Nat.reduceAdd, Nat.reduceLeDiff, reduceCtorEq, Nat.reduceMul, Int.reduceToNat, Nat.mul_one]
 refine aops_part (b := ?p7) 13 ?h7 (fun hb7 => ?a7) (fun hb7 => ?b7)
 case h7 => simp only [qq, Nat.reduceBEq, reduceIte, Nat.reduceEqDiff, Nat.reduceAdd, Nat.reduceLeDiff, reduceCtorEq, Nat.reduceMul, Int.reduceToNat, Nat.mul_one]; rfl
 case a7 =>
  have hp7 := hb7
  try simp only [kb] at hp7
  all_goals try exact absurd hb7 (by decide)
  all_goals try (exfalso; omega)
  all_goals
   try simp only [hb7]
   refine aops_orunN 7 _ _ ?_
   simp only [qq, Nat.reduceBEq, reduceIte, Nat.reduceEqDiff, Nat.reduceAdd, Nat.reduceLeDiff, reduceCtorEq, Nat.reduceMul, Int.reduceToNat, Nat.mul_one, hb7]
   refine aops_nil (hL5 _ ?_)
   simp only [qq, Nat.reduceBEq, reduceIte, Nat.reduceEqDiff, Nat.reduceAdd, Nat.reduceLeDiff, reduceCtorEq, Nat.reduceMul, Int.reduceToNat, Nat.mul_one, hb7]
   try simp only [rk_state]
   refine hK4 _ ?_
   refine awp_cond (t := true) (by simp only [qq, Nat.reduceBEq, reduceIte, Nat.reduceEqDiff, Nat.reduceAdd, Nat.reduceLeDiff, reduceCtorEq, Nat.reduceMul, Int.reduceToNat, Nat.mul_one, hb7]) (fun _ => ?_) (fun h => ?_)
   case refine_2 => cases h
   refine awp_seq_k fun K8 hK8 => ?_
   refine awp_region_lit fun L9 hL9 => ?_
   refine aops_orunN 2 _ _ ?_
   simp only [qq, Nat.reduceBEq, reduceIte, Nat.reduceEqDiff, Nat.reduceAdd, Nat.reduceLeDiff, reduceCtorEq, Nat.reduceMul, Int.reduceToNat, Nat.mul_one, hb7]
   refine aops_nil (hL9 _ ?_)
   simp only [qq, Nat.reduceBEq, reduceIte, Nat.reduceEqDiff, Nat.reduceAdd, Nat.reduceLeDiff, reduceCtorEq, Nat.reduceMul, Int.reduceToNat, Nat.mul_one, hb7]
   try simp only [rk_state]
   refine hK8 _ ?_
   as_aux_lemma =>
    refine awp_ret ?_
    try simp only [rk_state]
    first | refine ⟨_, 41, by simp only [qq, Nat.reduceBEq, reduceIte, Nat.reduceEqDiff, Nat.reduceAdd, Nat.reduceLeDiff, reduceCtorEq, Nat.reduceMul, Int.reduceToNat, resA, Try.results34, Nat.mul_one, hb7]; rfl, ?_, fun l hl => absurd rfl hl, fun l hl => absurd rfl hl⟩ | refine ⟨_, 0, by simp only [qq, Nat.reduceBEq, reduceIte, Nat.reduceEqDiff, Nat.reduceAdd, Nat.reduceLeDiff, reduceCtorEq, Nat.reduceMul, Int.reduceToNat, resA, Try.results34, Nat.mul_one, hb7]; rfl, ?_, fun l hl => absurd rfl hl, fun l hl => absurd rfl hl⟩
    simp only [packA]
    (simp only [putR]); first | (rw [if_neg (by unfold putOk; omega)]; (repeat' (first | exact .nil | exact wkR_c | exact wkR_own | exact wkR_nils | refine wkR_int ?_ | refine wkR_bool ?_ | refine wkR_sl ?_ | refine wkR_osl ?_ | refine wkR_nsl ?_ | refine wkR_oo ?_ | refine wkR_no ?_ | refine .cons ?_ ?_ | refine wkR_agg ?_ | refine wkR_tup ?_)) <;> rfl) | (rw [if_pos (by unfold putOk; omega)]; (repeat' (first | exact .nil | exact wkR_c | exact wkR_own | exact wkR_nils | refine wkR_int ?_ | refine wkR_bool ?_ | refine wkR_sl ?_ | refine wkR_osl ?_ | refine wkR_nsl ?_ | refine wkR_oo ?_ | refine wkR_no ?_ | refine .cons ?_ ?_ | refine wkR_agg ?_ | refine wkR_tup ?_)))
 case b7 =>
  have hp7 := hb7
  try simp only [kb] at hp7
  all_goals try exact absurd hb7 (by decide)
  all_goals try (exfalso; omega)
  all_goals
   try simp only [hb7]
   refine aops_orunN 2 _ _ ?_
   simp only [qq, Nat.reduceBEq, reduceIte, Nat.reduceEqDiff, Nat.reduceAdd, Nat.reduceLeDiff, reduceCtorEq, Nat.reduceMul, Int.reduceToNat, Nat.mul_one, hb7]
   have hmin : min w.toNat IntKind.i64.bits = w.toNat := by show min w.toNat 64 = _; omega
   have hp := pow40 (k := w.toNat) (by omega)
   refine aops_val (v := ?v10) (by simp only [qq, Nat.reduceBEq, reduceIte, Nat.reduceEqDiff, Nat.reduceAdd, Nat.reduceLeDiff, reduceCtorEq, Nat.reduceMul, Int.reduceToNat, Nat.mul_one, hb7]) ?h10 ?_
   case h10 => simp only [qq, Nat.reduceBEq, reduceIte, Nat.reduceEqDiff, Nat.reduceAdd, Nat.reduceLeDiff, reduceCtorEq, Nat.reduceMul, Int.reduceToNat, Nat.mul_one, hb7]; (rw [y_shl (by omega), hmin, wr_id] <;> omega)
   simp only [qq, Nat.reduceBEq, reduceIte, Nat.reduceEqDiff, Nat.reduceAdd, Nat.reduceLeDiff, reduceCtorEq, Nat.reduceMul, Int.reduceToNat, Nat.mul_one, hb7]
   refine aops_val (v := ?v11) (by simp only [qq, Nat.reduceBEq, reduceIte, Nat.reduceEqDiff, Nat.reduceAdd, Nat.reduceLeDiff, reduceCtorEq, Nat.reduceMul, Int.reduceToNat, Nat.mul_one, hb7]) ?h11 ?_
   case h11 => simp only [qq, Nat.reduceBEq, reduceIte, Nat.reduceEqDiff, Nat.reduceAdd, Nat.reduceLeDiff, reduceCtorEq, Nat.reduceMul, Int.reduceToNat, Nat.mul_one, hb7]; first | (rw [wr_id] <;> omega) | rfl
   simp only [qq, Nat.reduceBEq, reduceIte, Nat.reduceEqDiff, Nat.reduceAdd, Nat.reduceLeDiff, reduceCtorEq, Nat.reduceMul, Int.reduceToNat, Nat.mul_one, hb7]
   refine aops_call (in_fun _ _ _) (by simp only [qq, Nat.reduceBEq, reduceIte, Nat.reduceEqDiff, Nat.reduceAdd, Nat.reduceLeDiff, reduceCtorEq, Nat.reduceMul, Int.reduceToNat, Nat.mul_one, hb7]) rfl rfl rfl (by (try simp only [qq, Nat.reduceBEq, reduceIte, Nat.reduceEqDiff, Nat.reduceAdd, Nat.reduceLeDiff, reduceCtorEq, Nat.reduceMul, Int.reduceToNat, Nat.mul_one, hb7]); (repeat' (first | exact .nil | exact wk_c | exact wk_ownc | exact wk_nilsc | exact wk_nils | exact wk_fn | refine .cons ?_ ?_ | refine wk_agg ?_ | refine wk_fnL ?_))) rfl rfl ?_
   simp only [qq, Nat.reduceBEq, reduceIte, Nat.reduceEqDiff, Nat.reduceAdd, Nat.reduceLeDiff, reduceCtorEq, Nat.reduceMul, Int.reduceToNat, Nat.mul_one, hb7]
   refine aops_orunN 2 _ _ ?_
   simp only [qq, Nat.reduceBEq, reduceIte, Nat.reduceEqDiff, Nat.reduceAdd, Nat.reduceLeDiff, reduceCtorEq, Nat.reduceMul, Int.reduceToNat, Nat.mul_one, hb7]
   refine aops_nil (hL5 _ ?_)
   simp only [qq, Nat.reduceBEq, reduceIte, Nat.reduceEqDiff, Nat.reduceAdd, Nat.reduceLeDiff, reduceCtorEq, Nat.reduceMul, Int.reduceToNat, Nat.mul_one, hb7]
   try simp only [rk_state]
   refine hK4 _ ?_
   refine awp_cond (t := ?t13) ?h13 (fun hb13 => ?a13) (fun hb13 => ?b13)
   case h13 => simp only [qq, Nat.reduceBEq, reduceIte, Nat.reduceEqDiff, Nat.reduceAdd, Nat.reduceLeDiff, reduceCtorEq, Nat.reduceMul, Int.reduceToNat, Nat.mul_one, hb7]; rfl
   case a13 =>
    have hp13 := hb13
    try simp only [kb] at hp13
    all_goals try exact absurd hb13 (by decide)
    all_goals try (exfalso; omega)
    all_goals
     refine awp_seq_k fun K14 hK14 => ?_
     refine awp_region_lit fun L15 hL15 => ?_
     refine aops_orunN 2 _ _ ?_
     simp only [qq, Nat.reduceBEq, reduceIte, Nat.reduceEqDiff, Nat.reduceAdd, Nat.reduceLeDiff, reduceCtorEq, Nat.reduceMul, Int.reduceToNat, Nat.mul_one, hb7, hb13]
     refine aops_nil (hL15 _ ?_)
     simp only [qq, Nat.reduceBEq, reduceIte, Nat.reduceEqDiff, Nat.reduceAdd, Nat.reduceLeDiff, reduceCtorEq, Nat.reduceMul, Int.reduceToNat, Nat.mul_one, hb7, hb13]
     try simp only [rk_state]
     refine hK14 _ ?_
     refine awp_ret ?_
     try simp only [rk_state]
     first | refine ⟨_, 41, by simp only [qq, Nat.reduceBEq, reduceIte, Nat.reduceEqDiff, Nat.reduceAdd, Nat.reduceLeDiff, reduceCtorEq, Nat.reduceMul, Int.reduceToNat, resA, Try.results34, Nat.mul_one, hb7, hb13]; rfl, ?_, fun l hl => absurd rfl hl, fun l hl => absurd rfl hl⟩ | refine ⟨_, 0, by simp only [qq, Nat.reduceBEq, reduceIte, Nat.reduceEqDiff, Nat.reduceAdd, Nat.reduceLeDiff, reduceCtorEq, Nat.reduceMul, Int.reduceToNat, resA, Try.results34, Nat.mul_one, hb7, hb13]; rfl, ?_, fun l hl => absurd rfl hl, fun l hl => absurd rfl hl⟩
     simp only [packA]
     (simp only [putR]); first | (rw [if_neg (by unfold putOk; omega)]; (repeat' (first | exact .nil | exact wkR_c | exact wkR_own | exact wkR_nils | refine wkR_int ?_ | refine wkR_bool ?_ | refine wkR_sl ?_ | refine wkR_osl ?_ | refine wkR_nsl ?_ | refine wkR_oo ?_ | refine wkR_no ?_ | refine .cons ?_ ?_ | refine wkR_agg ?_ | refine wkR_tup ?_)) <;> rfl) | (rw [if_pos (by unfold putOk; omega)]; (repeat' (first | exact .nil | exact wkR_c | exact wkR_own | exact wkR_nils | refine wkR_int ?_ | refine wkR_bool ?_ | refine wkR_sl ?_ | refine wkR_osl ?_ | refine wkR_nsl ?_ | refine wkR_oo ?_ | refine wkR_no ?_ | refine .cons ?_ ?_ | refine wkR_agg ?_ | refine wkR_tup ?_)))
   case b13 =>
    have hp13 := hb13
    try simp only [kb] at hp13
    all_goals try exact absurd hb13 (by decide)
    all_goals try (exfalso; omega)
    all_goals
     refine awp_skip ?_
     try simp only [rk_state]
     refine hK3 _ ?_
     refine awp_seq_k fun K16 hK16 => ?_
     have hmin : min w.toNat IntKind.i64.bits = w.toNat := by show min w.toNat 64 = _; omega
     have hp := pow40 (k := w.toNat) (by omega)
     have hn0 : 0 ≤ n := by omega
     refine awp_region_lit fun L17 hL17 => ?_
     refine aops_orunN 1 _ _ ?_
     simp only [qq, Nat.reduceBEq, reduceIte, Nat.reduceEqDiff, Nat.reduceAdd, Nat.reduceLeDiff, reduceCtorEq, Nat.reduceMul, Int.reduceToNat, Nat.mul_one, hb7, hb13]
     refine aops_make (n := ?n18) 2022 un36 (by simp only [tyf]; rfl) (by simp only [tyf]; rfl) (by simp only [tyf]; decide) rfl rfl (by decide) ?m18 ?l18 ?c18 ?p18 ?q18 ?u18 ?_
     case m18 => simp only [qq, Nat.reduceBEq, reduceIte, Nat.reduceEqDiff, Nat.reduceAdd, Nat.reduceLeDiff, reduceCtorEq, Nat.reduceMul, Int.reduceToNat, Nat.mul_one, hb7, hb13]
     case l18 => simp only [qq, Nat.reduceBEq, reduceIte, Nat.reduceEqDiff, Nat.reduceAdd, Nat.reduceLeDiff, reduceCtorEq, Nat.reduceMul, Int.reduceToNat, Nat.mul_one, hb7, hb13]; rfl
     case c18 => simp only [qq, Nat.reduceBEq, reduceIte, Nat.reduceEqDiff, Nat.reduceAdd, Nat.reduceLeDiff, reduceCtorEq, Nat.reduceMul, Int.reduceToNat, Nat.mul_one, hb7, hb13]
     case p18 => omega
     case q18 => (simp only [tyf]; omega)
     case u18 => omega
     simp only [qq, Nat.reduceBEq, reduceIte, Nat.reduceEqDiff, Nat.reduceAdd, Nat.reduceLeDiff, reduceCtorEq, Nat.reduceMul, Int.reduceToNat, Nat.mul_one, hb7, hb13]
     refine aops_orunN 1 _ _ ?_
     simp only [qq, Nat.reduceBEq, reduceIte, Nat.reduceEqDiff, Nat.reduceAdd, Nat.reduceLeDiff, reduceCtorEq, Nat.reduceMul, Int.reduceToNat, Nat.mul_one, hb7, hb13]
     refine aops_nil (hL17 _ ?_)
     simp only [qq, Nat.reduceBEq, reduceIte, Nat.reduceEqDiff, Nat.reduceAdd, Nat.reduceLeDiff, reduceCtorEq, Nat.reduceMul, Int.reduceToNat, Nat.mul_one, hb7, hb13]
     try simp only [rk_state]
     refine hK16 _ ?_
     refine awp_seq_k fun K19 hK19 => ?_
     refine awp_seq_k fun K20 hK20 => ?_
     refine awp_region_lit fun L21 hL21 => ?_
     refine aops_orunN 2 _ _ ?_
     simp only [qq, Nat.reduceBEq, reduceIte, Nat.reduceEqDiff, Nat.reduceAdd, Nat.reduceLeDiff, reduceCtorEq, Nat.reduceMul, Int.reduceToNat, Nat.mul_one, hb7, hb13]
     refine aops_val (v := ?v22) rfl ?h22 ?_
     case h22 => simp only [qq, Nat.reduceBEq, reduceIte, Nat.reduceEqDiff, Nat.reduceAdd, Nat.reduceLeDiff, reduceCtorEq, Nat.reduceMul, Int.reduceToNat, Nat.mul_one, hb7, hb13]; first | (rw [wr_id] <;> omega) | rfl
     simp only [qq, Nat.reduceBEq, reduceIte, Nat.reduceEqDiff, Nat.reduceAdd, Nat.reduceLeDiff, reduceCtorEq, Nat.reduceMul, Int.reduceToNat, Nat.mul_one, hb7, hb13]
     refine aops_orunN 1 _ _ ?_
     simp only [qq, Nat.reduceBEq, reduceIte, Nat.reduceEqDiff, Nat.reduceAdd, Nat.reduceLeDiff, reduceCtorEq, Nat.reduceMul, Int.reduceToNat, Nat.mul_one, hb7, hb13]
     refine aops_nil (hL21 _ ?_)
     simp only [qq, Nat.reduceBEq, reduceIte, Nat.reduceEqDiff, Nat.reduceAdd, Nat.reduceLeDiff, reduceCtorEq, Nat.reduceMul, Int.reduceToNat, Nat.mul_one, hb7, hb13]
     try simp only [rk_state]
     refine hK20 _ ?_
     as_aux_lemma =>
      refine awp_block ?_
      refine awp_loopW (W := [26, 27, 30, 31, 32, 33, 34, 35, 36, 37, 1, 28, 29, 9]) (M := []) rfl rfl (fun k s => ∃ (j : Nat), k = w.toNat - j ∧ (j ≤ w.toNat) ∧ s.t 1 = .c (.int .i64 (n / 2 ^ j)) ∧ s.t 8 = .arr 2022 0 w.toNat w.toNat 4 ∧ s.t 9 = .c (.int .i64 (w - 1 - (j : Int))) ∧ s.m 2022 = (fillB w.toNat n j).map (fun b => AV.c (.bool b))) ((fun (j : Nat) => w.toNat - j) (0)) ?i23 ?r23
      case i23 =>
       refine ⟨0, rfl, ?_, ?_, ?_, ?_, ?_⟩
       · first | omega | simp
       · (try simp only [qq, Nat.reduceBEq, reduceIte, Nat.reduceEqDiff, Nat.reduceAdd, Nat.reduceLeDiff, reduceCtorEq, Nat.reduceMul, Int.reduceToNat, Nat.mul_one, hb7, hb13])
         all_goals simp
       · (try simp only [qq, Nat.reduceBEq, reduceIte, Nat.reduceEqDiff, Nat.reduceAdd, Nat.reduceLeDiff, reduceCtorEq, Nat.reduceMul, Int.reduceToNat, Nat.mul_one, hb7, hb13])
         all_goals (first | done | rfl | (simp only [AV.c.injEq, C.int.injEq, List.cons.injEq, and_true, true_and]; omega))
       · (try simp only [qq, Nat.reduceBEq, reduceIte, Nat.reduceEqDiff, Nat.reduceAdd, Nat.reduceLeDiff, reduceCtorEq, Nat.reduceMul, Int.reduceToNat, Nat.mul_one, hb7, hb13])
         all_goals (first | done | rfl | (simp only [AV.c.injEq, C.int.injEq, List.cons.injEq, and_true, true_and]; omega))
       · (try simp only [qq, Nat.reduceBEq, reduceIte, Nat.reduceEqDiff, Nat.reduceAdd, Nat.reduceLeDiff, reduceCtorEq, Nat.reduceMul, Int.reduceToNat, Nat.mul_one, hb7, hb13])
         all_goals (rw [fillB_zero]; simp [List.map_replicate, List.flatten_replicate_singleton, kz]; done)
      case r23 =>
       rintro k s hf ⟨j, rfl, hq5_0, s23t1, s23t8, s23t9, s23m2022⟩ K23 hK23
       have s23f0 := hf 0 rfl (by (try simp only [qq, Nat.reduceBEq, reduceIte, Nat.reduceEqDiff, Nat.reduceAdd, Nat.reduceLeDiff, reduceCtorEq, Nat.reduceMul, Int.reduceToNat, kn, Nat.mul_one, hb7, hb13]); all_goals rfl)
       simp only [qq, Nat.reduceBEq, reduceIte, Nat.reduceEqDiff, Nat.reduceAdd, Nat.reduceLeDiff, reduceCtorEq, Nat.reduceMul, Int.reduceToNat, Nat.mul_one, hb7, hb13] at s23f0
       have s23f6 := hf 6 rfl (by (try simp only [qq, Nat.reduceBEq, reduceIte, Nat.reduceEqDiff, Nat.reduceAdd, Nat.reduceLeDiff, reduceCtorEq, Nat.reduceMul, Int.reduceToNat, kn, Nat.mul_one, hb7, hb13]); all_goals rfl)
       simp only [qq, Nat.reduceBEq, reduceIte, Nat.reduceEqDiff, Nat.reduceAdd, Nat.reduceLeDiff, reduceCtorEq, Nat.reduceMul, Int.reduceToNat, Nat.mul_one, hb7, hb13] at s23f6
       have s23f7 := hf 7 rfl (by (try simp only [qq, Nat.reduceBEq, reduceIte, Nat.reduceEqDiff, Nat.reduceAdd, Nat.reduceLeDiff, reduceCtorEq, Nat.reduceMul, Int.reduceToNat, kn, Nat.mul_one, hb7, hb13]); all_goals rfl)
       simp only [qq, Nat.reduceBEq, reduceIte, Nat.reduceEqDiff, Nat.reduceAdd, Nat.reduceLeDiff, reduceCtorEq, Nat.reduceMul, Int.reduceToNat, Nat.mul_one, hb7, hb13] at s23f7
       clear hf
       refine awp_seq_k fun K24 hK24 => ?_
       refine awp_seq_k fun K25 hK25 => ?_
       refine awp_region_gh fun L26 hL26 => ?_
       refine aops_orunN 2 _ _ ?_
       simp only [qq, Nat.reduceBEq, reduceIte, Nat.reduceEqDiff, Nat.reduceAdd, Nat.reduceLeDiff, reduceCtorEq, Nat.reduceMul, Int.reduceToNat, Nat.mul_one, hb7, hb13, s23t1, s23t8, s23t9, s23m2022, s23f0, s23f6, s23f7]
       refine aops_part (b := ?p27) 27 ?h27 (fun hb27 => ?a27) (fun hb27 => ?b27)
       case h27 => simp only [qq, Nat.reduceBEq, reduceIte, Nat.reduceEqDiff, Nat.reduceAdd, Nat.reduceLeDiff, reduceCtorEq, Nat.reduceMul, Int.reduceToNat, Nat.mul_one, hb7, hb13, s23t1, s23t8, s23t9, s23m2022, s23f0, s23f6, s23f7]; rfl
       case a27 =>
        have hp27 := hb27
        try simp only [kb] at hp27
        all_goals try exact absurd hb27 (by decide)
        all_goals try (exfalso; omega)
        all_goals
         try simp only [hb27]
         refine aops_nil (hL26 _ _ (.refl _) ?_)
         simp only [qq, Nat.reduceBEq, reduceIte, Nat.reduceEqDiff, Nat.reduceAdd, Nat.reduceLeDiff, reduceCtorEq, Nat.reduceMul, Int.reduceToNat, Nat.mul_one, hb7, hb13, s23t1, s23t8, s23t9, s23m2022, s23f0, s23f6, s23f7, hb27]
         try simp only [rk_state]
         refine hK25 _ ?_
         refine awp_cond (t := true) (by simp only [qq, Nat.reduceBEq, reduceIte, Nat.reduceEqDiff, Nat.reduceAdd, Nat.reduceLeDiff, reduceCtorEq, Nat.reduceMul, Int.reduceToNat, Nat.mul_one, hb7, hb13, s23t1, s23t8, s23t9, s23m2022, s23f0, s23f6, s23f7, hb27]) (fun _ => ?_) (fun h => ?_)
         case refine_2 => cases h
         refine awp_skip ?_
         try simp only [rk_state]
         refine hK24 _ ?_
         refine awp_seq_k fun K28 hK28 => ?_
         refine awp_block ?_
         refine awp_seq_k fun K29 hK29 => ?_
         have hd := div_pow_le (a := n) hn0 j
         have s9 : (w - 1 - (j : Int)).toNat = w.toNat - 1 - j := by omega
         have hfl := fillB_len w.toNat n (j := j) (by omega)
         have s16 : (List.map (fun b => AV.c (.bool b)) (fillB w.toNat n j)).length = w.toNat := by rw [List.length_map, hfl]
         have s15 : (w.toNat - 1 - j + 1 ≤ w.toNat) = True := eq_true (by omega)
         refine awp_region_lit fun L30 hL30 => ?_
         refine aops_orunN 3 _ _ ?_
         simp only [qq, Nat.reduceBEq, reduceIte, Nat.reduceEqDiff, Nat.reduceAdd, Nat.reduceLeDiff, reduceCtorEq, Nat.reduceMul, Int.reduceToNat, Nat.mul_one, hb7, hb13, s23t1, s23t8, s23t9, s23m2022, s23f0, s23f6, s23f7, hb27, s9, s16, s15]
         have s14 : ((n / 2 ^ j).tmod 2 == 1) = bitAt n j := by (rw [Int.tmod_eq_emod_of_nonneg hd.1]; rfl)
         refine aops_val (v := ?v31) rfl ?h31 ?_
         case h31 => simp only [qq, Nat.reduceBEq, reduceIte, Nat.reduceEqDiff, Nat.reduceAdd, Nat.reduceLeDiff, reduceCtorEq, Nat.reduceMul, Int.reduceToNat, Nat.mul_one, hb7, hb13, s23t1, s23t8, s23t9, s23m2022, s23f0, s23f6, s23f7, hb27, s9, s16, s15, s14]; (rw [y_rem] <;> omega)
         simp only [qq, Nat.reduceBEq, reduceIte, Nat.reduceEqDiff, Nat.reduceAdd, Nat.reduceLeDiff, reduceCtorEq, Nat.reduceMul, Int.reduceToNat, Nat.mul_one, hb7, hb13, s23t1, s23t8, s23t9, s23m2022, s23f0, s23f6, s23f7, hb27, s9, s16, s15, s14]
         refine aops_orunN 1 _ _ ?_
         simp only [qq, Nat.reduceBEq, reduceIte, Nat.reduceEqDiff, Nat.reduceAdd, Nat.reduceLeDiff, reduceCtorEq, Nat.reduceMul, Int.reduceToNat, Nat.mul_one, hb7, hb13, s23t1, s23t8, s23t9, s23m2022, s23f0, s23f6, s23f7, hb27, s9, s16, s15, s14]
         refine aops_val (v := ?v32) rfl ?h32 ?_
         case h32 => simp only [qq, Nat.reduceBEq, reduceIte, Nat.reduceEqDiff, Nat.reduceAdd, Nat.reduceLeDiff, reduceCtorEq, Nat.reduceMul, Int.reduceToNat, Nat.mul_one, hb7, hb13, s23t1, s23t8, s23t9, s23m2022, s23f0, s23f6, s23f7, hb27, s9, s16, s15, s14]; first | (rw [idx_c un36 if4] <;> omega) | (rw [idx_o un36 if4] <;> omega) | (rw [idx_a un36 if4] <;> omega)
         simp only [qq, Nat.reduceBEq, reduceIte, Nat.reduceEqDiff, Nat.reduceAdd, Nat.reduceLeDiff, reduceCtorEq, Nat.reduceMul, Int.reduceToNat, Nat.mul_one, hb7, hb13, s23t1, s23t8, s23t9, s23m2022, s23f0, s23f6, s23f7, hb27, s9, s16, s15, s14]
         refine aops_orunN 1 _ _ ?_
         simp only [qq, Nat.reduceBEq, reduceIte, Nat.reduceEqDiff, Nat.reduceAdd, Nat.reduceLeDiff, reduceCtorEq, Nat.reduceMul, Int.reduceToNat, Nat.mul_one, hb7, hb13, s23t1, s23t8, s23t9, s23m2022, s23f0, s23f6, s23f7, hb27, s9, s16, s15, s14]
         refine aops_nil (hL30 _ ?_)
         simp only [qq, Nat.reduceBEq, reduceIte, Nat.reduceEqDiff, Nat.reduceAdd, Nat.reduceLeDiff, reduceCtorEq, Nat.reduceMul, Int.reduceToNat, Nat.mul_one, hb7, hb13, s23t1, s23t8, s23t9, s23m2022, s23f0, s23f6, s23f7, hb27, s9, s16, s15, s14]
         try simp only [rk_state]
         refine hK29 _ ?_
         refine awp_region_lit fun L33 hL33 => ?_
         refine aops_orunN 1 _ _ ?_
         simp only [qq, Nat.reduceBEq, reduceIte, Nat.reduceEqDiff, Nat.reduceAdd, Nat.reduceLeDiff, reduceCtorEq, Nat.reduceMul, Int.reduceToNat, Nat.mul_one, hb7, hb13, s23t1, s23t8, s23t9, s23m2022, s23f0, s23f6, s23f7, hb27, s9, s16, s15, s14]
         refine aops_val (v := ?v34) rfl ?h34 ?_
         case h34 => simp only [qq, Nat.reduceBEq, reduceIte, Nat.reduceEqDiff, Nat.reduceAdd, Nat.reduceLeDiff, reduceCtorEq, Nat.reduceMul, Int.reduceToNat, Nat.mul_one, hb7, hb13, s23t1, s23t8, s23t9, s23m2022, s23f0, s23f6, s23f7, hb27, s9, s16, s15, s14]; (rw [y_quo (by omega), wr_id] <;> first | rfl | (rw [Int.tdiv_eq_ediv_of_nonneg hd.1]; omega))
         simp only [qq, Nat.reduceBEq, reduceIte, Nat.reduceEqDiff, Nat.reduceAdd, Nat.reduceLeDiff, reduceCtorEq, Nat.reduceMul, Int.reduceToNat, Nat.mul_one, hb7, hb13, s23t1, s23t8, s23t9, s23m2022, s23f0, s23f6, s23f7, hb27, s9, s16, s15, s14]
         refine aops_orunN 1 _ _ ?_
         simp only [qq, Nat.reduceBEq, reduceIte, Nat.reduceEqDiff, Nat.reduceAdd, Nat.reduceLeDiff, reduceCtorEq, Nat.reduceMul, Int.reduceToNat, Nat.mul_one, hb7, hb13, s23t1, s23t8, s23t9, s23m2022, s23f0, s23f6, s23f7, hb27, s9, s16, s15, s14]
         refine aops_nil (hL33 _ ?_)
         simp only [qq, Nat.reduceBEq, reduceIte, Nat.reduceEqDiff, Nat.reduceAdd, Nat.reduceLeDiff, reduceCtorEq, Nat.reduceMul, Int.reduceToNat, Nat.mul_one, hb7, hb13, s23t1, s23t8, s23t9, s23m2022, s23f0, s23f6, s23f7, hb27, s9, s16, s15, s14]
         try simp only [rk_state]
         try simp only [rk_state]
         refine hK28 _ ?_
         as_aux_lemma =>
          refine awp_region_lit fun L35 hL35 => ?_
          refine aops_orunN 1 _ _ ?_
          simp only [qq, Nat.reduceBEq, reduceIte, Nat.reduceEqDiff, Nat.reduceAdd, Nat.reduceLeDiff, reduceCtorEq, Nat.reduceMul, Int.reduceToNat, Nat.mul_one, hb7, hb13, s23t1, s23t8, s23t9, s23m2022, s23f0, s23f6, s23f7, hb27, s9, s16, s15, s14]
          refine aops_val (v := ?v36) rfl ?h36 ?_
          case h36 => simp only [qq, Nat.reduceBEq, reduceIte, Nat.reduceEqDiff, Nat.reduceAdd, Nat.reduceLeDiff, reduceCtorEq, Nat.reduceMul, Int.reduceToNat, Nat.mul_one, hb7, hb13, s23t1, s23t8, s23t9, s23m2022, s23f0, s23f6, s23f7, hb27, s9, s16, s15, s14]; first | (rw [wr_id] <;> omega) | rfl
          simp only [qq, Nat.reduceBEq, reduceIte, Nat.reduceEqDiff, Nat.reduceAdd, Nat.reduceLeDiff, reduceCtorEq, Nat.reduceMul, Int.reduceToNat, Nat.mul_one, hb7, hb13, s23t1, s23t8, s23t9, s23m2022, s23f0, s23f6, s23f7, hb27, s9, s16, s15, s14]
          refine aops_orunN 1 _ _ ?_
          simp only [qq, Nat.reduceBEq, reduceIte, Nat.reduceEqDiff, Nat.reduceAdd, Nat.reduceLeDiff, reduceCtorEq, Nat.reduceMul, Int.reduceToNat, Nat.mul_one, hb7, hb13, s23t1, s23t8, s23t9, s23m2022, s23f0, s23f6, s23f7, hb27, s9, s16, s15, s14]
          refine aops_nil (hL35 _ ?_)
          simp only [qq, Nat.reduceBEq, reduceIte, Nat.reduceEqDiff, Nat.reduceAdd, Nat.reduceLeDiff, reduceCtorEq, Nat.reduceMul, Int.reduceToNat, Nat.mul_one, hb7, hb13, s23t1, s23t8, s23t9, s23m2022, s23f0, s23f6, s23f7, hb27, s9, s16, s15, s14]
          try simp only [rk_state]
          have hfn := fillB_next (n := n) (w := w.toNat) (j := j) (by omega)
          refine hK23 _ ((fun (j : Nat) => w.toNat - j) (j + 1)) ?_ ⟨j + 1, rfl, ?_, ?_, ?_, ?_, ?_⟩
          · (try simp only []); omega
          · first | omega | simp
          · (try simp only [qq, Nat.reduceBEq, reduceIte, Nat.reduceEqDiff, Nat.reduceAdd, Nat.reduceLeDiff, reduceCtorEq, Nat.reduceMul, Int.reduceToNat, Nat.mul_one, hb7, hb13, s23t1, s23t8, s23t9, s23m2022, s23f0, s23f6, s23f7, hb27, s9, s16, s15, s14])
            all_goals (rw [← div_two, Int.tdiv_eq_ediv_of_nonneg hd.1])
          · (try simp only [qq, Nat.reduceBEq, reduceIte, Nat.reduceEqDiff, Nat.reduceAdd, Nat.reduceLeDiff, reduceCtorEq, Nat.reduceMul, Int.reduceToNat, Nat.mul_one, hb7, hb13, s23t1, s23t8, s23t9, s23m2022, s23f0, s23f6, s23f7, hb27, s9, s16, s15, s14])
            all_goals (first | done | rfl | (simp only [AV.c.injEq, C.int.injEq, List.cons.injEq, and_true, true_and]; omega))
          · (try simp only [qq, Nat.reduceBEq, reduceIte, Nat.reduceEqDiff, Nat.reduceAdd, Nat.reduceLeDiff, reduceCtorEq, Nat.reduceMul, Int.reduceToNat, Nat.mul_one, hb7, hb13, s23t1, s23t8, s23t9, s23m2022, s23f0, s23f6, s23f7, hb27, s9, s16, s15, s14])
            all_goals (first | done | rfl | (simp only [AV.c.injEq, C.int.injEq, List.cons.injEq, and_true, true_and]; omega))
          · (try simp only [qq, Nat.reduceBEq, reduceIte, Nat.reduceEqDiff, Nat.reduceAdd, Nat.reduceLeDiff, reduceCtorEq, Nat.reduceMul, Int.reduceToNat, Nat.mul_one, hb7, hb13, s23t1, s23t8, s23t9, s23m2022, s23f0, s23f6, s23f7, hb27, s9, s16, s15, s14])
            all_goals (rw [← hfn]; simp [List.map_take, List.map_drop, kz, Function.comp_def])
       case b27 =>
        have hp27 := hb27
        try simp only [kb] at hp27
        all_goals try exact absurd hb27 (by decide)
        all_goals try (exfalso; omega)
        all_goals
         try simp only [hb27]
         have ej : j = w.toNat := by omega
         subst ej
         have s20 : (bitsN w.toNat n).take w.toNat = bitsN w.toNat n := List.take_of_length_le (by rw [bitsN_len]; omega)
         have s21 := bitsN_len w.toNat n
         refine aops_nil (hL26 _ _ (.frz 2022 4 (Rw boC (bitsN w.toNat n)) ([]) (by decide) ?r37_0 ?f37_0 (.refl _)) ?_)
         case r37_0 => (intro r hr; simp only [Rw, List.mem_map] at hr; obtain ⟨q, _, rfl⟩ := hr; simp only [tyf]; rfl)
         case f37_0 => ((try simp only [qq, Nat.reduceBEq, reduceIte, Nat.reduceEqDiff, Nat.reduceAdd, Nat.reduceLeDiff, reduceCtorEq, Nat.reduceMul, Int.reduceToNat, Nat.mul_one, hb7, hb13, s23t1, s23t8, s23t9, s23m2022, s23f0, s23f6, s23f7, hb27, s20, s21]); (rw [fillB_all]; simp [Rw, boC, List.map_flatten, List.flatten_eq_flatMap, List.flatMap_map, List.map_flatMap]; first | done | exact List.map_eq_flatMap))
         simp only [qq, Nat.reduceBEq, reduceIte, Nat.reduceEqDiff, Nat.reduceAdd, Nat.reduceLeDiff, reduceCtorEq, Nat.reduceMul, Int.reduceToNat, Nat.mul_one, hb7, hb13, s23t1, s23t8, s23t9, s23m2022, s23f0, s23f6, s23f7, hb27, s20, s21]
         try simp only [rk_state]
         refine hK25 _ ?_
         refine awp_cond (t := false) (by simp only [qq, Nat.reduceBEq, reduceIte, Nat.reduceEqDiff, Nat.reduceAdd, Nat.reduceLeDiff, reduceCtorEq, Nat.reduceMul, Int.reduceToNat, Nat.mul_one, hb7, hb13, s23t1, s23t8, s23t9, s23m2022, s23f0, s23f6, s23f7, hb27, s20, s21]) (fun h => ?_) (fun _ => ?_)
         case refine_1 => cases h
         refine awp_exit ?_
         simp only [rk_state, reduceIte, Nat.reduceEqDiff]
         try simp only [rk_state]
         refine hK19 _ ?_
         refine awp_seq_k fun K38 hK38 => ?_
         refine awp_region_lit fun L39 hL39 => ?_
         refine aops_orunN 3 _ _ ?_
         simp only [qq, Nat.reduceBEq, reduceIte, Nat.reduceEqDiff, Nat.reduceAdd, Nat.reduceLeDiff, reduceCtorEq, Nat.reduceMul, Int.reduceToNat, Nat.mul_one, hb7, hb13, s23t1, s23t8, s23t9, s23m2022, s23f0, s23f6, s23f7, hb27, s20, s21]
         refine aops_call_own (concat_bool_fun _ ?s40_0 ?s40_1) rfl rfl rfl rfl (by (try simp only [qq, Nat.reduceBEq, reduceIte, Nat.reduceEqDiff, Nat.reduceAdd, Nat.reduceLeDiff, reduceCtorEq, Nat.reduceMul, Int.reduceToNat, Nat.mul_one, hb7, hb13, s23t1, s23t8, s23t9, s23m2022, s23f0, s23f6, s23f7, hb27, s20, s21]); (repeat' (first | exact .nil | exact wk_c | exact wk_ownc | exact wk_nilsc | exact wk_nils | exact wk_fn | refine .cons ?_ ?_ | refine wk_agg ?_ | refine wk_fnL ?_))) rfl rfl rfl (by simp only [qq, Nat.reduceBEq, reduceIte, Nat.reduceEqDiff, Nat.reduceAdd, Nat.reduceLeDiff, reduceCtorEq, Nat.reduceMul, Int.reduceToNat, Nat.mul_one, hb7, hb13, s23t1, s23t8, s23t9, s23m2022, s23f0, s23f6, s23f7, hb27, s20, s21]) ?m40
         case s40_0 => (simp only [List.length_cons, List.length_nil]; omega)
         case s40_1 => (first | omega | (simp only [List.flatten_cons, List.flatten_nil, List.append_nil, List.length_append, rwR]; omega))
         simp only [qq, Nat.reduceBEq, reduceIte, Nat.reduceEqDiff, Nat.reduceAdd, Nat.reduceLeDiff, reduceCtorEq, Nat.reduceMul, Int.reduceToNat, List.flatten_cons, List.flatten_nil, List.append_nil, AV.setOwn, AV.setOwn1, Nat.mul_one, hb7, hb13, s23t1, s23t8, s23t9, s23m2022, s23f0, s23f6, s23f7, hb27, s20, s21]
         refine aops_orunN 2 _ _ ?_
         simp only [qq, Nat.reduceBEq, reduceIte, Nat.reduceEqDiff, Nat.reduceAdd, Nat.reduceLeDiff, reduceCtorEq, Nat.reduceMul, Int.reduceToNat, Nat.mul_one, hb7, hb13, s23t1, s23t8, s23t9, s23m2022, s23f0, s23f6, s23f7, hb27, s20, s21]
         refine aops_nil (hL39 _ ?_)
         simp only [qq, Nat.reduceBEq, reduceIte, Nat.reduceEqDiff, Nat.reduceAdd, Nat.reduceLeDiff, reduceCtorEq, Nat.reduceMul, Int.reduceToNat, Nat.mul_one, hb7, hb13, s23t1, s23t8, s23t9, s23m2022, s23f0, s23f6, s23f7, hb27, s20, s21]
         try simp only [rk_state]
         refine hK38 _ ?_
         refine awp_ret ?_
         try simp only [rk_state]
         first | refine ⟨_, 41, by simp only [qq, Nat.reduceBEq, reduceIte, Nat.reduceEqDiff, Nat.reduceAdd, Nat.reduceLeDiff, reduceCtorEq, Nat.reduceMul, Int.reduceToNat, resA, Try.results34, Nat.mul_one, hb7, hb13, s23t1, s23t8, s23t9, s23m2022, s23f0, s23f6, s23f7, hb27, s20, s21]; rfl, ?_, fun l hl => absurd rfl hl, fun l hl => absurd rfl hl⟩ | refine ⟨_, 0, by simp only [qq, Nat.reduceBEq, reduceIte, Nat.reduceEqDiff, Nat.reduceAdd, Nat.reduceLeDiff, reduceCtorEq, Nat.reduceMul, Int.reduceToNat, resA, Try.results34, Nat.mul_one, hb7, hb13, s23t1, s23t8, s23t9, s23m2022, s23f0, s23f6, s23f7, hb27, s20, s21]; rfl, ?_, fun l hl => absurd rfl hl, fun l hl => absurd rfl hl⟩
         simp only [packA]
         (simp only [putR]); first | (rw [if_neg (by unfold putOk; omega)]; (repeat' (first | exact .nil | exact wkR_c | exact wkR_own | exact wkR_nils | refine wkR_int ?_ | refine wkR_bool ?_ | refine wkR_sl ?_ | refine wkR_osl ?_ | refine wkR_nsl ?_ | refine wkR_oo ?_ | refine wkR_no ?_ | refine .cons ?_ ?_ | refine wkR_agg ?_ | refine wkR_tup ?_)) <;> rfl) | (rw [if_pos (by unfold putOk; omega)]; (repeat' (first | exact .nil | exact wkR_c | exact wkR_own | exact wkR_nils | refine wkR_int ?_ | refine wkR_bool ?_ | refine wkR_sl ?_ | refine wkR_osl ?_ | refine wkR_nsl ?_ | refine wkR_oo ?_ | refine wkR_no ?_ | refine .cons ?_ ?_ | refine wkR_agg ?_ | refine wkR_tup ?_)))
end Go.Proofs.Y
