/-
  What is proved: blocks: what Make, Points, Merge, Same and their references compute. Conditions: none.
-/
import Derived.Test.YtoihccclnkhmaaaC3c
import Derived.Test.YtoihccclnkhmaaaPA
import Derived.Test.YtoihccclnkhmaaaC5g
set_option linter.unusedVariables false
set_option linter.unusedSimpArgs false
set_option maxRecDepth 4000
namespace Go.Proofs.Y
open Go.Rb
set_option maxHeartbeats 4000000 in
set_option maxRecDepth 50000 in
theorem make_fun (ps : List Pt) (hn : ps.length < 4611686018427387904) : Fun Try.prog 51 [.c (.sl 34 (Rw Pt.cs ps))] nomem (.tup [.agg [.c (.int .i64 ((makeR ps).1).n), .c (.int .i64 ((makeR ps).1).fr), .c (.int .i64 ((makeR ps).1).to), .c (.sl 4 (Rw boC ((makeR ps).1).bits))], .c (.int .i64 (makeR ps).2)]) nomem := by
 refine fun_of_awp Try.func51 rfl (by decide +kernel) (by decide +kernel) (Nat.le_of_ble_eq_true rfl) (fun _ _ => rfl) (fun _ _ => rfl) ?_
 refine seq_reg 2 fun L1 hL1 => ?_
 simp only [qq, seval, -Nat.reducePow, reduceIte, reduceCtorEq]
 refine nil_z hL1 ?_
 refine seq_reg 1 fun L2 hL2 => ?_
 simp only [qq, seval, -Nat.reducePow, reduceIte, reduceCtorEq]
 refine aops_call_own (pack_fun _) rfl rfl rfl rfl (by (try simp only [qq, seval, -Nat.reducePow, reduceIte, reduceCtorEq]); (repeat' (first | exact .nil | exact wk_c | exact wk_ownc | exact wk_nilsc | exact wk_nils | exact wk_fn | refine .cons ?_ ?_ | refine wk_agg ?_ | refine wk_fnL ?_))) rfl rfl rfl (by simp only [qq, seval, -Nat.reducePow, reduceIte, reduceCtorEq]) ?_
 simp only [qq, seval, -Nat.reducePow, reduceIte, reduceCtorEq, AV.setOwn, AV.setOwn1]
 refine aops_orunN 5 _ _ ?_
 simp only [qq, seval, -Nat.reducePow, reduceIte, reduceCtorEq]
 refine aops_nil (hL2 _ ?_)
 simp only [qq, seval, -Nat.reducePow, reduceIte, reduceCtorEq]
 refine awp_seq_k fun K4 hK4 => ?_
 refine seq_reg 2 fun L5 hL5 => ?_
 simp only [qq, seval, -Nat.reducePow, reduceIte, reduceCtorEq]
 refine nil_z hL5 ?_
 as_aux_lemma =>
  refine awp_cond (t := ?t6) ?h6 (fun hb6 => ?a6) (fun hb6 => ?b6)
  case h6 => simp only [qq, seval, -Nat.reducePow, reduceIte, reduceCtorEq]; rfl
  case a6 =>
   have hp6 := hb6
   try simp only [kb] at hp6
   refine seq_reg 4 fun L7 hL7 => ?_
   simp only [qq, seval, -Nat.reducePow, reduceIte, reduceCtorEq, hb6]
   refine nil_z hL7 ?_
   refine awp_ret ?_
   try simp only [rk_state]
   refine ⟨_, 0, by simp only [qq, seval, -Nat.reducePow, reduceIte, reduceCtorEq, resA, Try.results51, hb6]; rfl, ?_, nomem_a, nomem_a⟩
   simp only [packA]
   unfold makeR; rw [if_pos (by omega)]; (repeat' (first | exact .nil | exact wkR_c | exact wkR_own | exact wkR_nils | refine wkR_int ?_ | refine wkR_bool ?_ | refine wkR_sl ?_ | refine wkR_osl ?_ | refine wkR_nsl ?_ | refine wkR_oo ?_ | refine wkR_no ?_ | refine .cons ?_ ?_ | refine wkR_agg ?_ | refine wkR_tup ?_)) <;> first | rfl | omega | (dsimp only; omega)
  case b6 =>
   have hp6 := hb6
   try simp only [kb] at hp6
   refine awp_skip ?_
   refine hK4 _ ?_
   refine awp_seq_k fun K8 hK8 => ?_
   refine seq_reg 3 fun L9 hL9 => ?_
   simp only [qq, seval, -Nat.reducePow, reduceIte, reduceCtorEq, hb6]
   refine nil_z hL9 ?_
   refine awp_cond (t := ?t10) ?h10 (fun hb10 => ?a10) (fun hb10 => ?b10)
   case h10 => simp only [qq, seval, -Nat.reducePow, reduceIte, reduceCtorEq, hb6]; rfl
   case a10 =>
    have hp10 := hb10
    try simp only [kb] at hp10
    refine seq_reg 3 fun L11 hL11 => ?_
    simp only [qq, seval, -Nat.reducePow, reduceIte, reduceCtorEq, hb6, hb10]
    refine nil_z hL11 ?_
    as_aux_lemma =>
     refine awp_ret ?_
     try simp only [rk_state]
     refine ⟨_, 0, by simp only [qq, seval, -Nat.reducePow, reduceIte, reduceCtorEq, resA, Try.results51, hb6, hb10]; rfl, ?_, nomem_a, nomem_a⟩
     simp only [packA]
     unfold makeR; rw [if_neg (by omega), if_pos (by omega)]; (repeat' (first | exact .nil | exact wkR_c | exact wkR_own | exact wkR_nils | refine wkR_int ?_ | refine wkR_bool ?_ | refine wkR_sl ?_ | refine wkR_osl ?_ | refine wkR_nsl ?_ | refine wkR_oo ?_ | refine wkR_no ?_ | refine .cons ?_ ?_ | refine wkR_agg ?_ | refine wkR_tup ?_)) <;> first | rfl | omega | (dsimp only; omega)
   case b10 =>
    have hp10 := hb10
    try simp only [kb] at hp10
    refine awp_skip ?_
    refine hK8 _ ?_
    have s9 : ((ps.length : Int) - 1).toNat = ps.length - 1 := by omega
    refine seq_regd 3 (by decide +kernel) fun L12 hL12 => ?_
    simp only [qq, seval, -Nat.reducePow, reduceIte, reduceCtorEq, hb6, hb10, s9]
    refine aops_val (v := ?v13) rfl ?h13 ?_
    case h13 => simp only [qq, seval, -Nat.reducePow, reduceIte, reduceCtorEq, hb6, hb10, s9]; first | (rw [idx_c un22 if34] <;> omega) | (rw [idx_o un22 if34] <;> omega) | (rw [idx_a un22 if34] <;> omega)
    simp only [qq, seval, -Nat.reducePow, reduceIte, reduceCtorEq, hb6, hb10, s9]
    refine aops_orunN 5 _ _ ?_
    simp only [qq, seval, -Nat.reducePow, reduceIte, reduceCtorEq, hb6, hb10, s9]
    refine aops_val (v := ?v14) rfl ?h14 ?_
    case h14 => simp only [qq, seval, -Nat.reducePow, reduceIte, reduceCtorEq, hb6, hb10, s9]; first | (rw [wr_id] <;> omega) | rfl
    simp only [qq, seval, -Nat.reducePow, reduceIte, reduceCtorEq, hb6, hb10, s9]
    refine aops_val (v := ?v15) rfl ?h15 ?_
    case h15 => simp only [qq, seval, -Nat.reducePow, reduceIte, reduceCtorEq, hb6, hb10, s9]; first | (rw [idx_c un22 if34] <;> omega) | (rw [idx_o un22 if34] <;> omega) | (rw [idx_a un22 if34] <;> omega)
    simp only [qq, seval, -Nat.reducePow, reduceIte, reduceCtorEq, hb6, hb10, s9]
    refine aops_orunN 6 _ _ ?_
    simp only [qq, seval, -Nat.reducePow, reduceIte, reduceCtorEq, hb6, hb10, s9]
    refine nil_z hL12 ?_
    refine awp_ret ?_
    try simp only [rk_state]
    refine ⟨_, 0, by simp only [qq, seval, -Nat.reducePow, reduceIte, reduceCtorEq, resA, Try.results51, hb6, hb10, s9]; rfl, ?_, nomem_a, nomem_a⟩
    simp only [packA]
    unfold makeR; rw [if_neg (by omega), if_neg (by omega)]; (repeat' (first | exact .nil | exact wkR_c | exact wkR_own | exact wkR_nils | refine wkR_int ?_ | refine wkR_bool ?_ | refine wkR_sl ?_ | refine wkR_osl ?_ | refine wkR_nsl ?_ | refine wkR_oo ?_ | refine wkR_no ?_ | refine .cons ?_ ?_ | refine wkR_agg ?_ | refine wkR_tup ?_)) <;> first | rfl | omega | (dsimp only; omega)
set_option maxHeartbeats 4000000 in
set_option maxRecDepth 50000 in
theorem blockof_fun (ps : List Pt) (hn : ps.length < 4611686018427387904) : Fun Try.prog 54 [.c (.sl 34 (Rw Pt.cs ps))] nomem (.tup [.agg [.c (.int .i64 ((makeR ps).1).n), .c (.int .i64 ((makeR ps).1).fr), .c (.int .i64 ((makeR ps).1).to), .c (.sl 4 (Rw boC ((makeR ps).1).bits))], .c (.int .i64 (makeR ps).2)]) nomem := by
 refine fun_of_awp Try.func54 rfl (by decide +kernel) (by decide +kernel) (Nat.le_of_ble_eq_true rfl) (fun _ _ => rfl) (fun _ _ => rfl) ?_
 refine seq_reg 2 fun L1 hL1 => ?_
 simp only [qq, seval, -Nat.reducePow, reduceIte, reduceCtorEq]
 refine nil_z hL1 ?_
 refine seq_reg 1 fun L2 hL2 => ?_
 simp only [qq, seval, -Nat.reducePow, reduceIte, reduceCtorEq]
 refine aops_call_own (packedof_fun _) rfl rfl rfl rfl (by (try simp only [qq, seval, -Nat.reducePow, reduceIte, reduceCtorEq]); (repeat' (first | exact .nil | exact wk_c | exact wk_ownc | exact wk_nilsc | exact wk_nils | exact wk_fn | refine .cons ?_ ?_ | refine wk_agg ?_ | refine wk_fnL ?_))) rfl rfl rfl (by simp only [qq, seval, -Nat.reducePow, reduceIte, reduceCtorEq]) ?_
 simp only [qq, seval, -Nat.reducePow, reduceIte, reduceCtorEq, AV.setOwn, AV.setOwn1]
 refine aops_orunN 5 _ _ ?_
 simp only [qq, seval, -Nat.reducePow, reduceIte, reduceCtorEq]
 refine aops_nil (hL2 _ ?_)
 simp only [qq, seval, -Nat.reducePow, reduceIte, reduceCtorEq]
 refine awp_seq_k fun K4 hK4 => ?_
 refine seq_reg 3 fun L5 hL5 => ?_
 simp only [qq, seval, -Nat.reducePow, reduceIte, reduceCtorEq]
 refine aops_part (b := ?p6) 13 ?h6 (fun hb6 => ?a6) (fun hb6 => ?b6)
 case h6 => simp only [qq, seval, -Nat.reducePow, reduceIte, reduceCtorEq]; rfl
 case a6 =>
  have hp6 := hb6
  try simp only [kb] at hp6
  try simp only [hb6]
  refine aops_orunN 4 _ _ ?_
  simp only [qq, seval, -Nat.reducePow, reduceIte, reduceCtorEq, hb6]
  refine nil_z hL5 ?_
  as_aux_lemma =>
   refine awp_cond (t := ?t7) ?h7 (fun hb7 => ?a7) (fun hb7 => ?b7)
   case h7 => simp only [qq, seval, -Nat.reducePow, reduceIte, reduceCtorEq, hb6]; rfl
   case a7 =>
    have hp7 := hb7
    try simp only [kb] at hp7
    refine reg 1 fun L8 hL8 => ?_
    simp only [qq, seval, -Nat.reducePow, reduceIte, reduceCtorEq, hb6, hb7]
    refine nil_q hL8 ?_
    refine hK4 _ ?_
    refine awp_seq_k fun K9 hK9 => ?_
    refine seq_reg 2 fun L10 hL10 => ?_
    simp only [qq, seval, -Nat.reducePow, reduceIte, reduceCtorEq, hb6, hb7]
    refine nil_z hL10 ?_
    refine awp_cond (t := ?t11) ?h11 (fun hb11 => ?a11) (fun hb11 => ?b11)
    case h11 => simp only [qq, seval, -Nat.reducePow, reduceIte, reduceCtorEq, hb6, hb7]; rfl
    case a11 =>
     have hp11 := hb11
     try simp only [kb] at hp11
     refine seq_reg 4 fun L12 hL12 => ?_
     simp only [qq, seval, -Nat.reducePow, reduceIte, reduceCtorEq, hb6, hb7, hb11]
     refine nil_z hL12 ?_
     as_aux_lemma =>
      refine awp_ret ?_
      try simp only [rk_state]
      refine ⟨_, 0, by simp only [qq, seval, -Nat.reducePow, reduceIte, reduceCtorEq, resA, Try.results54, hb6, hb7, hb11]; rfl, ?_, nomem_a, nomem_a⟩
      simp only [packA]
      unfold makeR; first | (rw [if_pos (by omega)]; (repeat' (first | exact .nil | exact wkR_c | exact wkR_own | exact wkR_nils | refine wkR_int ?_ | refine wkR_bool ?_ | refine wkR_sl ?_ | refine wkR_osl ?_ | refine wkR_nsl ?_ | refine wkR_oo ?_ | refine wkR_no ?_ | refine .cons ?_ ?_ | refine wkR_agg ?_ | refine wkR_tup ?_)) <;> first | rfl | omega | (dsimp only; omega)) | (rw [if_neg (by omega), if_pos (by omega)]; (repeat' (first | exact .nil | exact wkR_c | exact wkR_own | exact wkR_nils | refine wkR_int ?_ | refine wkR_bool ?_ | refine wkR_sl ?_ | refine wkR_osl ?_ | refine wkR_nsl ?_ | refine wkR_oo ?_ | refine wkR_no ?_ | refine .cons ?_ ?_ | refine wkR_agg ?_ | refine wkR_tup ?_)) <;> first | rfl | omega | (dsimp only; omega))
    case b11 =>
     first | exact absurd hb11 (by decide) | (have hp11 := hb11; (try simp only [kb] at hp11); exfalso; omega)
   case b7 =>
    have hp7 := hb7
    try simp only [kb] at hp7
    refine awp_skip ?_
    refine hK4 _ ?_
    refine awp_seq_k fun K13 hK13 => ?_
    refine seq_reg 2 fun L14 hL14 => ?_
    simp only [qq, seval, -Nat.reducePow, reduceIte, reduceCtorEq, hb6, hb7]
    refine nil_z hL14 ?_
    refine awp_cond (t := ?t15) ?h15 (fun hb15 => ?a15) (fun hb15 => ?b15)
    case h15 => simp only [qq, seval, -Nat.reducePow, reduceIte, reduceCtorEq, hb6, hb7]; rfl
    case a15 =>
     first | exact absurd hb15 (by decide) | (have hp15 := hb15; (try simp only [kb] at hp15); exfalso; omega)
    case b15 =>
     have hp15 := hb15
     try simp only [kb] at hp15
     refine awp_skip ?_
     refine hK13 _ ?_
     have s9 : ((ps.length : Int) - 1).toNat = ps.length - 1 := by omega
     refine seq_regd 3 (by decide +kernel) fun L16 hL16 => ?_
     simp only [qq, seval, -Nat.reducePow, reduceIte, reduceCtorEq, hb6, hb7, hb15, s9]
     refine aops_val (v := ?v17) rfl ?h17 ?_
     case h17 => simp only [qq, seval, -Nat.reducePow, reduceIte, reduceCtorEq, hb6, hb7, hb15, s9]; first | (rw [idx_c un22 if34] <;> omega) | (rw [idx_o un22 if34] <;> omega) | (rw [idx_a un22 if34] <;> omega)
     simp only [qq, seval, -Nat.reducePow, reduceIte, reduceCtorEq, hb6, hb7, hb15, s9]
     refine aops_orunN 5 _ _ ?_
     simp only [qq, seval, -Nat.reducePow, reduceIte, reduceCtorEq, hb6, hb7, hb15, s9]
     refine aops_val (v := ?v18) rfl ?h18 ?_
     case h18 => simp only [qq, seval, -Nat.reducePow, reduceIte, reduceCtorEq, hb6, hb7, hb15, s9]; first | (rw [wr_id] <;> omega) | rfl
     simp only [qq, seval, -Nat.reducePow, reduceIte, reduceCtorEq, hb6, hb7, hb15, s9]
     refine aops_val (v := ?v19) rfl ?h19 ?_
     case h19 => simp only [qq, seval, -Nat.reducePow, reduceIte, reduceCtorEq, hb6, hb7, hb15, s9]; first | (rw [idx_c un22 if34] <;> omega) | (rw [idx_o un22 if34] <;> omega) | (rw [idx_a un22 if34] <;> omega)
     simp only [qq, seval, -Nat.reducePow, reduceIte, reduceCtorEq, hb6, hb7, hb15, s9]
     refine aops_orunN 6 _ _ ?_
     simp only [qq, seval, -Nat.reducePow, reduceIte, reduceCtorEq, hb6, hb7, hb15, s9]
     refine nil_z hL16 ?_
     refine awp_ret ?_
     try simp only [rk_state]
     refine ⟨_, 0, by simp only [qq, seval, -Nat.reducePow, reduceIte, reduceCtorEq, resA, Try.results54, hb6, hb7, hb15, s9]; rfl, ?_, nomem_a, nomem_a⟩
     simp only [packA]
     unfold makeR; rw [if_neg (by omega), if_neg (by omega)]; (repeat' (first | exact .nil | exact wkR_c | exact wkR_own | exact wkR_nils | refine wkR_int ?_ | refine wkR_bool ?_ | refine wkR_sl ?_ | refine wkR_osl ?_ | refine wkR_nsl ?_ | refine wkR_oo ?_ | refine wkR_no ?_ | refine .cons ?_ ?_ | refine wkR_agg ?_ | refine wkR_tup ?_)) <;> first | rfl | omega | (dsimp only; omega)
 case b6 =>
  have hp6 := hb6
  try simp only [kb] at hp6
  try simp only [hb6]
  refine aops_orunN 4 _ _ ?_
  simp only [qq, seval, -Nat.reducePow, reduceIte, reduceCtorEq, hb6]
  refine nil_z hL5 ?_
  refine awp_cond (t := false) (by simp only [qq, seval, -Nat.reducePow, reduceIte, reduceCtorEq, hb6]) (fun h => ?_) (fun _ => ?_)
  case refine_1 => cases h
  refine awp_skip ?_
  refine hK4 _ ?_
  refine awp_seq_k fun K20 hK20 => ?_
  refine seq_reg 2 fun L21 hL21 => ?_
  simp only [qq, seval, -Nat.reducePow, reduceIte, reduceCtorEq, hb6]
  refine nil_z hL21 ?_
  as_aux_lemma =>
   refine awp_cond (t := ?t22) ?h22 (fun hb22 => ?a22) (fun hb22 => ?b22)
   case h22 => simp only [qq, seval, -Nat.reducePow, reduceIte, reduceCtorEq, hb6]; rfl
   case a22 =>
    have hp22 := hb22
    try simp only [kb] at hp22
    refine seq_reg 4 fun L23 hL23 => ?_
    simp only [qq, seval, -Nat.reducePow, reduceIte, reduceCtorEq, hb6, hb22]
    refine nil_z hL23 ?_
    refine awp_ret ?_
    try simp only [rk_state]
    refine ⟨_, 0, by simp only [qq, seval, -Nat.reducePow, reduceIte, reduceCtorEq, resA, Try.results54, hb6, hb22]; rfl, ?_, nomem_a, nomem_a⟩
    simp only [packA]
    unfold makeR; first | (rw [if_pos (by omega)]; (repeat' (first | exact .nil | exact wkR_c | exact wkR_own | exact wkR_nils | refine wkR_int ?_ | refine wkR_bool ?_ | refine wkR_sl ?_ | refine wkR_osl ?_ | refine wkR_nsl ?_ | refine wkR_oo ?_ | refine wkR_no ?_ | refine .cons ?_ ?_ | refine wkR_agg ?_ | refine wkR_tup ?_)) <;> first | rfl | omega | (dsimp only; omega)) | (rw [if_neg (by omega), if_pos (by omega)]; (repeat' (first | exact .nil | exact wkR_c | exact wkR_own | exact wkR_nils | refine wkR_int ?_ | refine wkR_bool ?_ | refine wkR_sl ?_ | refine wkR_osl ?_ | refine wkR_nsl ?_ | refine wkR_oo ?_ | refine wkR_no ?_ | refine .cons ?_ ?_ | refine wkR_agg ?_ | refine wkR_tup ?_)) <;> first | rfl | omega | (dsimp only; omega))
   case b22 =>
    first | exact absurd hb22 (by decide) | (have hp22 := hb22; (try simp only [kb] at hp22); exfalso; omega)
set_option maxHeartbeats 4000000 in
set_option maxRecDepth 50000 in
theorem pts_fun (x : Bk) (hlx : x.bits.length ≤ 140737488355200) : Fun Try.prog 52 [.agg [.c (.int .i64 x.n), .c (.int .i64 x.fr), .c (.int .i64 x.to), .c (.sl 4 (Rw boC x.bits))]] nomem (.tup [.own false 0 34 (Rw Pt.cs (ptsR x).1), .c (.int .i64 (ptsR x).2)]) nomem := by
 refine fun_of_awp Try.func52 rfl (by decide +kernel) (by decide +kernel) (Nat.le_of_ble_eq_true rfl) (fun _ _ => rfl) (fun _ _ => rfl) ?_
 refine seq_reg 3 fun L1 hL1 => ?_
 simp only [qq, seval, -Nat.reducePow, reduceIte, reduceCtorEq]
 refine nil_z hL1 ?_
 refine seq_reg 4 fun L2 hL2 => ?_
 simp only [qq, seval, -Nat.reducePow, reduceIte, reduceCtorEq]
 refine aops_call_own (unpack_fun _ _ ?s3_0) rfl rfl rfl rfl (by (try simp only [qq, seval, -Nat.reducePow, reduceIte, reduceCtorEq]); (repeat' (first | exact .nil | exact wk_c | exact wk_ownc | exact wk_nilsc | exact wk_nils | exact wk_fn | refine .cons ?_ ?_ | refine wk_agg ?_ | refine wk_fnL ?_))) rfl rfl rfl (by simp only [qq, seval, -Nat.reducePow, reduceIte, reduceCtorEq]) ?m3
 case s3_0 => first | assumption | omega | decide +kernel | (simp only [List.length_take, List.length_drop]; omega)
 simp only [qq, seval, -Nat.reducePow, reduceIte, reduceCtorEq, AV.setOwn, AV.setOwn1]
 refine aops_orunN 5 _ _ ?_
 simp only [qq, seval, -Nat.reducePow, reduceIte, reduceCtorEq]
 refine aops_nil (hL2 _ ?_)
 simp only [qq, seval, -Nat.reducePow, reduceIte, reduceCtorEq]
 refine awp_seq_k fun K4 hK4 => ?_
 have hu := unpackR_len x.bits x.n
 have s9 : ((((unpackR x.bits x.n)).1.length : Int) - 1).toNat = ((unpackR x.bits x.n)).1.length - 1 := by omega
 refine seq_reg 2 fun L5 hL5 => ?_
 simp only [qq, seval, -Nat.reducePow, reduceIte, reduceCtorEq, s9]
 refine nil_z hL5 ?_
 as_aux_lemma =>
  refine awp_cond (t := ?t6) ?h6 (fun hb6 => ?a6) (fun hb6 => ?b6)
  case h6 => simp only [qq, seval, -Nat.reducePow, reduceIte, reduceCtorEq, s9]; rfl
  case a6 =>
   have hp6 := hb6
   try simp only [kb] at hp6
   refine seq_reg 3 fun L7 hL7 => ?_
   simp only [qq, seval, -Nat.reducePow, reduceIte, reduceCtorEq, s9, hb6]
   refine nil_z hL7 ?_
   refine awp_ret ?_
   try simp only [rk_state]
   refine ⟨_, 11, by simp only [qq, seval, -Nat.reducePow, reduceIte, reduceCtorEq, resA, Try.results52, s9, hb6]; rfl, ?_, nomem_a, nomem_a⟩
   simp only [packA]
   unfold ptsR; rw [if_pos (by omega)]; (repeat' (first | exact .nil | exact wkR_c | exact wkR_own | exact wkR_nils | refine wkR_int ?_ | refine wkR_bool ?_ | refine wkR_sl ?_ | refine wkR_osl ?_ | refine wkR_nsl ?_ | refine wkR_oo ?_ | refine wkR_no ?_ | refine .cons ?_ ?_ | refine wkR_agg ?_ | refine wkR_tup ?_)) <;> first | rfl | omega | (dsimp only; omega)
  case b6 =>
   have hp6 := hb6
   try simp only [kb] at hp6
   refine awp_skip ?_
   refine hK4 _ ?_
   refine awp_seq_k fun K8 hK8 => ?_
   refine seq_regd 4 (by decide +kernel) fun L9 hL9 => ?_
   simp only [qq, seval, -Nat.reducePow, reduceIte, reduceCtorEq, s9, hb6]
   refine aops_part (b := ?p10) 20 ?h10 (fun hb10 => ?a10) (fun hb10 => ?b10)
   case h10 => simp only [qq, seval, -Nat.reducePow, reduceIte, reduceCtorEq, s9, hb6]; rfl
   case a10 =>
    have hp10 := hb10
    try simp only [kb] at hp10
    try simp only [hb10]
    refine aops_orunN 20 _ _ ?_
    simp only [qq, seval, -Nat.reducePow, reduceIte, reduceCtorEq, s9, hb6, hb10]
    refine nil_z hL9 ?_
    refine awp_cond (t := true) (by simp only [qq, seval, -Nat.reducePow, reduceIte, reduceCtorEq, s9, hb6, hb10]) (fun _ => ?_) (fun h => ?_)
    case refine_2 => cases h
    refine seq_reg 2 fun L11 hL11 => ?_
    simp only [qq, seval, -Nat.reducePow, reduceIte, reduceCtorEq, s9, hb6, hb10]
    refine nil_z hL11 ?_
    as_aux_lemma =>
     refine awp_ret ?_
     try simp only [rk_state]
     refine ⟨_, 11, by simp only [qq, seval, -Nat.reducePow, reduceIte, reduceCtorEq, resA, Try.results52, s9, hb6, hb10]; rfl, ?_, nomem_a, nomem_a⟩
     simp only [packA]
     unfold ptsR; rw [if_neg (by omega), if_pos (by omega)]; (repeat' (first | exact .nil | exact wkR_c | exact wkR_own | exact wkR_nils | refine wkR_int ?_ | refine wkR_bool ?_ | refine wkR_sl ?_ | refine wkR_osl ?_ | refine wkR_nsl ?_ | refine wkR_oo ?_ | refine wkR_no ?_ | refine .cons ?_ ?_ | refine wkR_agg ?_ | refine wkR_tup ?_)) <;> first | rfl | omega | (dsimp only; omega)
   case b10 =>
    have hp10 := hb10
    try simp only [kb] at hp10
    try simp only [hb10]
    refine aops_orunN 1 _ _ ?_
    simp only [qq, seval, -Nat.reducePow, reduceIte, reduceCtorEq, s9, hb6, hb10]
    refine aops_val (v := ?v12) (by simp only [qq, seval, -Nat.reducePow, reduceIte, reduceCtorEq, s9, hb6, hb10]) ?h12 ?_
    case h12 => simp only [qq, seval, -Nat.reducePow, reduceIte, reduceCtorEq, s9, hb6, hb10]; first | (rw [idx_c un22 if34] <;> omega) | (rw [idx_o un22 if34] <;> omega) | (rw [idx_a un22 if34] <;> omega)
    simp only [qq, seval, -Nat.reducePow, reduceIte, reduceCtorEq, s9, hb6, hb10]
    refine aops_orunN 7 _ _ ?_
    simp only [qq, seval, -Nat.reducePow, reduceIte, reduceCtorEq, s9, hb6, hb10]
    refine aops_part (b := ?p13) 29 ?h13 (fun hb13 => ?a13) (fun hb13 => ?b13)
    case h13 => simp only [qq, seval, -Nat.reducePow, reduceIte, reduceCtorEq, s9, hb6, hb10]; rfl
    case a13 =>
     have hp13 := hb13
     try simp only [kb] at hp13
     try simp only [hb13]
     refine aops_orunN 11 _ _ ?_
     simp only [qq, seval, -Nat.reducePow, reduceIte, reduceCtorEq, s9, hb6, hb10, hb13]
     refine nil_z hL9 ?_
     refine awp_cond (t := true) (by simp only [qq, seval, -Nat.reducePow, reduceIte, reduceCtorEq, s9, hb6, hb10, hb13]) (fun _ => ?_) (fun h => ?_)
     case refine_2 => cases h
     refine seq_reg 2 fun L14 hL14 => ?_
     simp only [qq, seval, -Nat.reducePow, reduceIte, reduceCtorEq, s9, hb6, hb10, hb13]
     refine nil_z hL14 ?_
     refine awp_ret ?_
     try simp only [rk_state]
     refine ⟨_, 11, by simp only [qq, seval, -Nat.reducePow, reduceIte, reduceCtorEq, resA, Try.results52, s9, hb6, hb10, hb13]; rfl, ?_, nomem_a, nomem_a⟩
     simp only [packA]
     unfold ptsR; rw [if_neg (by omega), if_pos (by omega)]; (repeat' (first | exact .nil | exact wkR_c | exact wkR_own | exact wkR_nils | refine wkR_int ?_ | refine wkR_bool ?_ | refine wkR_sl ?_ | refine wkR_osl ?_ | refine wkR_nsl ?_ | refine wkR_oo ?_ | refine wkR_no ?_ | refine .cons ?_ ?_ | refine wkR_agg ?_ | refine wkR_tup ?_)) <;> first | rfl | omega | (dsimp only; omega)
    case b13 =>
     have hp13 := hb13
     try simp only [kb] at hp13
     try simp only [hb13]
     refine aops_orunN 3 _ _ ?_
     simp only [qq, seval, -Nat.reducePow, reduceIte, reduceCtorEq, s9, hb6, hb10, hb13]
     refine aops_val (v := ?v15) (by simp only [qq, seval, -Nat.reducePow, reduceIte, reduceCtorEq, s9, hb6, hb10, hb13]) ?h15 ?_
     case h15 => simp only [qq, seval, -Nat.reducePow, reduceIte, reduceCtorEq, s9, hb6, hb10, hb13]; first | (rw [wr_id] <;> omega) | rfl
     simp only [qq, seval, -Nat.reducePow, reduceIte, reduceCtorEq, s9, hb6, hb10, hb13]
     refine aops_val (v := ?v16) (by simp only [qq, seval, -Nat.reducePow, reduceIte, reduceCtorEq, s9, hb6, hb10, hb13]) ?h16 ?_
     case h16 => simp only [qq, seval, -Nat.reducePow, reduceIte, reduceCtorEq, s9, hb6, hb10, hb13]; first | (rw [idx_c un22 if34] <;> omega) | (rw [idx_o un22 if34] <;> omega) | (rw [idx_a un22 if34] <;> omega)
     simp only [qq, seval, -Nat.reducePow, reduceIte, reduceCtorEq, s9, hb6, hb10, hb13]
     refine aops_orunN 6 _ _ ?_
     simp only [qq, seval, -Nat.reducePow, reduceIte, reduceCtorEq, s9, hb6, hb10, hb13]
     refine nil_z hL9 ?_
     refine awp_cond (t := ?t17) ?h17 (fun hb17 => ?a17) (fun hb17 => ?b17)
     case h17 => simp only [qq, seval, -Nat.reducePow, reduceIte, reduceCtorEq, s9, hb6, hb10, hb13]; rfl
     case a17 =>
      have hp17 := hb17
      try simp only [kb] at hp17
      refine seq_reg 2 fun L18 hL18 => ?_
      simp only [qq, seval, -Nat.reducePow, reduceIte, reduceCtorEq, s9, hb6, hb10, hb13, hb17]
      refine nil_z hL18 ?_
      refine awp_ret ?_
      try simp only [rk_state]
      refine ⟨_, 11, by simp only [qq, seval, -Nat.reducePow, reduceIte, reduceCtorEq, resA, Try.results52, s9, hb6, hb10, hb13, hb17]; rfl, ?_, nomem_a, nomem_a⟩
      simp only [packA]
      unfold ptsR; rw [if_neg (by omega), if_pos (by omega)]; (repeat' (first | exact .nil | exact wkR_c | exact wkR_own | exact wkR_nils | refine wkR_int ?_ | refine wkR_bool ?_ | refine wkR_sl ?_ | refine wkR_osl ?_ | refine wkR_nsl ?_ | refine wkR_oo ?_ | refine wkR_no ?_ | refine .cons ?_ ?_ | refine wkR_agg ?_ | refine wkR_tup ?_)) <;> first | rfl | omega | (dsimp only; omega)
     case b17 =>
      have hp17 := hb17
      try simp only [kb] at hp17
      refine awp_skip ?_
      refine hK8 _ ?_
      refine seq_reg 3 fun L19 hL19 => ?_
      simp only [qq, seval, -Nat.reducePow, reduceIte, reduceCtorEq, s9, hb6, hb10, hb13, hb17]
      refine nil_z hL19 ?_
      as_aux_lemma =>
       refine awp_ret ?_
       try simp only [rk_state]
       refine ⟨_, 11, by simp only [qq, seval, -Nat.reducePow, reduceIte, reduceCtorEq, resA, Try.results52, s9, hb6, hb10, hb13, hb17]; rfl, ?_, nomem_a, nomem_a⟩
       simp only [packA]
       unfold ptsR; rw [if_neg (by omega), if_neg (by omega)]; (repeat' (first | exact .nil | exact wkR_c | exact wkR_own | exact wkR_nils | refine wkR_int ?_ | refine wkR_bool ?_ | refine wkR_sl ?_ | refine wkR_osl ?_ | refine wkR_nsl ?_ | refine wkR_oo ?_ | refine wkR_no ?_ | refine .cons ?_ ?_ | refine wkR_agg ?_ | refine wkR_tup ?_)) <;> first | rfl | omega | (dsimp only; omega)
set_option maxHeartbeats 4000000 in
set_option maxRecDepth 50000 in
theorem ptsof_fun (x : Bk) (hlx : x.bits.length ≤ 140737488355200) : Fun Try.prog 55 [.agg [.c (.int .i64 x.n), .c (.int .i64 x.fr), .c (.int .i64 x.to), .c (.sl 4 (Rw boC x.bits))]] nomem (.tup [.c (.sl 34 (Rw Pt.cs (ptsR x).1)), .c (.int .i64 (ptsR x).2)]) nomem := by
 refine fun_of_awp Try.func55 rfl (by decide +kernel) (by decide +kernel) (Nat.le_of_ble_eq_true rfl) (fun _ _ => rfl) (fun _ _ => rfl) ?_
 refine seq_reg 3 fun L1 hL1 => ?_
 simp only [qq, seval, -Nat.reducePow, reduceIte, reduceCtorEq]
 refine nil_z hL1 ?_
 refine seq_reg 4 fun L2 hL2 => ?_
 simp only [qq, seval, -Nat.reducePow, reduceIte, reduceCtorEq]
 refine aops_call (unpackedof_fun _ _ ?s3_0) rfl rfl rfl rfl (by (try simp only [qq, seval, -Nat.reducePow, reduceIte, reduceCtorEq]); (repeat' (first | exact .nil | exact wk_c | exact wk_ownc | exact wk_nilsc | exact wk_nils | exact wk_fn | refine .cons ?_ ?_ | refine wk_agg ?_ | refine wk_fnL ?_))) rfl rfl ?m3
 case s3_0 => first | assumption | omega | decide +kernel | (simp only [List.length_take, List.length_drop]; omega)
 simp only [qq, seval, -Nat.reducePow, reduceIte, reduceCtorEq]
 refine aops_orunN 5 _ _ ?_
 simp only [qq, seval, -Nat.reducePow, reduceIte, reduceCtorEq]
 refine nil_z hL2 ?_
 refine awp_seq_k fun K4 hK4 => ?_
 have hu := unpackR_len x.bits x.n
 have s9 : ((((unpackR x.bits x.n)).1.length : Int) - 1).toNat = ((unpackR x.bits x.n)).1.length - 1 := by omega
 refine seq_regd 3 (by decide +kernel) fun L5 hL5 => ?_
 simp only [qq, seval, -Nat.reducePow, reduceIte, reduceCtorEq, s9]
 refine aops_part (b := ?p6) 16 ?h6 (fun hb6 => ?a6) (fun hb6 => ?b6)
 case h6 => simp only [qq, seval, -Nat.reducePow, reduceIte, reduceCtorEq, s9]; rfl
 case a6 =>
  have hp6 := hb6
  try simp only [kb] at hp6
  try simp only [hb6]
  refine aops_orunN 4 _ _ ?_
  simp only [qq, seval, -Nat.reducePow, reduceIte, reduceCtorEq, s9, hb6]
  refine aops_part (b := ?p7) 20 ?h7 (fun hb7 => ?a7) (fun hb7 => ?b7)
  case h7 => simp only [qq, seval, -Nat.reducePow, reduceIte, reduceCtorEq, s9, hb6]; rfl
  case a7 =>
   have hp7 := hb7
   try simp only [kb] at hp7
   try simp only [hb7]
   refine aops_orunN 21 _ _ ?_
   simp only [qq, seval, -Nat.reducePow, reduceIte, reduceCtorEq, s9, hb6, hb7]
   refine nil_z hL5 ?_
   as_aux_lemma =>
    refine awp_cond (t := true) (by simp only [qq, seval, -Nat.reducePow, reduceIte, reduceCtorEq, s9, hb6, hb7]) (fun _ => ?_) (fun h => ?_)
    case refine_2 => cases h
    refine reg 1 fun L8 hL8 => ?_
    simp only [qq, seval, -Nat.reducePow, reduceIte, reduceCtorEq, s9, hb6, hb7]
    refine nil_q hL8 ?_
    refine hK4 _ ?_
    refine awp_seq_k fun K9 hK9 => ?_
    refine seq_reg 2 fun L10 hL10 => ?_
    simp only [qq, seval, -Nat.reducePow, reduceIte, reduceCtorEq, s9, hb6, hb7]
    refine nil_z hL10 ?_
    refine awp_cond (t := ?t11) ?h11 (fun hb11 => ?a11) (fun hb11 => ?b11)
    case h11 => simp only [qq, seval, -Nat.reducePow, reduceIte, reduceCtorEq, s9, hb6, hb7]; rfl
    case a11 =>
     have hp11 := hb11
     try simp only [kb] at hp11
     refine seq_reg 3 fun L12 hL12 => ?_
     simp only [qq, seval, -Nat.reducePow, reduceIte, reduceCtorEq, s9, hb6, hb7, hb11]
     refine nil_z hL12 ?_
     as_aux_lemma =>
      refine awp_ret ?_
      try simp only [rk_state]
      refine ⟨_, 0, by simp only [qq, seval, -Nat.reducePow, reduceIte, reduceCtorEq, resA, Try.results55, s9, hb6, hb7, hb11]; rfl, ?_, nomem_a, nomem_a⟩
      simp only [packA]
      (unfold ptsR; first | (rw [if_pos (by omega)]; (repeat' (first | exact .nil | exact wkR_c | exact wkR_own | exact wkR_nils | refine wkR_int ?_ | refine wkR_bool ?_ | refine wkR_sl ?_ | refine wkR_osl ?_ | refine wkR_nsl ?_ | refine wkR_oo ?_ | refine wkR_no ?_ | refine .cons ?_ ?_ | refine wkR_agg ?_ | refine wkR_tup ?_)) <;> first | rfl | omega | (dsimp only; omega)) | (rw [if_neg (by omega), if_pos (by omega)]; (repeat' (first | exact .nil | exact wkR_c | exact wkR_own | exact wkR_nils | refine wkR_int ?_ | refine wkR_bool ?_ | refine wkR_sl ?_ | refine wkR_osl ?_ | refine wkR_nsl ?_ | refine wkR_oo ?_ | refine wkR_no ?_ | refine .cons ?_ ?_ | refine wkR_agg ?_ | refine wkR_tup ?_)) <;> first | rfl | omega | (dsimp only; omega)) | (rw [if_neg (by omega), if_neg (by omega)]; (repeat' (first | exact .nil | exact wkR_c | exact wkR_own | exact wkR_nils | refine wkR_int ?_ | refine wkR_bool ?_ | refine wkR_sl ?_ | refine wkR_osl ?_ | refine wkR_nsl ?_ | refine wkR_oo ?_ | refine wkR_no ?_ | refine .cons ?_ ?_ | refine wkR_agg ?_ | refine wkR_tup ?_)) <;> first | rfl | omega | (dsimp only; omega)))
    case b11 =>
     first | exact absurd hb11 (by decide) | (have hp11 := hb11; (try simp only [kb] at hp11); exfalso; omega)
  case b7 =>
   have hp7 := hb7
   try simp only [kb] at hp7
   try simp only [hb7]
   refine aops_orunN 3 _ _ ?_
   simp only [qq, seval, -Nat.reducePow, reduceIte, reduceCtorEq, s9, hb6, hb7]
   refine aops_val (v := ?v13) (by simp only [qq, seval, -Nat.reducePow, reduceIte, reduceCtorEq, s9, hb6, hb7]) ?h13 ?_
   case h13 => simp only [qq, seval, -Nat.reducePow, reduceIte, reduceCtorEq, s9, hb6, hb7]; first | (rw [idx_c un22 if34] <;> omega) | (rw [idx_o un22 if34] <;> omega) | (rw [idx_a un22 if34] <;> omega)
   simp only [qq, seval, -Nat.reducePow, reduceIte, reduceCtorEq, s9, hb6, hb7]
   refine aops_orunN 5 _ _ ?_
   simp only [qq, seval, -Nat.reducePow, reduceIte, reduceCtorEq, s9, hb6, hb7]
   refine aops_part (b := ?p14) 29 ?h14 (fun hb14 => ?a14) (fun hb14 => ?b14)
   case h14 => simp only [qq, seval, -Nat.reducePow, reduceIte, reduceCtorEq, s9, hb6, hb7]; rfl
   case a14 =>
    have hp14 := hb14
    try simp only [kb] at hp14
    try simp only [hb14]
    refine aops_orunN 12 _ _ ?_
    simp only [qq, seval, -Nat.reducePow, reduceIte, reduceCtorEq, s9, hb6, hb7, hb14]
    refine nil_z hL5 ?_
    refine awp_cond (t := true) (by simp only [qq, seval, -Nat.reducePow, reduceIte, reduceCtorEq, s9, hb6, hb7, hb14]) (fun _ => ?_) (fun h => ?_)
    case refine_2 => cases h
    refine reg 1 fun L15 hL15 => ?_
    simp only [qq, seval, -Nat.reducePow, reduceIte, reduceCtorEq, s9, hb6, hb7, hb14]
    refine nil_q hL15 ?_
    refine hK4 _ ?_
    refine awp_seq_k fun K16 hK16 => ?_
    refine seq_reg 2 fun L17 hL17 => ?_
    simp only [qq, seval, -Nat.reducePow, reduceIte, reduceCtorEq, s9, hb6, hb7, hb14]
    refine nil_z hL17 ?_
    refine awp_cond (t := ?t18) ?h18 (fun hb18 => ?a18) (fun hb18 => ?b18)
    case h18 => simp only [qq, seval, -Nat.reducePow, reduceIte, reduceCtorEq, s9, hb6, hb7, hb14]; rfl
    case a18 =>
     have hp18 := hb18
     try simp only [kb] at hp18
     refine seq_reg 3 fun L19 hL19 => ?_
     simp only [qq, seval, -Nat.reducePow, reduceIte, reduceCtorEq, s9, hb6, hb7, hb14, hb18]
     refine nil_z hL19 ?_
     as_aux_lemma =>
      refine awp_ret ?_
      try simp only [rk_state]
      refine ⟨_, 0, by simp only [qq, seval, -Nat.reducePow, reduceIte, reduceCtorEq, resA, Try.results55, s9, hb6, hb7, hb14, hb18]; rfl, ?_, nomem_a, nomem_a⟩
      simp only [packA]
      (unfold ptsR; first | (rw [if_pos (by omega)]; (repeat' (first | exact .nil | exact wkR_c | exact wkR_own | exact wkR_nils | refine wkR_int ?_ | refine wkR_bool ?_ | refine wkR_sl ?_ | refine wkR_osl ?_ | refine wkR_nsl ?_ | refine wkR_oo ?_ | refine wkR_no ?_ | refine .cons ?_ ?_ | refine wkR_agg ?_ | refine wkR_tup ?_)) <;> first | rfl | omega | (dsimp only; omega)) | (rw [if_neg (by omega), if_pos (by omega)]; (repeat' (first | exact .nil | exact wkR_c | exact wkR_own | exact wkR_nils | refine wkR_int ?_ | refine wkR_bool ?_ | refine wkR_sl ?_ | refine wkR_osl ?_ | refine wkR_nsl ?_ | refine wkR_oo ?_ | refine wkR_no ?_ | refine .cons ?_ ?_ | refine wkR_agg ?_ | refine wkR_tup ?_)) <;> first | rfl | omega | (dsimp only; omega)) | (rw [if_neg (by omega), if_neg (by omega)]; (repeat' (first | exact .nil | exact wkR_c | exact wkR_own | exact wkR_nils | refine wkR_int ?_ | refine wkR_bool ?_ | refine wkR_sl ?_ | refine wkR_osl ?_ | refine wkR_nsl ?_ | refine wkR_oo ?_ | refine wkR_no ?_ | refine .cons ?_ ?_ | refine wkR_agg ?_ | refine wkR_tup ?_)) <;> first | rfl | omega | (dsimp only; omega)))
    case b18 =>
     first | exact absurd hb18 (by decide) | (have hp18 := hb18; (try simp only [kb] at hp18); exfalso; omega)
   case b14 =>
    have hp14 := hb14
    try simp only [kb] at hp14
    try simp only [hb14]
    refine aops_orunN 5 _ _ ?_
    simp only [qq, seval, -Nat.reducePow, reduceIte, reduceCtorEq, s9, hb6, hb7, hb14]
    refine aops_val (v := ?v20) (by simp only [qq, seval, -Nat.reducePow, reduceIte, reduceCtorEq, s9, hb6, hb7, hb14]) ?h20 ?_
    case h20 => simp only [qq, seval, -Nat.reducePow, reduceIte, reduceCtorEq, s9, hb6, hb7, hb14]; first | (rw [wr_id] <;> omega) | rfl
    simp only [qq, seval, -Nat.reducePow, reduceIte, reduceCtorEq, s9, hb6, hb7, hb14]
    refine aops_val (v := ?v21) (by simp only [qq, seval, -Nat.reducePow, reduceIte, reduceCtorEq, s9, hb6, hb7, hb14]) ?h21 ?_
    case h21 => simp only [qq, seval, -Nat.reducePow, reduceIte, reduceCtorEq, s9, hb6, hb7, hb14]; first | (rw [idx_c un22 if34] <;> omega) | (rw [idx_o un22 if34] <;> omega) | (rw [idx_a un22 if34] <;> omega)
    simp only [qq, seval, -Nat.reducePow, reduceIte, reduceCtorEq, s9, hb6, hb7, hb14]
    refine aops_orunN 5 _ _ ?_
    simp only [qq, seval, -Nat.reducePow, reduceIte, reduceCtorEq, s9, hb6, hb7, hb14]
    refine nil_z hL5 ?_
    refine awp_cond (t := ?t22) ?h22 (fun hb22 => ?a22) (fun hb22 => ?b22)
    case h22 => simp only [qq, seval, -Nat.reducePow, reduceIte, reduceCtorEq, s9, hb6, hb7, hb14]; rfl
    case a22 =>
     have hp22 := hb22
     try simp only [kb] at hp22
     refine reg 1 fun L23 hL23 => ?_
     simp only [qq, seval, -Nat.reducePow, reduceIte, reduceCtorEq, s9, hb6, hb7, hb14, hb22]
     refine nil_q hL23 ?_
     refine hK4 _ ?_
     refine awp_seq_k fun K24 hK24 => ?_
     refine seq_reg 2 fun L25 hL25 => ?_
     simp only [qq, seval, -Nat.reducePow, reduceIte, reduceCtorEq, s9, hb6, hb7, hb14, hb22]
     refine nil_z hL25 ?_
     refine awp_cond (t := ?t26) ?h26 (fun hb26 => ?a26) (fun hb26 => ?b26)
     case h26 => simp only [qq, seval, -Nat.reducePow, reduceIte, reduceCtorEq, s9, hb6, hb7, hb14, hb22]; rfl
     case a26 =>
      have hp26 := hb26
      try simp only [kb] at hp26
      refine seq_reg 3 fun L27 hL27 => ?_
      simp only [qq, seval, -Nat.reducePow, reduceIte, reduceCtorEq, s9, hb6, hb7, hb14, hb22, hb26]
      refine nil_z hL27 ?_
      as_aux_lemma =>
       refine awp_ret ?_
       try simp only [rk_state]
       refine ⟨_, 0, by simp only [qq, seval, -Nat.reducePow, reduceIte, reduceCtorEq, resA, Try.results55, s9, hb6, hb7, hb14, hb22, hb26]; rfl, ?_, nomem_a, nomem_a⟩
       simp only [packA]
       (unfold ptsR; first | (rw [if_pos (by omega)]; (repeat' (first | exact .nil | exact wkR_c | exact wkR_own | exact wkR_nils | refine wkR_int ?_ | refine wkR_bool ?_ | refine wkR_sl ?_ | refine wkR_osl ?_ | refine wkR_nsl ?_ | refine wkR_oo ?_ | refine wkR_no ?_ | refine .cons ?_ ?_ | refine wkR_agg ?_ | refine wkR_tup ?_)) <;> first | rfl | omega | (dsimp only; omega)) | (rw [if_neg (by omega), if_pos (by omega)]; (repeat' (first | exact .nil | exact wkR_c | exact wkR_own | exact wkR_nils | refine wkR_int ?_ | refine wkR_bool ?_ | refine wkR_sl ?_ | refine wkR_osl ?_ | refine wkR_nsl ?_ | refine wkR_oo ?_ | refine wkR_no ?_ | refine .cons ?_ ?_ | refine wkR_agg ?_ | refine wkR_tup ?_)) <;> first | rfl | omega | (dsimp only; omega)) | (rw [if_neg (by omega), if_neg (by omega)]; (repeat' (first | exact .nil | exact wkR_c | exact wkR_own | exact wkR_nils | refine wkR_int ?_ | refine wkR_bool ?_ | refine wkR_sl ?_ | refine wkR_osl ?_ | refine wkR_nsl ?_ | refine wkR_oo ?_ | refine wkR_no ?_ | refine .cons ?_ ?_ | refine wkR_agg ?_ | refine wkR_tup ?_)) <;> first | rfl | omega | (dsimp only; omega)))
     case b26 =>
      first | exact absurd hb26 (by decide) | (have hp26 := hb26; (try simp only [kb] at hp26); exfalso; omega)
    case b22 =>
     have hp22 := hb22
     try simp only [kb] at hp22
     refine awp_skip ?_
     refine hK4 _ ?_
     refine awp_seq_k fun K28 hK28 => ?_
     refine seq_reg 2 fun L29 hL29 => ?_
     simp only [qq, seval, -Nat.reducePow, reduceIte, reduceCtorEq, s9, hb6, hb7, hb14, hb22]
     refine nil_z hL29 ?_
     refine awp_cond (t := ?t30) ?h30 (fun hb30 => ?a30) (fun hb30 => ?b30)
     case h30 => simp only [qq, seval, -Nat.reducePow, reduceIte, reduceCtorEq, s9, hb6, hb7, hb14, hb22]; rfl
     case a30 =>
      first | exact absurd hb30 (by decide) | (have hp30 := hb30; (try simp only [kb] at hp30); exfalso; omega)
     case b30 =>
      have hp30 := hb30
      try simp only [kb] at hp30
      refine awp_skip ?_
      refine hK28 _ ?_
      refine seq_reg 3 fun L31 hL31 => ?_
      simp only [qq, seval, -Nat.reducePow, reduceIte, reduceCtorEq, s9, hb6, hb7, hb14, hb22, hb30]
      refine nil_z hL31 ?_
      refine awp_ret ?_
      try simp only [rk_state]
      refine ⟨_, 0, by simp only [qq, seval, -Nat.reducePow, reduceIte, reduceCtorEq, resA, Try.results55, s9, hb6, hb7, hb14, hb22, hb30]; rfl, ?_, nomem_a, nomem_a⟩
      simp only [packA]
      (unfold ptsR; first | (rw [if_pos (by omega)]; (repeat' (first | exact .nil | exact wkR_c | exact wkR_own | exact wkR_nils | refine wkR_int ?_ | refine wkR_bool ?_ | refine wkR_sl ?_ | refine wkR_osl ?_ | refine wkR_nsl ?_ | refine wkR_oo ?_ | refine wkR_no ?_ | refine .cons ?_ ?_ | refine wkR_agg ?_ | refine wkR_tup ?_)) <;> first | rfl | omega | (dsimp only; omega)) | (rw [if_neg (by omega), if_pos (by omega)]; (repeat' (first | exact .nil | exact wkR_c | exact wkR_own | exact wkR_nils | refine wkR_int ?_ | refine wkR_bool ?_ | refine wkR_sl ?_ | refine wkR_osl ?_ | refine wkR_nsl ?_ | refine wkR_oo ?_ | refine wkR_no ?_ | refine .cons ?_ ?_ | refine wkR_agg ?_ | refine wkR_tup ?_)) <;> first | rfl | omega | (dsimp only; omega)) | (rw [if_neg (by omega), if_neg (by omega)]; (repeat' (first | exact .nil | exact wkR_c | exact wkR_own | exact wkR_nils | refine wkR_int ?_ | refine wkR_bool ?_ | refine wkR_sl ?_ | refine wkR_osl ?_ | refine wkR_nsl ?_ | refine wkR_oo ?_ | refine wkR_no ?_ | refine .cons ?_ ?_ | refine wkR_agg ?_ | refine wkR_tup ?_)) <;> first | rfl | omega | (dsimp only; omega)))
 case b6 =>
  have hp6 := hb6
  try simp only [kb] at hp6
  try simp only [hb6]
  refine aops_orunN 25 _ _ ?_
  simp only [qq, seval, -Nat.reducePow, reduceIte, reduceCtorEq, s9, hb6]
  refine nil_z hL5 ?_
  refine awp_cond (t := false) (by simp only [qq, seval, -Nat.reducePow, reduceIte, reduceCtorEq, s9, hb6]) (fun h => ?_) (fun _ => ?_)
  case refine_1 => cases h
  refine awp_skip ?_
  refine hK4 _ ?_
  refine awp_seq_k fun K32 hK32 => ?_
  refine seq_reg 2 fun L33 hL33 => ?_
  simp only [qq, seval, -Nat.reducePow, reduceIte, reduceCtorEq, s9, hb6]
  refine nil_z hL33 ?_
  as_aux_lemma =>
   refine awp_cond (t := ?t34) ?h34 (fun hb34 => ?a34) (fun hb34 => ?b34)
   case h34 => simp only [qq, seval, -Nat.reducePow, reduceIte, reduceCtorEq, s9, hb6]; rfl
   case a34 =>
    have hp34 := hb34
    try simp only [kb] at hp34
    refine seq_reg 3 fun L35 hL35 => ?_
    simp only [qq, seval, -Nat.reducePow, reduceIte, reduceCtorEq, s9, hb6, hb34]
    refine nil_z hL35 ?_
    refine awp_ret ?_
    try simp only [rk_state]
    refine ⟨_, 0, by simp only [qq, seval, -Nat.reducePow, reduceIte, reduceCtorEq, resA, Try.results55, s9, hb6, hb34]; rfl, ?_, nomem_a, nomem_a⟩
    simp only [packA]
    (unfold ptsR; first | (rw [if_pos (by omega)]; (repeat' (first | exact .nil | exact wkR_c | exact wkR_own | exact wkR_nils | refine wkR_int ?_ | refine wkR_bool ?_ | refine wkR_sl ?_ | refine wkR_osl ?_ | refine wkR_nsl ?_ | refine wkR_oo ?_ | refine wkR_no ?_ | refine .cons ?_ ?_ | refine wkR_agg ?_ | refine wkR_tup ?_)) <;> first | rfl | omega | (dsimp only; omega)) | (rw [if_neg (by omega), if_pos (by omega)]; (repeat' (first | exact .nil | exact wkR_c | exact wkR_own | exact wkR_nils | refine wkR_int ?_ | refine wkR_bool ?_ | refine wkR_sl ?_ | refine wkR_osl ?_ | refine wkR_nsl ?_ | refine wkR_oo ?_ | refine wkR_no ?_ | refine .cons ?_ ?_ | refine wkR_agg ?_ | refine wkR_tup ?_)) <;> first | rfl | omega | (dsimp only; omega)) | (rw [if_neg (by omega), if_neg (by omega)]; (repeat' (first | exact .nil | exact wkR_c | exact wkR_own | exact wkR_nils | refine wkR_int ?_ | refine wkR_bool ?_ | refine wkR_sl ?_ | refine wkR_osl ?_ | refine wkR_nsl ?_ | refine wkR_oo ?_ | refine wkR_no ?_ | refine .cons ?_ ?_ | refine wkR_agg ?_ | refine wkR_tup ?_)) <;> first | rfl | omega | (dsimp only; omega)))
   case b34 =>
    first | exact absurd hb34 (by decide) | (have hp34 := hb34; (try simp only [kb] at hp34); exfalso; omega)
set_option maxHeartbeats 4000000 in
set_option maxRecDepth 50000 in
theorem merge_fun (x y : Bk) (hlx : x.bits.length ≤ 140737488355200) (hly : y.bits.length ≤ 140737488355200) : Fun Try.prog 53 [.agg [.c (.int .i64 x.n), .c (.int .i64 x.fr), .c (.int .i64 x.to), .c (.sl 4 (Rw boC x.bits))], .agg [.c (.int .i64 y.n), .c (.int .i64 y.fr), .c (.int .i64 y.to), .c (.sl 4 (Rw boC y.bits))]] nomem (.tup [.agg [.c (.int .i64 ((mergeR x y).1).n), .c (.int .i64 ((mergeR x y).1).fr), .c (.int .i64 ((mergeR x y).1).to), .c (.sl 4 (Rw boC ((mergeR x y).1).bits))], .c (.int .i64 (mergeR x y).2)]) nomem := by
 refine fun_of_awp Try.func53 rfl (by decide +kernel) (by decide +kernel) (Nat.le_of_ble_eq_true rfl) (fun _ _ => rfl) (fun _ _ => rfl) ?_
 refine seq_reg 4 fun L1 hL1 => ?_
 simp only [qq, seval, -Nat.reducePow, reduceIte, reduceCtorEq, un143, lc143]
 refine nil_z hL1 ?_
 refine seq_reg 1 fun L2 hL2 => ?_
 simp only [qq, seval, -Nat.reducePow, reduceIte, reduceCtorEq, un143, lc143]
 refine aops_call_own (pts_fun _ ?s3_0) rfl rfl rfl rfl (by (try simp only [qq, seval, -Nat.reducePow, reduceIte, reduceCtorEq, un143, lc143]); (repeat' (first | exact .nil | exact wk_c | exact wk_ownc | exact wk_nilsc | exact wk_nils | exact wk_fn | refine .cons ?_ ?_ | refine wk_agg ?_ | refine wk_fnL ?_))) rfl rfl rfl (by simp only [qq, seval, -Nat.reducePow, reduceIte, reduceCtorEq, un143, lc143]) ?m3
 case s3_0 => first | assumption | omega | decide +kernel | (simp only [List.length_take, List.length_drop]; omega)
 simp only [qq, seval, -Nat.reducePow, reduceIte, reduceCtorEq, AV.setOwn, AV.setOwn1, un143, lc143]
 refine aops_orunN 5 _ _ ?_
 simp only [qq, seval, -Nat.reducePow, reduceIte, reduceCtorEq, un143, lc143]
 refine aops_nil (hL2 _ ?_)
 simp only [qq, seval, -Nat.reducePow, reduceIte, reduceCtorEq, un143, lc143]
 refine awp_seq_k fun K4 hK4 => ?_
 refine seq_reg 2 fun L5 hL5 => ?_
 simp only [qq, seval, -Nat.reducePow, reduceIte, reduceCtorEq, un143, lc143]
 refine nil_z hL5 ?_
 as_aux_lemma =>
  refine awp_cond (t := ?t6) ?h6 (fun hb6 => ?a6) (fun hb6 => ?b6)
  case h6 => simp only [qq, seval, -Nat.reducePow, reduceIte, reduceCtorEq, un143, lc143]; rfl
  case a6 =>
   have hp6 := hb6
   try simp only [kb] at hp6
   refine seq_reg 4 fun L7 hL7 => ?_
   simp only [qq, seval, -Nat.reducePow, reduceIte, reduceCtorEq, un143, lc143, hb6]
   refine nil_z hL7 ?_
   refine awp_ret ?_
   try simp only [rk_state]
   refine ⟨_, 0, by simp only [qq, seval, -Nat.reducePow, reduceIte, reduceCtorEq, resA, Try.results53, un143, lc143, hb6]; rfl, ?_, nomem_a, nomem_a⟩
   simp only [packA]
   unfold mergeR; rw [if_pos (by omega)]; (repeat' (first | exact .nil | exact wkR_c | exact wkR_own | exact wkR_nils | refine wkR_int ?_ | refine wkR_bool ?_ | refine wkR_sl ?_ | refine wkR_osl ?_ | refine wkR_nsl ?_ | refine wkR_oo ?_ | refine wkR_no ?_ | refine .cons ?_ ?_ | refine wkR_agg ?_ | refine wkR_tup ?_)) <;> first | rfl | omega | (dsimp only; omega)
  case b6 =>
   have hp6 := hb6
   try simp only [kb] at hp6
   refine awp_skip ?_
   refine hK4 _ ?_
   refine seq_reg 1 fun L8 hL8 => ?_
   simp only [qq, seval, -Nat.reducePow, reduceIte, reduceCtorEq, un143, lc143, hb6]
   refine aops_call_own (pts_fun _ ?s9_0) rfl rfl rfl rfl (by (try simp only [qq, seval, -Nat.reducePow, reduceIte, reduceCtorEq, un143, lc143, hb6]); (repeat' (first | exact .nil | exact wk_c | exact wk_ownc | exact wk_nilsc | exact wk_nils | exact wk_fn | refine .cons ?_ ?_ | refine wk_agg ?_ | refine wk_fnL ?_))) rfl rfl rfl (by simp only [qq, seval, -Nat.reducePow, reduceIte, reduceCtorEq, un143, lc143, hb6]) ?m9
   case s9_0 => first | assumption | omega | decide +kernel | (simp only [List.length_take, List.length_drop]; omega)
   simp only [qq, seval, -Nat.reducePow, reduceIte, reduceCtorEq, AV.setOwn, AV.setOwn1, un143, lc143, hb6]
   refine aops_orunN 5 _ _ ?_
   simp only [qq, seval, -Nat.reducePow, reduceIte, reduceCtorEq, un143, lc143, hb6]
   refine aops_nil (hL8 _ ?_)
   simp only [qq, seval, -Nat.reducePow, reduceIte, reduceCtorEq, un143, lc143, hb6]
   refine awp_seq_k fun K10 hK10 => ?_
   refine seq_reg 2 fun L11 hL11 => ?_
   simp only [qq, seval, -Nat.reducePow, reduceIte, reduceCtorEq, un143, lc143, hb6]
   refine nil_z hL11 ?_
   as_aux_lemma =>
    refine awp_cond (t := ?t12) ?h12 (fun hb12 => ?a12) (fun hb12 => ?b12)
    case h12 => simp only [qq, seval, -Nat.reducePow, reduceIte, reduceCtorEq, un143, lc143, hb6]; rfl
    case a12 =>
     have hp12 := hb12
     try simp only [kb] at hp12
     refine seq_reg 4 fun L13 hL13 => ?_
     simp only [qq, seval, -Nat.reducePow, reduceIte, reduceCtorEq, un143, lc143, hb6, hb12]
     refine nil_z hL13 ?_
     refine awp_ret ?_
     try simp only [rk_state]
     refine ⟨_, 0, by simp only [qq, seval, -Nat.reducePow, reduceIte, reduceCtorEq, resA, Try.results53, un143, lc143, hb6, hb12]; rfl, ?_, nomem_a, nomem_a⟩
     simp only [packA]
     unfold mergeR; rw [if_neg (by omega), if_pos (by omega)]; (repeat' (first | exact .nil | exact wkR_c | exact wkR_own | exact wkR_nils | refine wkR_int ?_ | refine wkR_bool ?_ | refine wkR_sl ?_ | refine wkR_osl ?_ | refine wkR_nsl ?_ | refine wkR_oo ?_ | refine wkR_no ?_ | refine .cons ?_ ?_ | refine wkR_agg ?_ | refine wkR_tup ?_)) <;> first | rfl | omega | (dsimp only; omega)
    case b12 =>
     have hp12 := hb12
     try simp only [kb] at hp12
     refine awp_skip ?_
     refine hK10 _ ?_
     have hp1 := ptsR_len x
     have hp2 := ptsR_len y
     have hpa : ((ptsR x).1 ++ (ptsR y).1).length = (ptsR x).1.length + (ptsR y).1.length := List.length_append
     refine seq_reg 3 fun L14 hL14 => ?_
     simp only [qq, seval, -Nat.reducePow, reduceIte, reduceCtorEq, un143, lc143, hb6, hb12]
     refine aops_call_own (concat_pt_fun _ ?s15_0 ?s15_1) rfl rfl rfl rfl (by (try simp only [qq, seval, -Nat.reducePow, reduceIte, reduceCtorEq, un143, lc143, hb6, hb12]); (repeat' (first | exact .nil | exact wk_c | exact wk_ownc | exact wk_nilsc | exact wk_nils | exact wk_fn | refine .cons ?_ ?_ | refine wk_agg ?_ | refine wk_fnL ?_))) rfl rfl rfl (by simp only [qq, seval, -Nat.reducePow, reduceIte, reduceCtorEq, un143, lc143, hb6, hb12]) ?m15
     case s15_0 => (simp only [List.length_cons, List.length_nil]; omega)
     case s15_1 => (first | omega | (simp only [List.flatten_cons, List.flatten_nil, List.append_nil, List.length_append, rwR]; omega))
     simp only [qq, seval, -Nat.reducePow, reduceIte, reduceCtorEq, List.flatten_cons, List.flatten_nil, List.append_nil, AV.setOwn, AV.setOwn1, un143, lc143, hb6, hb12]
     refine aops_call (make_fun _ ?s16_0) rfl rfl rfl rfl (by (try simp only [qq, seval, -Nat.reducePow, reduceIte, reduceCtorEq, un143, lc143, hb6, hb12]); (repeat' (first | exact .nil | exact wk_c | exact wk_ownc | exact wk_nilsc | exact wk_nils | exact wk_fn | refine .cons ?_ ?_ | refine wk_agg ?_ | refine wk_fnL ?_))) rfl rfl ?m16
     case s16_0 => first | assumption | omega | decide +kernel | (simp only [List.length_take, List.length_drop]; omega)
     simp only [qq, seval, -Nat.reducePow, reduceIte, reduceCtorEq, un143, lc143, hb6, hb12]
     refine aops_orunN 4 _ _ ?_
     simp only [qq, seval, -Nat.reducePow, reduceIte, reduceCtorEq, un143, lc143, hb6, hb12]
     refine aops_nil (hL14 _ ?_)
     simp only [qq, seval, -Nat.reducePow, reduceIte, reduceCtorEq, un143, lc143, hb6, hb12]
     refine awp_ret ?_
     try simp only [rk_state]
     refine ⟨_, 0, by simp only [qq, seval, -Nat.reducePow, reduceIte, reduceCtorEq, resA, Try.results53, un143, lc143, hb6, hb12]; rfl, ?_, nomem_a, nomem_a⟩
     simp only [packA]
     unfold mergeR; rw [if_neg (by omega), if_neg (by omega)]; (repeat' (first | exact .nil | exact wkR_c | exact wkR_own | exact wkR_nils | refine wkR_int ?_ | refine wkR_bool ?_ | refine wkR_sl ?_ | refine wkR_osl ?_ | refine wkR_nsl ?_ | refine wkR_oo ?_ | refine wkR_no ?_ | refine .cons ?_ ?_ | refine wkR_agg ?_ | refine wkR_tup ?_)) <;> first | rfl | omega | (dsimp only; omega)
set_option maxHeartbeats 4000000 in
set_option maxRecDepth 50000 in
theorem merged_fun (x y : Bk) (hlx : x.bits.length ≤ 140737488355200) (hly : y.bits.length ≤ 140737488355200) : Fun Try.prog 56 [.agg [.c (.int .i64 x.n), .c (.int .i64 x.fr), .c (.int .i64 x.to), .c (.sl 4 (Rw boC x.bits))], .agg [.c (.int .i64 y.n), .c (.int .i64 y.fr), .c (.int .i64 y.to), .c (.sl 4 (Rw boC y.bits))]] nomem (.tup [.agg [.c (.int .i64 ((mergeR x y).1).n), .c (.int .i64 ((mergeR x y).1).fr), .c (.int .i64 ((mergeR x y).1).to), .c (.sl 4 (Rw boC ((mergeR x y).1).bits))], .c (.int .i64 (mergeR x y).2)]) nomem := by
 refine fun_of_awp Try.func56 rfl (by decide +kernel) (by decide +kernel) (Nat.le_of_ble_eq_true rfl) (fun _ _ => rfl) (fun _ _ => rfl) ?_
 refine seq_reg 4 fun L1 hL1 => ?_
 simp only [qq, seval, -Nat.reducePow, reduceIte, reduceCtorEq, un143, lc143]
 refine nil_z hL1 ?_
 refine seq_reg 1 fun L2 hL2 => ?_
 simp only [qq, seval, -Nat.reducePow, reduceIte, reduceCtorEq, un143, lc143]
 refine aops_call (ptsof_fun _ ?s3_0) rfl rfl rfl rfl (by (try simp only [qq, seval, -Nat.reducePow, reduceIte, reduceCtorEq, un143, lc143]); (repeat' (first | exact .nil | exact wk_c | exact wk_ownc | exact wk_nilsc | exact wk_nils | exact wk_fn | refine .cons ?_ ?_ | refine wk_agg ?_ | refine wk_fnL ?_))) rfl rfl ?m3
 case s3_0 => first | assumption | omega | decide +kernel | (simp only [List.length_take, List.length_drop]; omega)
 simp only [qq, seval, -Nat.reducePow, reduceIte, reduceCtorEq, un143, lc143]
 refine aops_orunN 5 _ _ ?_
 simp only [qq, seval, -Nat.reducePow, reduceIte, reduceCtorEq, un143, lc143]
 refine nil_z hL2 ?_
 refine awp_seq_k fun K4 hK4 => ?_
 refine seq_reg 2 fun L5 hL5 => ?_
 simp only [qq, seval, -Nat.reducePow, reduceIte, reduceCtorEq, un143, lc143]
 refine nil_z hL5 ?_
 as_aux_lemma =>
  refine awp_cond (t := ?t6) ?h6 (fun hb6 => ?a6) (fun hb6 => ?b6)
  case h6 => simp only [qq, seval, -Nat.reducePow, reduceIte, reduceCtorEq, un143, lc143]; rfl
  case a6 =>
   have hp6 := hb6
   try simp only [kb] at hp6
   refine seq_reg 4 fun L7 hL7 => ?_
   simp only [qq, seval, -Nat.reducePow, reduceIte, reduceCtorEq, un143, lc143, hb6]
   refine nil_z hL7 ?_
   refine awp_ret ?_
   try simp only [rk_state]
   refine ⟨_, 0, by simp only [qq, seval, -Nat.reducePow, reduceIte, reduceCtorEq, resA, Try.results56, un143, lc143, hb6]; rfl, ?_, nomem_a, nomem_a⟩
   simp only [packA]
   unfold mergeR; rw [if_pos (by omega)]; (repeat' (first | exact .nil | exact wkR_c | exact wkR_own | exact wkR_nils | refine wkR_int ?_ | refine wkR_bool ?_ | refine wkR_sl ?_ | refine wkR_osl ?_ | refine wkR_nsl ?_ | refine wkR_oo ?_ | refine wkR_no ?_ | refine .cons ?_ ?_ | refine wkR_agg ?_ | refine wkR_tup ?_)) <;> first | rfl | omega | (dsimp only; omega)
  case b6 =>
   have hp6 := hb6
   try simp only [kb] at hp6
   refine awp_skip ?_
   refine hK4 _ ?_
   refine seq_reg 1 fun L8 hL8 => ?_
   simp only [qq, seval, -Nat.reducePow, reduceIte, reduceCtorEq, un143, lc143, hb6]
   refine aops_call (ptsof_fun _ ?s9_0) rfl rfl rfl rfl (by (try simp only [qq, seval, -Nat.reducePow, reduceIte, reduceCtorEq, un143, lc143, hb6]); (repeat' (first | exact .nil | exact wk_c | exact wk_ownc | exact wk_nilsc | exact wk_nils | exact wk_fn | refine .cons ?_ ?_ | refine wk_agg ?_ | refine wk_fnL ?_))) rfl rfl ?m9
   case s9_0 => first | assumption | omega | decide +kernel | (simp only [List.length_take, List.length_drop]; omega)
   simp only [qq, seval, -Nat.reducePow, reduceIte, reduceCtorEq, un143, lc143, hb6]
   refine aops_orunN 5 _ _ ?_
   simp only [qq, seval, -Nat.reducePow, reduceIte, reduceCtorEq, un143, lc143, hb6]
   refine nil_z hL8 ?_
   refine awp_seq_k fun K10 hK10 => ?_
   refine seq_reg 2 fun L11 hL11 => ?_
   simp only [qq, seval, -Nat.reducePow, reduceIte, reduceCtorEq, un143, lc143, hb6]
   refine nil_z hL11 ?_
   as_aux_lemma =>
    refine awp_cond (t := ?t12) ?h12 (fun hb12 => ?a12) (fun hb12 => ?b12)
    case h12 => simp only [qq, seval, -Nat.reducePow, reduceIte, reduceCtorEq, un143, lc143, hb6]; rfl
    case a12 =>
     have hp12 := hb12
     try simp only [kb] at hp12
     refine seq_reg 4 fun L13 hL13 => ?_
     simp only [qq, seval, -Nat.reducePow, reduceIte, reduceCtorEq, un143, lc143, hb6, hb12]
     refine nil_z hL13 ?_
     refine awp_ret ?_
     try simp only [rk_state]
     refine ⟨_, 0, by simp only [qq, seval, -Nat.reducePow, reduceIte, reduceCtorEq, resA, Try.results56, un143, lc143, hb6, hb12]; rfl, ?_, nomem_a, nomem_a⟩
     simp only [packA]
     unfold mergeR; rw [if_neg (by omega), if_pos (by omega)]; (repeat' (first | exact .nil | exact wkR_c | exact wkR_own | exact wkR_nils | refine wkR_int ?_ | refine wkR_bool ?_ | refine wkR_sl ?_ | refine wkR_osl ?_ | refine wkR_nsl ?_ | refine wkR_oo ?_ | refine wkR_no ?_ | refine .cons ?_ ?_ | refine wkR_agg ?_ | refine wkR_tup ?_)) <;> first | rfl | omega | (dsimp only; omega)
    case b12 =>
     have hp12 := hb12
     try simp only [kb] at hp12
     refine awp_skip ?_
     refine hK10 _ ?_
     have hp1 := ptsR_len x
     have hp2 := ptsR_len y
     have hpa : ((ptsR x).1 ++ (ptsR y).1).length = (ptsR x).1.length + (ptsR y).1.length := List.length_append
     refine seq_reg 1 fun L14 hL14 => ?_
     simp only [qq, seval, -Nat.reducePow, reduceIte, reduceCtorEq, un143, lc143, hb6, hb12]
     refine aops_call_own (clone_pt_fun _ ?s15_0) rfl rfl rfl rfl (by (try simp only [qq, seval, -Nat.reducePow, reduceIte, reduceCtorEq, un143, lc143, hb6, hb12]); (repeat' (first | exact .nil | exact wk_c | exact wk_ownc | exact wk_nilsc | exact wk_nils | exact wk_fn | refine .cons ?_ ?_ | refine wk_agg ?_ | refine wk_fnL ?_))) rfl rfl rfl (by simp only [qq, seval, -Nat.reducePow, reduceIte, reduceCtorEq, un143, lc143, hb6, hb12]) ?m15
     case s15_0 => first | assumption | omega | decide +kernel | (simp only [List.length_take, List.length_drop]; omega)
     simp only [qq, seval, -Nat.reducePow, reduceIte, reduceCtorEq, AV.setOwn, AV.setOwn1, un143, lc143, hb6, hb12]
     refine aops_orunN 1 _ _ ?_
     simp only [qq, seval, -Nat.reducePow, reduceIte, reduceCtorEq, un143, lc143, hb6, hb12]
     refine aops_append (rows := ?rows16) (new := ?new16) rfl rfl rfl rfl rfl rfl un22 ?hx16 (by simp only [qq, seval, -Nat.reducePow, reduceIte, reduceCtorEq, maskO, maskN, un143, lc143, hb6, hb12]) (by simp only [qq, seval, -Nat.reducePow, reduceIte, reduceCtorEq, maskO, maskN, un143, lc143, hb6, hb12]) (by simp only [qq, seval, -Nat.reducePow, reduceIte, reduceCtorEq, un143, lc143, hb6, hb12]) ?hy16 (by simp only [tyf]; rfl) (by simp only [tyf]; decide) ?hsz16 ?hml16 ?hh16
     case hx16 => simp only [qq, seval, -Nat.reducePow, reduceIte, reduceCtorEq, AV.base, un143, lc143, hb6, hb12]; rfl
     case hy16 => simp only [qq, seval, -Nat.reducePow, reduceIte, reduceCtorEq, un143, lc143, hb6, hb12]; rfl
     case hsz16 => ((try simp only [tyf, rwR, List.length_append, List.length_cons, List.length_nil, List.length_take, List.length_drop]); omega)
     case hml16 => ((try simp only [maxLen, tyf, rwR, List.length_append, List.length_cons, List.length_nil, List.length_take, List.length_drop]); omega)
     simp only [qq, seval, -Nat.reducePow, reduceIte, reduceCtorEq, maskO, maskN, un143, lc143, hb6, hb12]
     refine aops_call (blockof_fun _ ?s17_0) rfl rfl rfl rfl (by (try simp only [qq, seval, -Nat.reducePow, reduceIte, reduceCtorEq, un143, lc143, hb6, hb12]); (repeat' (first | exact .nil | exact wk_c | exact wk_ownc | exact wk_nilsc | exact wk_nils | exact wk_fn | refine .cons ?_ ?_ | refine wk_agg ?_ | refine wk_fnL ?_))) rfl rfl ?m17
     case s17_0 => first | assumption | omega | decide +kernel | (simp only [List.length_take, List.length_drop]; omega)
     simp only [qq, seval, -Nat.reducePow, reduceIte, reduceCtorEq, un143, lc143, hb6, hb12]
     refine aops_orunN 4 _ _ ?_
     simp only [qq, seval, -Nat.reducePow, reduceIte, reduceCtorEq, un143, lc143, hb6, hb12]
     refine aops_nil (hL14 _ ?_)
     simp only [qq, seval, -Nat.reducePow, reduceIte, reduceCtorEq, un143, lc143, hb6, hb12]
     refine awp_ret ?_
     try simp only [rk_state]
     refine ⟨_, 0, by simp only [qq, seval, -Nat.reducePow, reduceIte, reduceCtorEq, resA, Try.results56, un143, lc143, hb6, hb12]; rfl, ?_, nomem_a, nomem_a⟩
     simp only [packA]
     unfold mergeR; rw [if_neg (by omega), if_neg (by omega)]; (repeat' (first | exact .nil | exact wkR_c | exact wkR_own | exact wkR_nils | refine wkR_int ?_ | refine wkR_bool ?_ | refine wkR_sl ?_ | refine wkR_osl ?_ | refine wkR_nsl ?_ | refine wkR_oo ?_ | refine wkR_no ?_ | refine .cons ?_ ?_ | refine wkR_agg ?_ | refine wkR_tup ?_)) <;> first | rfl | omega | (dsimp only; omega)
set_option maxHeartbeats 4000000 in
set_option maxRecDepth 50000 in
theorem same_fun (x y : Bk) (hlx : x.bits.length ≤ 140737488355200) : Fun Try.prog 58 [.agg [.c (.int .i64 x.n), .c (.int .i64 x.fr), .c (.int .i64 x.to), .c (.sl 4 (Rw boC x.bits))], .agg [.c (.int .i64 y.n), .c (.int .i64 y.fr), .c (.int .i64 y.to), .c (.sl 4 (Rw boC y.bits))]] nomem (.c (.bool (decide (x = y)))) nomem := by
 refine fun_of_awp Try.func58 rfl (by decide +kernel) (by decide +kernel) (Nat.le_of_ble_eq_true rfl) (fun _ _ => rfl) (fun _ _ => rfl) ?_
 refine seq_reg 3 fun L1 hL1 => ?_
 simp only [qq, seval, -Nat.reducePow, reduceIte, reduceCtorEq]
 refine nil_z hL1 ?_
 refine seq_reg 6 fun L2 hL2 => ?_
 simp only [qq, seval, -Nat.reducePow, reduceIte, reduceCtorEq]
 refine aops_part (b := ?p3) 10 ?h3 (fun hb3 => ?a3) (fun hb3 => ?b3)
 case h3 => simp only [qq, seval, -Nat.reducePow, reduceIte, reduceCtorEq]; rfl
 case a3 =>
  have hp3 := hb3
  try simp only [kb] at hp3
  try simp only [hb3]
  refine aops_orunN 7 _ _ ?_
  simp only [qq, seval, -Nat.reducePow, reduceIte, reduceCtorEq, hb3]
  refine aops_part (b := ?p4) 17 ?h4 (fun hb4 => ?a4) (fun hb4 => ?b4)
  case h4 => simp only [qq, seval, -Nat.reducePow, reduceIte, reduceCtorEq, hb3]; rfl
  case a4 =>
   have hp4 := hb4
   try simp only [kb] at hp4
   try simp only [hb4]
   refine aops_orunN 7 _ _ ?_
   simp only [qq, seval, -Nat.reducePow, reduceIte, reduceCtorEq, hb3, hb4]
   refine aops_part (b := ?p5) 24 ?h5 (fun hb5 => ?a5) (fun hb5 => ?b5)
   case h5 => simp only [qq, seval, -Nat.reducePow, reduceIte, reduceCtorEq, hb3, hb4]; rfl
   case a5 =>
    have hp5 := hb5
    try simp only [kb] at hp5
    try simp only [hb5]
    refine aops_orunN 4 _ _ ?_
    simp only [qq, seval, -Nat.reducePow, reduceIte, reduceCtorEq, hb3, hb4, hb5]
    refine aops_call (equal_bool_fun _ _ ?s6_0) (by simp only [qq, seval, -Nat.reducePow, reduceIte, reduceCtorEq, hb3, hb4, hb5]) rfl rfl rfl (by (try simp only [qq, seval, -Nat.reducePow, reduceIte, reduceCtorEq, hb3, hb4, hb5]); (repeat' (first | exact .nil | exact wk_c | exact wk_ownc | exact wk_nilsc | exact wk_nils | exact wk_fn | refine .cons ?_ ?_ | refine wk_agg ?_ | refine wk_fnL ?_))) rfl rfl ?m6
    case s6_0 => first | assumption | omega | decide +kernel | (simp only [List.length_take, List.length_drop]; omega)
    simp only [qq, seval, -Nat.reducePow, reduceIte, reduceCtorEq, hb3, hb4, hb5]
    refine aops_orunN 2 _ _ ?_
    simp only [qq, seval, -Nat.reducePow, reduceIte, reduceCtorEq, hb3, hb4, hb5]
    refine nil_z hL2 ?_
    refine awp_ret ?_
    try simp only [rk_state]
    refine ⟨_, 0, by simp only [qq, seval, -Nat.reducePow, reduceIte, reduceCtorEq, resA, Try.results58, hb3, hb4, hb5]; rfl, ?_, nomem_a, nomem_a⟩
    simp only [packA]
    rw [bk_eq]; (repeat' (first | exact .nil | exact wkR_c | exact wkR_own | exact wkR_nils | refine wkR_int ?_ | refine wkR_bool ?_ | refine wkR_sl ?_ | refine wkR_osl ?_ | refine wkR_nsl ?_ | refine wkR_oo ?_ | refine wkR_no ?_ | refine .cons ?_ ?_ | refine wkR_agg ?_ | refine wkR_tup ?_)) <;> simp_all
   case b5 =>
    have hp5 := hb5
    try simp only [kb] at hp5
    try simp only [hb5]
    refine aops_orunN 7 _ _ ?_
    simp only [qq, seval, -Nat.reducePow, reduceIte, reduceCtorEq, hb3, hb4, hb5]
    refine nil_z hL2 ?_
    refine awp_ret ?_
    try simp only [rk_state]
    refine ⟨_, 0, by simp only [qq, seval, -Nat.reducePow, reduceIte, reduceCtorEq, resA, Try.results58, hb3, hb4, hb5]; rfl, ?_, nomem_a, nomem_a⟩
    simp only [packA]
    rw [bk_eq]; (repeat' (first | exact .nil | exact wkR_c | exact wkR_own | exact wkR_nils | refine wkR_int ?_ | refine wkR_bool ?_ | refine wkR_sl ?_ | refine wkR_osl ?_ | refine wkR_nsl ?_ | refine wkR_oo ?_ | refine wkR_no ?_ | refine .cons ?_ ?_ | refine wkR_agg ?_ | refine wkR_tup ?_)) <;> simp_all
  case b4 =>
   have hp4 := hb4
   try simp only [kb] at hp4
   try simp only [hb4]
   refine aops_orunN 14 _ _ ?_
   simp only [qq, seval, -Nat.reducePow, reduceIte, reduceCtorEq, hb3, hb4]
   refine nil_z hL2 ?_
   refine awp_ret ?_
   try simp only [rk_state]
   refine ⟨_, 0, by simp only [qq, seval, -Nat.reducePow, reduceIte, reduceCtorEq, resA, Try.results58, hb3, hb4]; rfl, ?_, nomem_a, nomem_a⟩
   simp only [packA]
   rw [bk_eq]; (repeat' (first | exact .nil | exact wkR_c | exact wkR_own | exact wkR_nils | refine wkR_int ?_ | refine wkR_bool ?_ | refine wkR_sl ?_ | refine wkR_osl ?_ | refine wkR_nsl ?_ | refine wkR_oo ?_ | refine wkR_no ?_ | refine .cons ?_ ?_ | refine wkR_agg ?_ | refine wkR_tup ?_)) <;> simp_all
 case b3 =>
  have hp3 := hb3
  try simp only [kb] at hp3
  try simp only [hb3]
  refine aops_orunN 21 _ _ ?_
  simp only [qq, seval, -Nat.reducePow, reduceIte, reduceCtorEq, hb3]
  refine nil_z hL2 ?_
  refine awp_ret ?_
  try simp only [rk_state]
  refine ⟨_, 0, by simp only [qq, seval, -Nat.reducePow, reduceIte, reduceCtorEq, resA, Try.results58, hb3]; rfl, ?_, nomem_a, nomem_a⟩
  simp only [packA]
  rw [bk_eq]; (repeat' (first | exact .nil | exact wkR_c | exact wkR_own | exact wkR_nils | refine wkR_int ?_ | refine wkR_bool ?_ | refine wkR_sl ?_ | refine wkR_osl ?_ | refine wkR_nsl ?_ | refine wkR_oo ?_ | refine wkR_no ?_ | refine .cons ?_ ?_ | refine wkR_agg ?_ | refine wkR_tup ?_)) <;> simp_all
set_option maxHeartbeats 4000000 in
set_option maxRecDepth 50000 in
theorem sameb_fun (x y : Bk) (hlx : x.bits.length ≤ 140737488355200) : Fun Try.prog 59 [.agg [.c (.int .i64 x.n), .c (.int .i64 x.fr), .c (.int .i64 x.to), .c (.sl 4 (Rw boC x.bits))], .agg [.c (.int .i64 y.n), .c (.int .i64 y.fr), .c (.int .i64 y.to), .c (.sl 4 (Rw boC y.bits))]] nomem (.c (.bool (decide (x = y)))) nomem := by
 refine fun_of_awp Try.func59 rfl (by decide +kernel) (by decide +kernel) (Nat.le_of_ble_eq_true rfl) (fun _ _ => rfl) (fun _ _ => rfl) ?_
 refine seq_reg 3 fun L1 hL1 => ?_
 simp only [qq, seval, -Nat.reducePow, reduceIte, reduceCtorEq]
 refine nil_z hL1 ?_
 refine seq_reg 6 fun L2 hL2 => ?_
 simp only [qq, seval, -Nat.reducePow, reduceIte, reduceCtorEq]
 refine aops_part (b := ?p3) 10 ?h3 (fun hb3 => ?a3) (fun hb3 => ?b3)
 case h3 => simp only [qq, seval, -Nat.reducePow, reduceIte, reduceCtorEq]; rfl
 case a3 =>
  have hp3 := hb3
  try simp only [kb] at hp3
  try simp only [hb3]
  refine aops_orunN 7 _ _ ?_
  simp only [qq, seval, -Nat.reducePow, reduceIte, reduceCtorEq, hb3]
  refine aops_part (b := ?p4) 17 ?h4 (fun hb4 => ?a4) (fun hb4 => ?b4)
  case h4 => simp only [qq, seval, -Nat.reducePow, reduceIte, reduceCtorEq, hb3]; rfl
  case a4 =>
   have hp4 := hb4
   try simp only [kb] at hp4
   try simp only [hb4]
   refine aops_orunN 7 _ _ ?_
   simp only [qq, seval, -Nat.reducePow, reduceIte, reduceCtorEq, hb3, hb4]
   refine aops_part (b := ?p5) 24 ?h5 (fun hb5 => ?a5) (fun hb5 => ?b5)
   case h5 => simp only [qq, seval, -Nat.reducePow, reduceIte, reduceCtorEq, hb3, hb4]; rfl
   case a5 =>
    have hp5 := hb5
    try simp only [kb] at hp5
    try simp only [hb5]
    refine aops_orunN 4 _ _ ?_
    simp only [qq, seval, -Nat.reducePow, reduceIte, reduceCtorEq, hb3, hb4, hb5]
    refine aops_call (equal_bool_fun _ _ ?s6_0) (by simp only [qq, seval, -Nat.reducePow, reduceIte, reduceCtorEq, hb3, hb4, hb5]) rfl rfl rfl (by (try simp only [qq, seval, -Nat.reducePow, reduceIte, reduceCtorEq, hb3, hb4, hb5]); (repeat' (first | exact .nil | exact wk_c | exact wk_ownc | exact wk_nilsc | exact wk_nils | exact wk_fn | refine .cons ?_ ?_ | refine wk_agg ?_ | refine wk_fnL ?_))) rfl rfl ?m6
    case s6_0 => first | assumption | omega | decide +kernel | (simp only [List.length_take, List.length_drop]; omega)
    simp only [qq, seval, -Nat.reducePow, reduceIte, reduceCtorEq, hb3, hb4, hb5]
    refine aops_orunN 2 _ _ ?_
    simp only [qq, seval, -Nat.reducePow, reduceIte, reduceCtorEq, hb3, hb4, hb5]
    refine nil_z hL2 ?_
    refine awp_ret ?_
    try simp only [rk_state]
    refine ⟨_, 0, by simp only [qq, seval, -Nat.reducePow, reduceIte, reduceCtorEq, resA, Try.results59, hb3, hb4, hb5]; rfl, ?_, nomem_a, nomem_a⟩
    simp only [packA]
    rw [bk_eq]; (repeat' (first | exact .nil | exact wkR_c | exact wkR_own | exact wkR_nils | refine wkR_int ?_ | refine wkR_bool ?_ | refine wkR_sl ?_ | refine wkR_osl ?_ | refine wkR_nsl ?_ | refine wkR_oo ?_ | refine wkR_no ?_ | refine .cons ?_ ?_ | refine wkR_agg ?_ | refine wkR_tup ?_)) <;> simp_all
   case b5 =>
    have hp5 := hb5
    try simp only [kb] at hp5
    try simp only [hb5]
    refine aops_orunN 7 _ _ ?_
    simp only [qq, seval, -Nat.reducePow, reduceIte, reduceCtorEq, hb3, hb4, hb5]
    refine nil_z hL2 ?_
    refine awp_ret ?_
    try simp only [rk_state]
    refine ⟨_, 0, by simp only [qq, seval, -Nat.reducePow, reduceIte, reduceCtorEq, resA, Try.results59, hb3, hb4, hb5]; rfl, ?_, nomem_a, nomem_a⟩
    simp only [packA]
    rw [bk_eq]; (repeat' (first | exact .nil | exact wkR_c | exact wkR_own | exact wkR_nils | refine wkR_int ?_ | refine wkR_bool ?_ | refine wkR_sl ?_ | refine wkR_osl ?_ | refine wkR_nsl ?_ | refine wkR_oo ?_ | refine wkR_no ?_ | refine .cons ?_ ?_ | refine wkR_agg ?_ | refine wkR_tup ?_)) <;> simp_all
  case b4 =>
   have hp4 := hb4
   try simp only [kb] at hp4
   try simp only [hb4]
   refine aops_orunN 14 _ _ ?_
   simp only [qq, seval, -Nat.reducePow, reduceIte, reduceCtorEq, hb3, hb4]
   refine nil_z hL2 ?_
   refine awp_ret ?_
   try simp only [rk_state]
   refine ⟨_, 0, by simp only [qq, seval, -Nat.reducePow, reduceIte, reduceCtorEq, resA, Try.results59, hb3, hb4]; rfl, ?_, nomem_a, nomem_a⟩
   simp only [packA]
   rw [bk_eq]; (repeat' (first | exact .nil | exact wkR_c | exact wkR_own | exact wkR_nils | refine wkR_int ?_ | refine wkR_bool ?_ | refine wkR_sl ?_ | refine wkR_osl ?_ | refine wkR_nsl ?_ | refine wkR_oo ?_ | refine wkR_no ?_ | refine .cons ?_ ?_ | refine wkR_agg ?_ | refine wkR_tup ?_)) <;> simp_all
 case b3 =>
  have hp3 := hb3
  try simp only [kb] at hp3
  try simp only [hb3]
  refine aops_orunN 21 _ _ ?_
  simp only [qq, seval, -Nat.reducePow, reduceIte, reduceCtorEq, hb3]
  refine nil_z hL2 ?_
  refine awp_ret ?_
  try simp only [rk_state]
  refine ⟨_, 0, by simp only [qq, seval, -Nat.reducePow, reduceIte, reduceCtorEq, resA, Try.results59, hb3]; rfl, ?_, nomem_a, nomem_a⟩
  simp only [packA]
  rw [bk_eq]; (repeat' (first | exact .nil | exact wkR_c | exact wkR_own | exact wkR_nils | refine wkR_int ?_ | refine wkR_bool ?_ | refine wkR_sl ?_ | refine wkR_osl ?_ | refine wkR_nsl ?_ | refine wkR_oo ?_ | refine wkR_no ?_ | refine .cons ?_ ?_ | refine wkR_agg ?_ | refine wkR_tup ?_)) <;> simp_all
end Go.Proofs.Y
