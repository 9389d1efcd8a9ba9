/-
  What is proved: lines: what lined and the law LineSays compute. Conditions: none.
-/
import Derived.Test.YtoihccclnkhmaaaC3b
import Derived.Test.YtoihccclnkhmaaaPA
import Derived.Test.YtoihccclnkhmaaaCPt
set_option linter.unusedVariables false
set_option linter.unusedSimpArgs false
set_option maxRecDepth 4000
namespace Go.Proofs.Y
open Go.Rb
set_option maxHeartbeats 4000000 in
set_option maxRecDepth 50000 in
theorem lined_fun  : Fun Try.prog 48 [] nomem (.c (.bool true)) nomem := by
 refine fun_of_awp Try.func48 rfl (by decide +kernel) (by decide +kernel) (Nat.le_of_ble_eq_true rfl) (fun _ _ => rfl) (fun _ _ => rfl) ?_
 refine seq_reg 1 fun L1 hL1 => ?_
 simp only [qq, seval, -Nat.reducePow, reduceIte, reduceCtorEq, pk3_pack, pk3_un, pk3_torn, pk3_take, pk3_len, late33]
 refine nil_z hL1 ?_
 refine seq_reg0 fun L2 hL2 => ?_
 refine aops_call_own points_fun rfl rfl rfl rfl (by (try simp only [qq, seval, -Nat.reducePow, reduceIte, reduceCtorEq, pk3_pack, pk3_un, pk3_torn, pk3_take, pk3_len, late33]); (repeat' (first | exact .nil | exact wk_c | exact wk_ownc | exact wk_nilsc | exact wk_nils | exact wk_fn | refine .cons ?_ ?_ | refine wk_agg ?_ | refine wk_fnL ?_))) rfl rfl rfl (by simp only [qq, seval, -Nat.reducePow, reduceIte, reduceCtorEq, pk3_pack, pk3_un, pk3_torn, pk3_take, pk3_len, late33]) ?_
 simp only [qq, seval, -Nat.reducePow, reduceIte, reduceCtorEq, AV.setOwn, AV.setOwn1, pk3_pack, pk3_un, pk3_torn, pk3_take, pk3_len, late33]
 refine aops_call_own (pack_fun _) rfl rfl rfl rfl (by (try simp only [qq, seval, -Nat.reducePow, reduceIte, reduceCtorEq, pk3_pack, pk3_un, pk3_torn, pk3_take, pk3_len, late33]); (repeat' (first | exact .nil | exact wk_c | exact wk_ownc | exact wk_nilsc | exact wk_nils | exact wk_fn | refine .cons ?_ ?_ | refine wk_agg ?_ | refine wk_fnL ?_))) rfl rfl rfl (by simp only [qq, seval, -Nat.reducePow, reduceIte, reduceCtorEq, pk3_pack, pk3_un, pk3_torn, pk3_take, pk3_len, late33]) ?_
 simp only [qq, seval, -Nat.reducePow, reduceIte, reduceCtorEq, AV.setOwn, AV.setOwn1, pk3_pack, pk3_un, pk3_torn, pk3_take, pk3_len, late33]
 refine aops_orunN 5 _ _ ?_
 simp only [qq, seval, -Nat.reducePow, reduceIte, reduceCtorEq, pk3_pack, pk3_un, pk3_torn, pk3_take, pk3_len, late33]
 refine aops_nil (hL2 _ ?_)
 simp only [qq, seval, -Nat.reducePow, reduceIte, reduceCtorEq, pk3_pack, pk3_un, pk3_torn, pk3_take, pk3_len, late33]
 refine seq_reg 1 fun L5 hL5 => ?_
 simp only [qq, seval, -Nat.reducePow, reduceIte, reduceCtorEq, pk3_pack, pk3_un, pk3_torn, pk3_take, pk3_len, late33]
 refine aops_call_own (unpack_fun pk3 3 (by decide)) rfl rfl rfl rfl (by (try simp only [qq, seval, -Nat.reducePow, reduceIte, reduceCtorEq, pk3_pack, pk3_un, pk3_torn, pk3_take, pk3_len, late33]); (repeat' (first | exact .nil | exact wk_c | exact wk_ownc | exact wk_nilsc | exact wk_nils | exact wk_fn | refine .cons ?_ ?_ | refine wk_agg ?_ | refine wk_fnL ?_))) rfl rfl rfl (by simp only [qq, seval, -Nat.reducePow, reduceIte, reduceCtorEq, pk3_pack, pk3_un, pk3_torn, pk3_take, pk3_len, late33]) ?_
 simp only [qq, seval, -Nat.reducePow, reduceIte, reduceCtorEq, AV.setOwn, AV.setOwn1, pk3_pack, pk3_un, pk3_torn, pk3_take, pk3_len, late33]
 refine aops_orunN 5 _ _ ?_
 simp only [qq, seval, -Nat.reducePow, reduceIte, reduceCtorEq, pk3_pack, pk3_un, pk3_torn, pk3_take, pk3_len, late33]
 refine aops_nil (hL5 _ ?_)
 simp only [qq, seval, -Nat.reducePow, reduceIte, reduceCtorEq, pk3_pack, pk3_un, pk3_torn, pk3_take, pk3_len, late33]
 as_aux_lemma =>
  refine seq_reg 1 fun L7 hL7 => ?_
  simp only [qq, seval, -Nat.reducePow, reduceIte, reduceCtorEq, pk3_pack, pk3_un, pk3_torn, pk3_take, pk3_len, late33]
  refine aops_call_own (unpack_fun pk3 2 (by decide)) rfl rfl rfl rfl (by (try simp only [qq, seval, -Nat.reducePow, reduceIte, reduceCtorEq, pk3_pack, pk3_un, pk3_torn, pk3_take, pk3_len, late33]); (repeat' (first | exact .nil | exact wk_c | exact wk_ownc | exact wk_nilsc | exact wk_nils | exact wk_fn | refine .cons ?_ ?_ | refine wk_agg ?_ | refine wk_fnL ?_))) rfl rfl rfl (by simp only [qq, seval, -Nat.reducePow, reduceIte, reduceCtorEq, pk3_pack, pk3_un, pk3_torn, pk3_take, pk3_len, late33]) ?_
  simp only [qq, seval, -Nat.reducePow, reduceIte, reduceCtorEq, AV.setOwn, AV.setOwn1, pk3_pack, pk3_un, pk3_torn, pk3_take, pk3_len, late33]
  refine aops_orunN 5 _ _ ?_
  simp only [qq, seval, -Nat.reducePow, reduceIte, reduceCtorEq, pk3_pack, pk3_un, pk3_torn, pk3_take, pk3_len, late33]
  refine aops_nil (hL7 _ ?_)
  simp only [qq, seval, -Nat.reducePow, reduceIte, reduceCtorEq, pk3_pack, pk3_un, pk3_torn, pk3_take, pk3_len, late33]
  refine seq_reg 1 fun L9 hL9 => ?_
  simp only [qq, seval, -Nat.reducePow, reduceIte, reduceCtorEq, pk3_pack, pk3_un, pk3_torn, pk3_take, pk3_len, late33]
  refine aops_call_own (ztake_fun pk3 (by decide)) rfl rfl rfl rfl (by (try simp only [qq, seval, -Nat.reducePow, reduceIte, reduceCtorEq, pk3_pack, pk3_un, pk3_torn, pk3_take, pk3_len, late33]); (repeat' (first | exact .nil | exact wk_c | exact wk_ownc | exact wk_nilsc | exact wk_nils | exact wk_fn | refine .cons ?_ ?_ | refine wk_agg ?_ | refine wk_fnL ?_))) rfl rfl rfl (by simp only [qq, seval, -Nat.reducePow, reduceIte, reduceCtorEq, pk3_pack, pk3_un, pk3_torn, pk3_take, pk3_len, late33]) ?_
  simp only [qq, seval, -Nat.reducePow, reduceIte, reduceCtorEq, AV.setOwn, AV.setOwn1, pk3_pack, pk3_un, pk3_torn, pk3_take, pk3_len, late33]
  refine aops_orunN 7 _ _ ?_
  simp only [qq, seval, -Nat.reducePow, reduceIte, reduceCtorEq, pk3_pack, pk3_un, pk3_torn, pk3_take, pk3_len, late33]
  refine aops_nil (hL9 _ ?_)
  simp only [qq, seval, -Nat.reducePow, reduceIte, reduceCtorEq, pk3_pack, pk3_un, pk3_torn, pk3_take, pk3_len, late33]
  refine seq_reg 3 fun L11 hL11 => ?_
  simp only [qq, seval, -Nat.reducePow, reduceIte, reduceCtorEq, pk3_pack, pk3_un, pk3_torn, pk3_take, pk3_len, late33]
  try simp (disch := omega) only [dec_t, dec_f, beq_t, beq_f, bne_t, bne_f]
  try simp only [qq, seval, -Nat.reducePow, reduceIte, reduceCtorEq, pk3_pack, pk3_un, pk3_torn, pk3_take, pk3_len, late33]
  refine aops_part (b := ?p12) 33 ?h12 (fun hb12 => ?a12) (fun hb12 => ?b12)
  case h12 => simp only [qq, seval, -Nat.reducePow, reduceIte, reduceCtorEq, pk3_pack, pk3_un, pk3_torn, pk3_take, pk3_len, late33]; rfl
  case a12 =>
   have hp12 := hb12
   try simp only [kb] at hp12
   try simp only [hb12]
   refine aops_orunN 4 _ _ ?_
   simp only [qq, seval, -Nat.reducePow, reduceIte, reduceCtorEq, pk3_pack, pk3_un, pk3_torn, pk3_take, pk3_len, late33, hb12]
   try simp (disch := omega) only [dec_t, dec_f, beq_t, beq_f, bne_t, bne_f]
   try simp only [qq, seval, -Nat.reducePow, reduceIte, reduceCtorEq, pk3_pack, pk3_un, pk3_torn, pk3_take, pk3_len, late33, hb12]
   refine aops_part (b := ?p13) 37 ?h13 (fun hb13 => ?a13) (fun hb13 => ?b13)
   case h13 => simp only [qq, seval, -Nat.reducePow, reduceIte, reduceCtorEq, pk3_pack, pk3_un, pk3_torn, pk3_take, pk3_len, late33, hb12]; rfl
   case a13 =>
    have hp13 := hb13
    try simp only [kb] at hp13
    try simp only [hb13]
    refine aops_orunN 4 _ _ ?_
    simp only [qq, seval, -Nat.reducePow, reduceIte, reduceCtorEq, pk3_pack, pk3_un, pk3_torn, pk3_take, pk3_len, late33, hb12, hb13]
    try simp (disch := omega) only [dec_t, dec_f, beq_t, beq_f, bne_t, bne_f]
    try simp only [qq, seval, -Nat.reducePow, reduceIte, reduceCtorEq, pk3_pack, pk3_un, pk3_torn, pk3_take, pk3_len, late33, hb12, hb13]
    refine aops_part (b := ?p14) 41 ?h14 (fun hb14 => ?a14) (fun hb14 => ?b14)
    case h14 => simp only [qq, seval, -Nat.reducePow, reduceIte, reduceCtorEq, pk3_pack, pk3_un, pk3_torn, pk3_take, pk3_len, late33, hb12, hb13]; rfl
    case a14 =>
     have hp14 := hb14
     try simp only [kb] at hp14
     try simp only [hb14]
     refine aops_orunN 4 _ _ ?_
     simp only [qq, seval, -Nat.reducePow, reduceIte, reduceCtorEq, pk3_pack, pk3_un, pk3_torn, pk3_take, pk3_len, late33, hb12, hb13, hb14]
     try simp (disch := omega) only [dec_t, dec_f, beq_t, beq_f, bne_t, bne_f]
     try simp only [qq, seval, -Nat.reducePow, reduceIte, reduceCtorEq, pk3_pack, pk3_un, pk3_torn, pk3_take, pk3_len, late33, hb12, hb13, hb14]
     refine aops_part (b := ?p15) 45 ?h15 (fun hb15 => ?a15) (fun hb15 => ?b15)
     case h15 => simp only [qq, seval, -Nat.reducePow, reduceIte, reduceCtorEq, pk3_pack, pk3_un, pk3_torn, pk3_take, pk3_len, late33, hb12, hb13, hb14]; rfl
     case a15 =>
      have hp15 := hb15
      try simp only [kb] at hp15
      try simp only [hb15]
      refine aops_orunN 4 _ _ ?_
      simp only [qq, seval, -Nat.reducePow, reduceIte, reduceCtorEq, pk3_pack, pk3_un, pk3_torn, pk3_take, pk3_len, late33, hb12, hb13, hb14, hb15]
      try simp (disch := omega) only [dec_t, dec_f, beq_t, beq_f, bne_t, bne_f]
      try simp only [qq, seval, -Nat.reducePow, reduceIte, reduceCtorEq, pk3_pack, pk3_un, pk3_torn, pk3_take, pk3_len, late33, hb12, hb13, hb14, hb15]
      refine aops_part (b := ?p16) 49 ?h16 (fun hb16 => ?a16) (fun hb16 => ?b16)
      case h16 => simp only [qq, seval, -Nat.reducePow, reduceIte, reduceCtorEq, pk3_pack, pk3_un, pk3_torn, pk3_take, pk3_len, late33, hb12, hb13, hb14, hb15]; rfl
      case a16 =>
       have hp16 := hb16
       try simp only [kb] at hp16
       try simp only [hb16]
       refine aops_orunN 5 _ _ ?_
       simp only [qq, seval, -Nat.reducePow, reduceIte, reduceCtorEq, pk3_pack, pk3_un, pk3_torn, pk3_take, pk3_len, late33, hb12, hb13, hb14, hb15, hb16]
       try simp (disch := omega) only [dec_t, dec_f, beq_t, beq_f, bne_t, bne_f]
       try simp only [qq, seval, -Nat.reducePow, reduceIte, reduceCtorEq, pk3_pack, pk3_un, pk3_torn, pk3_take, pk3_len, late33, hb12, hb13, hb14, hb15, hb16]
       refine aops_part (b := ?p17) 54 ?h17 (fun hb17 => ?a17) (fun hb17 => ?b17)
       case h17 => simp only [qq, seval, -Nat.reducePow, reduceIte, reduceCtorEq, pk3_pack, pk3_un, pk3_torn, pk3_take, pk3_len, late33, hb12, hb13, hb14, hb15, hb16]; rfl
       case a17 =>
        have hp17 := hb17
        try simp only [kb] at hp17
        try simp only [hb17]
        refine aops_orunN 1 _ _ ?_
        simp only [qq, seval, -Nat.reducePow, reduceIte, reduceCtorEq, pk3_pack, pk3_un, pk3_torn, pk3_take, pk3_len, late33, hb12, hb13, hb14, hb15, hb16, hb17]
        refine aops_call_own points_fun (by simp only [qq, seval, -Nat.reducePow, reduceIte, reduceCtorEq, pk3_pack, pk3_un, pk3_torn, pk3_take, pk3_len, late33, hb12, hb13, hb14, hb15, hb16, hb17]) rfl rfl rfl (by (try simp only [qq, seval, -Nat.reducePow, reduceIte, reduceCtorEq, pk3_pack, pk3_un, pk3_torn, pk3_take, pk3_len, late33, hb12, hb13, hb14, hb15, hb16, hb17]); (repeat' (first | exact .nil | exact wk_c | exact wk_ownc | exact wk_nilsc | exact wk_nils | exact wk_fn | refine .cons ?_ ?_ | refine wk_agg ?_ | refine wk_fnL ?_))) rfl rfl rfl (by simp only [qq, seval, -Nat.reducePow, reduceIte, reduceCtorEq, pk3_pack, pk3_un, pk3_torn, pk3_take, pk3_len, late33, hb12, hb13, hb14, hb15, hb16, hb17]) ?_
        simp only [qq, seval, -Nat.reducePow, reduceIte, reduceCtorEq, AV.setOwn, AV.setOwn1, pk3_pack, pk3_un, pk3_torn, pk3_take, pk3_len, late33, hb12, hb13, hb14, hb15, hb16, hb17]
        refine aops_call (equal_pt_fun pts3 pts3 (by decide)) (by simp only [qq, seval, -Nat.reducePow, reduceIte, reduceCtorEq, pk3_pack, pk3_un, pk3_torn, pk3_take, pk3_len, late33, hb12, hb13, hb14, hb15, hb16, hb17]) rfl rfl rfl (by (try simp only [qq, seval, -Nat.reducePow, reduceIte, reduceCtorEq, pk3_pack, pk3_un, pk3_torn, pk3_take, pk3_len, late33, hb12, hb13, hb14, hb15, hb16, hb17]); (repeat' (first | exact .nil | exact wk_c | exact wk_ownc | exact wk_nilsc | exact wk_nils | exact wk_fn | refine .cons ?_ ?_ | refine wk_agg ?_ | refine wk_fnL ?_))) rfl rfl ?_
        simp only [qq, seval, -Nat.reducePow, reduceIte, reduceCtorEq, pk3_pack, pk3_un, pk3_torn, pk3_take, pk3_len, late33, hb12, hb13, hb14, hb15, hb16, hb17]
        refine aops_orunN 2 _ _ ?_
        simp only [qq, seval, -Nat.reducePow, reduceIte, reduceCtorEq, pk3_pack, pk3_un, pk3_torn, pk3_take, pk3_len, late33, hb12, hb13, hb14, hb15, hb16, hb17]
        refine aops_part (b := ?p20) 59 ?h20 (fun hb20 => ?a20) (fun hb20 => ?b20)
        case h20 => simp only [qq, seval, -Nat.reducePow, reduceIte, reduceCtorEq, pk3_pack, pk3_un, pk3_torn, pk3_take, pk3_len, late33, hb12, hb13, hb14, hb15, hb16, hb17]; rfl
        case a20 =>
         have hp20 := hb20
         try simp only [kb] at hp20
         try simp only [hb20]
         refine aops_orunN 3 _ _ ?_
         simp only [qq, seval, -Nat.reducePow, reduceIte, reduceCtorEq, pk3_pack, pk3_un, pk3_torn, pk3_take, pk3_len, late33, hb12, hb13, hb14, hb15, hb16, hb17, hb20]
         refine aops_call (check_fun _) (by simp only [qq, seval, -Nat.reducePow, reduceIte, reduceCtorEq, pk3_pack, pk3_un, pk3_torn, pk3_take, pk3_len, late33, hb12, hb13, hb14, hb15, hb16, hb17, hb20]) rfl rfl rfl (by (try simp only [qq, seval, -Nat.reducePow, reduceIte, reduceCtorEq, pk3_pack, pk3_un, pk3_torn, pk3_take, pk3_len, late33, hb12, hb13, hb14, hb15, hb16, hb17, hb20]); (repeat' (first | exact .nil | exact wk_c | exact wk_ownc | exact wk_nilsc | exact wk_nils | exact wk_fn | refine .cons ?_ ?_ | refine wk_agg ?_ | refine wk_fnL ?_))) rfl rfl ?_
         simp only [qq, seval, -Nat.reducePow, reduceIte, reduceCtorEq, pk3_pack, pk3_un, pk3_torn, pk3_take, pk3_len, late33, hb12, hb13, hb14, hb15, hb16, hb17, hb20]
         refine aops_orunN 3 _ _ ?_
         simp only [qq, seval, -Nat.reducePow, reduceIte, reduceCtorEq, pk3_pack, pk3_un, pk3_torn, pk3_take, pk3_len, late33, hb12, hb13, hb14, hb15, hb16, hb17, hb20]
         try simp (disch := omega) only [dec_t, dec_f, beq_t, beq_f, bne_t, bne_f]
         try simp only [qq, seval, -Nat.reducePow, reduceIte, reduceCtorEq, pk3_pack, pk3_un, pk3_torn, pk3_take, pk3_len, late33, hb12, hb13, hb14, hb15, hb16, hb17, hb20]
         refine aops_nil (hL11 _ ?_)
         simp only [qq, seval, -Nat.reducePow, reduceIte, reduceCtorEq, pk3_pack, pk3_un, pk3_torn, pk3_take, pk3_len, late33, hb12, hb13, hb14, hb15, hb16, hb17, hb20]
         as_aux_lemma =>
          refine awp_ret ?_
          try simp only [rk_state]
          refine ⟨_, 0, by simp only [qq, seval, -Nat.reducePow, reduceIte, reduceCtorEq, resA, Try.results48, pk3_pack, pk3_un, pk3_torn, pk3_take, pk3_len, late33, hb12, hb13, hb14, hb15, hb16, hb17, hb20]; rfl, ?_, nomem_a, nomem_a⟩
          simp only [packA]
          (repeat' (first | exact .nil | exact wkR_c | exact wkR_own | exact wkR_nils | refine wkR_int ?_ | refine wkR_bool ?_ | refine wkR_sl ?_ | refine wkR_osl ?_ | refine wkR_nsl ?_ | refine wkR_oo ?_ | refine wkR_no ?_ | refine .cons ?_ ?_ | refine wkR_agg ?_ | refine wkR_tup ?_))
        case b20 =>
         first | exact absurd hb20 (by decide) | (have hp20 := hb20; (try simp only [kb] at hp20); exfalso; omega)
       case b17 =>
        first | exact absurd hb17 (by decide) | (have hp17 := hb17; (try simp only [kb] at hp17); exfalso; omega)
      case b16 =>
       first | exact absurd hb16 (by decide) | (have hp16 := hb16; (try simp only [kb] at hp16); exfalso; omega)
     case b15 =>
      first | exact absurd hb15 (by decide) | (have hp15 := hb15; (try simp only [kb] at hp15); exfalso; omega)
    case b14 =>
     first | exact absurd hb14 (by decide) | (have hp14 := hb14; (try simp only [kb] at hp14); exfalso; omega)
   case b13 =>
    first | exact absurd hb13 (by decide) | (have hp13 := hb13; (try simp only [kb] at hp13); exfalso; omega)
  case b12 =>
   first | exact absurd hb12 (by decide) | (have hp12 := hb12; (try simp only [kb] at hp12); exfalso; omega)
set_option maxHeartbeats 4000000 in
set_option maxRecDepth 50000 in
theorem lineSays_fun (ps : List Pt) (b : List Bool) (n : Int) (hl : b.length ≤ 140737488355200) : Fun Try.prog 10 [.c (.sl 34 (Rw Pt.cs ps)), .c (.sl 4 (Rw boC b)), .c (.int .i64 n)] nomem (.c (.bool true)) nomem := by
 refine fun_of_awp Try.func10 rfl (by decide +kernel) (by decide +kernel) (Nat.le_of_ble_eq_true rfl) (fun _ _ => rfl) (fun _ _ => rfl) ?_
 refine seq_reg 1 fun L1 hL1 => ?_
 simp only [qq, seval, -Nat.reducePow, reduceIte, reduceCtorEq]
 refine nil_z hL1 ?_
 refine seq_reg 1 fun L2 hL2 => ?_
 simp only [qq, seval, -Nat.reducePow, reduceIte, reduceCtorEq]
 refine aops_call_own (pack_fun _) rfl rfl rfl rfl (by (try simp only [qq, seval, -Nat.reducePow, reduceIte, reduceCtorEq]); (repeat' (first | exact .nil | exact wk_c | exact wk_ownc | exact wk_nilsc | exact wk_nils | exact wk_fn | refine .cons ?_ ?_ | refine wk_agg ?_ | refine wk_fnL ?_))) rfl rfl rfl (by simp only [qq, seval, -Nat.reducePow, reduceIte, reduceCtorEq]) ?_
 simp only [qq, seval, -Nat.reducePow, reduceIte, reduceCtorEq, AV.setOwn, AV.setOwn1]
 refine aops_orunN 5 _ _ ?_
 simp only [qq, seval, -Nat.reducePow, reduceIte, reduceCtorEq]
 refine aops_nil (hL2 _ ?_)
 simp only [qq, seval, -Nat.reducePow, reduceIte, reduceCtorEq]
 refine seq_reg 2 fun L4 hL4 => ?_
 simp only [qq, seval, -Nat.reducePow, reduceIte, reduceCtorEq]
 refine aops_call_own (unpack_fun _ _ ?s5_0) rfl rfl rfl rfl (by (try simp only [qq, seval, -Nat.reducePow, reduceIte, reduceCtorEq]); (repeat' (first | exact .nil | exact wk_c | exact wk_ownc | exact wk_nilsc | exact wk_nils | exact wk_fn | refine .cons ?_ ?_ | refine wk_agg ?_ | refine wk_fnL ?_))) rfl rfl rfl (by simp only [qq, seval, -Nat.reducePow, reduceIte, reduceCtorEq]) ?m5
 case s5_0 => first | assumption | omega | decide +kernel | (simp only [List.length_take, List.length_drop]; omega)
 simp only [qq, seval, -Nat.reducePow, reduceIte, reduceCtorEq, AV.setOwn, AV.setOwn1]
 refine aops_orunN 5 _ _ ?_
 simp only [qq, seval, -Nat.reducePow, reduceIte, reduceCtorEq]
 refine aops_nil (hL4 _ ?_)
 simp only [qq, seval, -Nat.reducePow, reduceIte, reduceCtorEq]
 as_aux_lemma =>
  refine seq_reg 1 fun L6 hL6 => ?_
  simp only [qq, seval, -Nat.reducePow, reduceIte, reduceCtorEq]
  refine aops_call_own (packedof_fun _) rfl rfl rfl rfl (by (try simp only [qq, seval, -Nat.reducePow, reduceIte, reduceCtorEq]); (repeat' (first | exact .nil | exact wk_c | exact wk_ownc | exact wk_nilsc | exact wk_nils | exact wk_fn | refine .cons ?_ ?_ | refine wk_agg ?_ | refine wk_fnL ?_))) rfl rfl rfl (by simp only [qq, seval, -Nat.reducePow, reduceIte, reduceCtorEq]) ?_
  simp only [qq, seval, -Nat.reducePow, reduceIte, reduceCtorEq, AV.setOwn, AV.setOwn1]
  refine aops_orunN 5 _ _ ?_
  simp only [qq, seval, -Nat.reducePow, reduceIte, reduceCtorEq]
  refine aops_nil (hL6 _ ?_)
  simp only [qq, seval, -Nat.reducePow, reduceIte, reduceCtorEq]
  refine seq_reg 2 fun L8 hL8 => ?_
  simp only [qq, seval, -Nat.reducePow, reduceIte, reduceCtorEq]
  refine aops_call (unpackedof_fun _ _ ?s9_0) rfl rfl rfl rfl (by (try simp only [qq, seval, -Nat.reducePow, reduceIte, reduceCtorEq]); (repeat' (first | exact .nil | exact wk_c | exact wk_ownc | exact wk_nilsc | exact wk_nils | exact wk_fn | refine .cons ?_ ?_ | refine wk_agg ?_ | refine wk_fnL ?_))) rfl rfl ?m9
  case s9_0 => first | assumption | omega | decide +kernel | (simp only [List.length_take, List.length_drop]; omega)
  simp only [qq, seval, -Nat.reducePow, reduceIte, reduceCtorEq]
  refine aops_orunN 5 _ _ ?_
  simp only [qq, seval, -Nat.reducePow, reduceIte, reduceCtorEq]
  refine nil_z hL8 ?_
  have hb1 := packR_len ps
  have hb2 := unpackR_len b n
  refine seq_reg0 fun L10 hL10 => ?_
  refine aops_call lined_fun rfl rfl rfl rfl (by (try simp only [qq, seval, -Nat.reducePow, reduceIte, reduceCtorEq]); (repeat' (first | exact .nil | exact wk_c | exact wk_ownc | exact wk_nilsc | exact wk_nils | exact wk_fn | refine .cons ?_ ?_ | refine wk_agg ?_ | refine wk_fnL ?_))) rfl rfl ?_
  simp only [qq, seval, -Nat.reducePow, reduceIte, reduceCtorEq]
  refine aops_orunN 1 _ _ ?_
  simp only [qq, seval, -Nat.reducePow, reduceIte, reduceCtorEq]
  refine aops_part (b := ?p12) 38 ?h12 (fun hb12 => ?a12) (fun hb12 => ?b12)
  case h12 => simp only [qq, seval, -Nat.reducePow, reduceIte, reduceCtorEq]; rfl
  case a12 =>
   have hp12 := hb12
   try simp only [kb] at hp12
   try simp only [hb12]
   refine aops_orunN 1 _ _ ?_
   simp only [qq, seval, -Nat.reducePow, reduceIte, reduceCtorEq, hb12]
   refine aops_call (check_fun _) (by simp only [qq, seval, -Nat.reducePow, reduceIte, reduceCtorEq, hb12]) rfl rfl rfl (by (try simp only [qq, seval, -Nat.reducePow, reduceIte, reduceCtorEq, hb12]); (repeat' (first | exact .nil | exact wk_c | exact wk_ownc | exact wk_nilsc | exact wk_nils | exact wk_fn | refine .cons ?_ ?_ | refine wk_agg ?_ | refine wk_fnL ?_))) rfl rfl ?_
   simp only [qq, seval, -Nat.reducePow, reduceIte, reduceCtorEq, hb12]
   refine aops_orunN 1 _ _ ?_
   simp only [qq, seval, -Nat.reducePow, reduceIte, reduceCtorEq, hb12]
   refine aops_call (checkps_fun _) (by simp only [qq, seval, -Nat.reducePow, reduceIte, reduceCtorEq, hb12]) rfl rfl rfl (by (try simp only [qq, seval, -Nat.reducePow, reduceIte, reduceCtorEq, hb12]); (repeat' (first | exact .nil | exact wk_c | exact wk_ownc | exact wk_nilsc | exact wk_nils | exact wk_fn | refine .cons ?_ ?_ | refine wk_agg ?_ | refine wk_fnL ?_))) rfl rfl ?_
   simp only [qq, seval, -Nat.reducePow, reduceIte, reduceCtorEq, hb12]
   refine aops_orunN 3 _ _ ?_
   simp only [qq, seval, -Nat.reducePow, reduceIte, reduceCtorEq, hb12]
   refine aops_part (b := ?p15) 45 ?h15 (fun hb15 => ?a15) (fun hb15 => ?b15)
   case h15 => simp only [qq, seval, -Nat.reducePow, reduceIte, reduceCtorEq, hb12]; rfl
   case a15 =>
    have hp15 := hb15
    try simp only [kb] at hp15
    try simp only [hb15]
    refine aops_orunN 5 _ _ ?_
    simp only [qq, seval, -Nat.reducePow, reduceIte, reduceCtorEq, hb12, hb15]
    refine aops_part (b := ?p16) 50 ?h16 (fun hb16 => ?a16) (fun hb16 => ?b16)
    case h16 => simp only [qq, seval, -Nat.reducePow, reduceIte, reduceCtorEq, hb12, hb15]; rfl
    case a16 =>
     have hp16 := hb16
     try simp only [kb] at hp16
     try simp only [hb16]
     refine aops_orunN 2 _ _ ?_
     simp only [qq, seval, -Nat.reducePow, reduceIte, reduceCtorEq, hb12, hb15, hb16]
     refine aops_call (equal_bool_fun _ _ ?s17_0) (by simp only [qq, seval, -Nat.reducePow, reduceIte, reduceCtorEq, hb12, hb15, hb16]) rfl rfl rfl (by (try simp only [qq, seval, -Nat.reducePow, reduceIte, reduceCtorEq, hb12, hb15, hb16]); (repeat' (first | exact .nil | exact wk_c | exact wk_ownc | exact wk_nilsc | exact wk_nils | exact wk_fn | refine .cons ?_ ?_ | refine wk_agg ?_ | refine wk_fnL ?_))) rfl rfl ?m17
     case s17_0 => first | assumption | omega | decide +kernel | (simp only [List.length_take, List.length_drop]; omega)
     simp only [qq, seval, -Nat.reducePow, reduceIte, reduceCtorEq, hb12, hb15, hb16]
     refine aops_orunN 2 _ _ ?_
     simp only [qq, seval, -Nat.reducePow, reduceIte, reduceCtorEq, hb12, hb15, hb16]
     refine aops_part (b := ?p18) 55 ?h18 (fun hb18 => ?a18) (fun hb18 => ?b18)
     case h18 => simp only [qq, seval, -Nat.reducePow, reduceIte, reduceCtorEq, hb12, hb15, hb16]; rfl
     case a18 =>
      have hp18 := hb18
      try simp only [kb] at hp18
      try simp only [hb18]
      refine aops_orunN 5 _ _ ?_
      simp only [qq, seval, -Nat.reducePow, reduceIte, reduceCtorEq, hb12, hb15, hb16, hb18]
      refine aops_part (b := ?p19) 60 ?h19 (fun hb19 => ?a19) (fun hb19 => ?b19)
      case h19 => simp only [qq, seval, -Nat.reducePow, reduceIte, reduceCtorEq, hb12, hb15, hb16, hb18]; rfl
      case a19 =>
       have hp19 := hb19
       try simp only [kb] at hp19
       try simp only [hb19]
       refine aops_orunN 2 _ _ ?_
       simp only [qq, seval, -Nat.reducePow, reduceIte, reduceCtorEq, hb12, hb15, hb16, hb18, hb19]
       refine aops_call (equal_pt_fun _ _ ?s20_0) (by simp only [qq, seval, -Nat.reducePow, reduceIte, reduceCtorEq, hb12, hb15, hb16, hb18, hb19]) rfl rfl rfl (by (try simp only [qq, seval, -Nat.reducePow, reduceIte, reduceCtorEq, hb12, hb15, hb16, hb18, hb19]); (repeat' (first | exact .nil | exact wk_c | exact wk_ownc | exact wk_nilsc | exact wk_nils | exact wk_fn | refine .cons ?_ ?_ | refine wk_agg ?_ | refine wk_fnL ?_))) rfl rfl ?m20
       case s20_0 => first | assumption | omega | decide +kernel | (simp only [List.length_take, List.length_drop]; omega)
       simp only [qq, seval, -Nat.reducePow, reduceIte, reduceCtorEq, hb12, hb15, hb16, hb18, hb19]
       refine aops_orunN 2 _ _ ?_
       simp only [qq, seval, -Nat.reducePow, reduceIte, reduceCtorEq, hb12, hb15, hb16, hb18, hb19]
       refine nil_z hL10 ?_
       as_aux_lemma =>
        refine awp_ret ?_
        try simp only [rk_state]
        refine ⟨_, 0, by simp only [qq, seval, -Nat.reducePow, reduceIte, reduceCtorEq, resA, Try.results10, hb12, hb15, hb16, hb18, hb19]; rfl, ?_, nomem_a, nomem_a⟩
        simp only [packA]
        (repeat' (first | exact .nil | exact wkR_c | exact wkR_own | exact wkR_nils | refine wkR_int ?_ | refine wkR_bool ?_ | refine wkR_sl ?_ | refine wkR_osl ?_ | refine wkR_nsl ?_ | refine wkR_oo ?_ | refine wkR_no ?_ | refine .cons ?_ ?_ | refine wkR_agg ?_ | refine wkR_tup ?_))
      case b19 =>
       first | exact absurd hb19 (by decide) | (have hp19 := hb19; (try simp only [kb] at hp19); exfalso; omega)
     case b18 =>
      first | exact absurd hb18 (by decide) | (have hp18 := hb18; (try simp only [kb] at hp18); exfalso; omega)
    case b16 =>
     first | exact absurd hb16 (by decide) | (have hp16 := hb16; (try simp only [kb] at hp16); exfalso; omega)
   case b15 =>
    first | exact absurd hb15 (by decide) | (have hp15 := hb15; (try simp only [kb] at hp15); exfalso; omega)
  case b12 =>
   first | exact absurd hb12 (by decide) | (have hp12 := hb12; (try simp only [kb] at hp12); exfalso; omega)
end Go.Proofs.Y
