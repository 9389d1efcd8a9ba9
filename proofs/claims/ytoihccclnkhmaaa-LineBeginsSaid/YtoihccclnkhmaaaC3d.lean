/-
  What is proved: lines: what the laws LineBack, LineBegins, LineSteady compute. Conditions: none.
-/
import Derived.Test.YtoihccclnkhmaaaC3c
import Derived.Test.YtoihccclnkhmaaaPA
import Derived.Test.YtoihccclnkhmaaaCA
set_option linter.unusedVariables false
set_option linter.unusedSimpArgs false
set_option maxRecDepth 4000
namespace Go.Proofs.Y
open Go.Rb
set_option maxHeartbeats 4000000 in
set_option maxRecDepth 50000 in
theorem lineBack_fun (ps : List Pt) (b : List Bool) (n : Int) (hl : b.length ≤ 140737488355200) : Fun Try.prog 11 [.c (.sl 34 (Rw Pt.cs ps)), .c (.sl 4 (Rw boC b)), .c (.int .i64 n)] nomem (.c (.bool true)) nomem := by
 refine fun_of_awp Try.func11 rfl (by decide +kernel) (by decide +kernel) (Nat.le_of_ble_eq_true rfl) (fun _ _ => rfl) (fun _ _ => rfl) ?_
 refine seq_reg 1 fun L1 hL1 => ?_
 simp only [qq, seval, -Nat.reducePow, reduceIte, reduceCtorEq]
 refine nil_z hL1 ?_
 have hu1 := unpackR_len b n
 refine seq_reg 1 fun L2 hL2 => ?_
 simp only [qq, seval, -Nat.reducePow, reduceIte, reduceCtorEq]
 refine aops_call_own (pack_fun _) rfl rfl rfl rfl (by (try simp only [qq, seval, -Nat.reducePow, reduceIte, reduceCtorEq]); (repeat' (first | exact .nil | exact wk_c | exact wk_ownc | exact wk_nilsc | exact wk_nils | exact wk_fn | refine .cons ?_ ?_ | refine wk_agg ?_ | refine wk_fnL ?_))) rfl rfl rfl (by simp only [qq, seval, -Nat.reducePow, reduceIte, reduceCtorEq]) ?_
 simp only [qq, seval, -Nat.reducePow, reduceIte, reduceCtorEq, AV.setOwn, AV.setOwn1]
 refine aops_orunN 5 _ _ ?_
 simp only [qq, seval, -Nat.reducePow, reduceIte, reduceCtorEq]
 refine aops_nil (hL2 _ ?_)
 simp only [qq, seval, -Nat.reducePow, reduceIte, reduceCtorEq]
 refine awp_seq_k fun K4 hK4 => ?_
 refine seq_reg0 fun L5 hL5 => ?_
 refine aops_call lined_fun rfl rfl rfl rfl (by (try simp only [qq, seval, -Nat.reducePow, reduceIte, reduceCtorEq]); (repeat' (first | exact .nil | exact wk_c | exact wk_ownc | exact wk_nilsc | exact wk_nils | exact wk_fn | refine .cons ?_ ?_ | refine wk_agg ?_ | refine wk_fnL ?_))) rfl rfl ?_
 simp only [qq, seval, -Nat.reducePow, reduceIte, reduceCtorEq]
 refine aops_orunN 1 _ _ ?_
 simp only [qq, seval, -Nat.reducePow, reduceIte, reduceCtorEq]
 refine nil_z hL5 ?_
 as_aux_lemma =>
  refine awp_cond (t := ?t7) ?h7 (fun hb7 => ?a7) (fun hb7 => ?b7)
  case h7 => simp only [qq, seval, -Nat.reducePow, reduceIte, reduceCtorEq]; rfl
  case a7 =>
   first | exact absurd hb7 (by decide) | (have hp7 := hb7; (try simp only [kb] at hp7); exfalso; omega)
  case b7 =>
   have hp7 := hb7
   try simp only [kb] at hp7
   refine awp_skip ?_
   refine hK4 _ ?_
   refine awp_seq_k fun K8 hK8 => ?_
   refine seq_reg 2 fun L9 hL9 => ?_
   simp only [qq, seval, -Nat.reducePow, reduceIte, reduceCtorEq, hb7]
   refine nil_z hL9 ?_
   refine awp_cond (t := ?t10) ?h10 (fun hb10 => ?a10) (fun hb10 => ?b10)
   case h10 => simp only [qq, seval, -Nat.reducePow, reduceIte, reduceCtorEq, hb7]; rfl
   case a10 =>
    have hp10 := hb10
    try simp only [kb] at hp10
    have hck := packR_ok (l := ps) (by omega)
    have hlb := line_back hck
    have s1 := hlb.1
    have s2 := hlb.2.1
    have hcl := checkL_len hck
    have hpl := packAt_len ps ps.length
    refine seq_reg 3 fun L11 hL11 => ?_
    simp only [qq, seval, -Nat.reducePow, reduceIte, reduceCtorEq, hb7, hb10, s1, s2]
    refine aops_call_own (unpack_fun _ _ ?s12_0) rfl rfl rfl rfl (by (try simp only [qq, seval, -Nat.reducePow, reduceIte, reduceCtorEq, hb7, hb10, s1, s2]); (repeat' (first | exact .nil | exact wk_c | exact wk_ownc | exact wk_nilsc | exact wk_nils | exact wk_fn | refine .cons ?_ ?_ | refine wk_agg ?_ | refine wk_fnL ?_))) rfl rfl rfl (by simp only [qq, seval, -Nat.reducePow, reduceIte, reduceCtorEq, hb7, hb10, s1, s2]) ?m12
    case s12_0 => first | assumption | omega | decide +kernel | (simp only [List.length_take, List.length_drop]; omega)
    simp only [qq, seval, -Nat.reducePow, reduceIte, reduceCtorEq, AV.setOwn, AV.setOwn1, hb7, hb10, s1, s2]
    refine aops_orunN 5 _ _ ?_
    simp only [qq, seval, -Nat.reducePow, reduceIte, reduceCtorEq, hb7, hb10, s1, s2]
    refine aops_nil (hL11 _ ?_)
    simp only [qq, seval, -Nat.reducePow, reduceIte, reduceCtorEq, hb7, hb10, s1, s2]
    refine awp_seq_k fun K13 hK13 => ?_
    refine seq_reg 3 fun L14 hL14 => ?_
    simp only [qq, seval, -Nat.reducePow, reduceIte, reduceCtorEq, hb7, hb10, s1, s2]
    refine aops_part (b := ?p15) 33 ?h15 (fun hb15 => ?a15) (fun hb15 => ?b15)
    case h15 => simp only [qq, seval, -Nat.reducePow, reduceIte, reduceCtorEq, hb7, hb10, s1, s2]; rfl
    case a15 =>
     first | exact absurd hb15 (by decide) | (have hp15 := hb15; (try simp only [kb] at hp15); exfalso; omega)
    case b15 =>
     have hp15 := hb15
     try simp only [kb] at hp15
     try simp only [hb15]
     refine aops_orunN 2 _ _ ?_
     simp only [qq, seval, -Nat.reducePow, reduceIte, reduceCtorEq, hb7, hb10, s1, s2, hb15]
     refine aops_call (equal_pt_fun _ _ ?s16_0) (by simp only [qq, seval, -Nat.reducePow, reduceIte, reduceCtorEq, hb7, hb10, s1, s2, hb15]) rfl rfl rfl (by (try simp only [qq, seval, -Nat.reducePow, reduceIte, reduceCtorEq, hb7, hb10, s1, s2, hb15]); (repeat' (first | exact .nil | exact wk_c | exact wk_ownc | exact wk_nilsc | exact wk_nils | exact wk_fn | refine .cons ?_ ?_ | refine wk_agg ?_ | refine wk_fnL ?_))) rfl rfl ?m16
     case s16_0 => first | assumption | omega | decide +kernel | (simp only [List.length_take, List.length_drop]; omega)
     simp only [qq, seval, -Nat.reducePow, reduceIte, reduceCtorEq, hb7, hb10, s1, s2, hb15]
     refine aops_orunN 2 _ _ ?_
     simp only [qq, seval, -Nat.reducePow, reduceIte, reduceCtorEq, hb7, hb10, s1, s2, hb15]
     refine nil_z hL14 ?_
     as_aux_lemma =>
      refine awp_cond (t := ?t17) ?h17 (fun hb17 => ?a17) (fun hb17 => ?b17)
      case h17 => simp only [qq, seval, -Nat.reducePow, reduceIte, reduceCtorEq, hb7, hb10, s1, s2, hb15]; rfl
      case a17 =>
       first | exact absurd hb17 (by decide) | (have hp17 := hb17; (try simp only [kb] at hp17); exfalso; omega)
      case b17 =>
       have hp17 := hb17
       try simp only [kb] at hp17
       refine awp_skip ?_
       refine hK13 _ ?_
       refine seq_reg 3 fun L18 hL18 => ?_
       simp only [qq, seval, -Nat.reducePow, reduceIte, reduceCtorEq, hb7, hb10, s1, s2, hb15, hb17]
       refine aops_val (v := ?v19) rfl ?h19 ?_
       case h19 => simp only [qq, seval, -Nat.reducePow, reduceIte, reduceCtorEq, hb7, hb10, s1, s2, hb15, hb17]; first | (rw [wr_id] <;> omega) | rfl
       simp only [qq, seval, -Nat.reducePow, reduceIte, reduceCtorEq, hb7, hb10, s1, s2, hb15, hb17]
       refine aops_call_own (unpack_fun _ _ ?s20_0) rfl rfl rfl rfl (by (try simp only [qq, seval, -Nat.reducePow, reduceIte, reduceCtorEq, hb7, hb10, s1, s2, hb15, hb17]); (repeat' (first | exact .nil | exact wk_c | exact wk_ownc | exact wk_nilsc | exact wk_nils | exact wk_fn | refine .cons ?_ ?_ | refine wk_agg ?_ | refine wk_fnL ?_))) rfl rfl rfl (by simp only [qq, seval, -Nat.reducePow, reduceIte, reduceCtorEq, hb7, hb10, s1, s2, hb15, hb17]) ?m20
       case s20_0 => first | assumption | omega | decide +kernel | (simp only [List.length_take, List.length_drop]; omega)
       simp only [qq, seval, -Nat.reducePow, reduceIte, reduceCtorEq, AV.setOwn, AV.setOwn1, hb7, hb10, s1, s2, hb15, hb17]
       refine aops_orunN 5 _ _ ?_
       simp only [qq, seval, -Nat.reducePow, reduceIte, reduceCtorEq, hb7, hb10, s1, s2, hb15, hb17]
       refine aops_nil (hL18 _ ?_)
       simp only [qq, seval, -Nat.reducePow, reduceIte, reduceCtorEq, hb7, hb10, s1, s2, hb15, hb17]
       refine seq_reg 4 fun L21 hL21 => ?_
       simp only [qq, seval, -Nat.reducePow, reduceIte, reduceCtorEq, hb7, hb10, s1, s2, hb15, hb17]
       refine aops_part (b := ?p22) 50 ?h22 (fun hb22 => ?a22) (fun hb22 => ?b22)
       case h22 => simp only [qq, seval, -Nat.reducePow, reduceIte, reduceCtorEq, hb7, hb10, s1, s2, hb15, hb17]; rfl
       case a22 =>
        have hp22 := hb22
        try simp only [kb] at hp22
        try simp only [hb22]
        have hl3 := hlb.2.2 (by omega)
        refine aops_orunN 3 _ _ ?_
        simp only [qq, seval, -Nat.reducePow, reduceIte, reduceCtorEq, hb7, hb10, s1, s2, hb15, hb17, hb22]
        refine nil_z hL21 ?_
        refine awp_cond (t := ?t23) ?h23 (fun hb23 => ?a23) (fun hb23 => ?b23)
        case h23 => simp only [qq, seval, -Nat.reducePow, reduceIte, reduceCtorEq, hb7, hb10, s1, s2, hb15, hb17, hb22]; rfl
        case a23 =>
         first | exact absurd hb23 (by decide) | (have hp23 := hb23; (try simp only [kb] at hp23); exfalso; omega)
        case b23 =>
         have hp23 := hb23
         try simp only [kb] at hp23
         refine awp_skip ?_
         refine hK8 _ ?_
         refine seq_reg 2 fun L24 hL24 => ?_
         simp only [qq, seval, -Nat.reducePow, reduceIte, reduceCtorEq, hb7, hb10, s1, s2, hb15, hb17, hb22, hb23]
         refine aops_call_own (unpack_fun _ _ ?s25_0) rfl rfl rfl rfl (by (try simp only [qq, seval, -Nat.reducePow, reduceIte, reduceCtorEq, hb7, hb10, s1, s2, hb15, hb17, hb22, hb23]); (repeat' (first | exact .nil | exact wk_c | exact wk_ownc | exact wk_nilsc | exact wk_nils | exact wk_fn | refine .cons ?_ ?_ | refine wk_agg ?_ | refine wk_fnL ?_))) rfl rfl rfl (by simp only [qq, seval, -Nat.reducePow, reduceIte, reduceCtorEq, hb7, hb10, s1, s2, hb15, hb17, hb22, hb23]) ?m25
         case s25_0 => first | assumption | omega | decide +kernel | (simp only [List.length_take, List.length_drop]; omega)
         simp only [qq, seval, -Nat.reducePow, reduceIte, reduceCtorEq, AV.setOwn, AV.setOwn1, hb7, hb10, s1, s2, hb15, hb17, hb22, hb23]
         refine aops_orunN 5 _ _ ?_
         simp only [qq, seval, -Nat.reducePow, reduceIte, reduceCtorEq, hb7, hb10, s1, s2, hb15, hb17, hb22, hb23]
         refine aops_nil (hL24 _ ?_)
         simp only [qq, seval, -Nat.reducePow, reduceIte, reduceCtorEq, hb7, hb10, s1, s2, hb15, hb17, hb22, hb23]
         as_aux_lemma =>
          refine awp_seq_k fun K26 hK26 => ?_
          refine seq_reg 2 fun L27 hL27 => ?_
          simp only [qq, seval, -Nat.reducePow, reduceIte, reduceCtorEq, hb7, hb10, s1, s2, hb15, hb17, hb22, hb23]
          refine nil_z hL27 ?_
          refine awp_cond (t := ?t28) ?h28 (fun hb28 => ?a28) (fun hb28 => ?b28)
          case h28 => simp only [qq, seval, -Nat.reducePow, reduceIte, reduceCtorEq, hb7, hb10, s1, s2, hb15, hb17, hb22, hb23]; rfl
          case a28 =>
           have hp28 := hb28
           try simp only [kb] at hp28
           refine seq_reg 1 fun L29 hL29 => ?_
           simp only [qq, seval, -Nat.reducePow, reduceIte, reduceCtorEq, hb7, hb10, s1, s2, hb15, hb17, hb22, hb23, hb28]
           refine nil_z hL29 ?_
           refine awp_ret ?_
           try simp only [rk_state]
           refine ⟨_, 0, by simp only [qq, seval, -Nat.reducePow, reduceIte, reduceCtorEq, resA, Try.results11, hb7, hb10, s1, s2, hb15, hb17, hb22, hb23, hb28]; rfl, ?_, nomem_a, nomem_a⟩
           simp only [packA]
           (repeat' (first | exact .nil | exact wkR_c | exact wkR_own | exact wkR_nils | refine wkR_int ?_ | refine wkR_bool ?_ | refine wkR_sl ?_ | refine wkR_osl ?_ | refine wkR_nsl ?_ | refine wkR_oo ?_ | refine wkR_no ?_ | refine .cons ?_ ?_ | refine wkR_agg ?_ | refine wkR_tup ?_)) <;> first | rfl | (apply decide_eq_true; omega) | (simp only [beq_iff_eq]; omega)
          case b28 =>
           have hp28 := hb28
           try simp only [kb] at hp28
           refine awp_skip ?_
           refine hK26 _ ?_
           have hla := line_again (b := b) (n := n) (by omega)
           have s3 := hla.1
           have s4 := hla.2.1
           refine seq_reg 1 fun L30 hL30 => ?_
           simp only [qq, seval, -Nat.reducePow, reduceIte, reduceCtorEq, hb7, hb10, s1, s2, hb15, hb17, hb22, hb23, hb28, s3, s4]
           refine aops_call_own (pack_fun _) rfl rfl rfl rfl (by (try simp only [qq, seval, -Nat.reducePow, reduceIte, reduceCtorEq, hb7, hb10, s1, s2, hb15, hb17, hb22, hb23, hb28, s3, s4]); (repeat' (first | exact .nil | exact wk_c | exact wk_ownc | exact wk_nilsc | exact wk_nils | exact wk_fn | refine .cons ?_ ?_ | refine wk_agg ?_ | refine wk_fnL ?_))) rfl rfl rfl (by simp only [qq, seval, -Nat.reducePow, reduceIte, reduceCtorEq, hb7, hb10, s1, s2, hb15, hb17, hb22, hb23, hb28, s3, s4]) ?_
           simp only [qq, seval, -Nat.reducePow, reduceIte, reduceCtorEq, AV.setOwn, AV.setOwn1, hb7, hb10, s1, s2, hb15, hb17, hb22, hb23, hb28, s3, s4]
           refine aops_orunN 5 _ _ ?_
           simp only [qq, seval, -Nat.reducePow, reduceIte, reduceCtorEq, hb7, hb10, s1, s2, hb15, hb17, hb22, hb23, hb28, s3, s4]
           refine aops_nil (hL30 _ ?_)
           simp only [qq, seval, -Nat.reducePow, reduceIte, reduceCtorEq, hb7, hb10, s1, s2, hb15, hb17, hb22, hb23, hb28, s3, s4]
           as_aux_lemma =>
            refine seq_reg 3 fun L32 hL32 => ?_
            simp only [qq, seval, -Nat.reducePow, reduceIte, reduceCtorEq, hb7, hb10, s1, s2, hb15, hb17, hb22, hb23, hb28, s3, s4]
            refine aops_part (b := ?p33) 69 ?h33 (fun hb33 => ?a33) (fun hb33 => ?b33)
            case h33 => simp only [qq, seval, -Nat.reducePow, reduceIte, reduceCtorEq, hb7, hb10, s1, s2, hb15, hb17, hb22, hb23, hb28, s3, s4]; rfl
            case a33 =>
             have hp33 := hb33
             try simp only [kb] at hp33
             try simp only [hb33]
             refine aops_orunN 2 _ _ ?_
             simp only [qq, seval, -Nat.reducePow, reduceIte, reduceCtorEq, hb7, hb10, s1, s2, hb15, hb17, hb22, hb23, hb28, s3, s4, hb33]
             refine aops_call (equal_bool_fun _ _ ?s34_0) (by simp only [qq, seval, -Nat.reducePow, reduceIte, reduceCtorEq, hb7, hb10, s1, s2, hb15, hb17, hb22, hb23, hb28, s3, s4, hb33]) rfl rfl rfl (by (try simp only [qq, seval, -Nat.reducePow, reduceIte, reduceCtorEq, hb7, hb10, s1, s2, hb15, hb17, hb22, hb23, hb28, s3, s4, hb33]); (repeat' (first | exact .nil | exact wk_c | exact wk_ownc | exact wk_nilsc | exact wk_nils | exact wk_fn | refine .cons ?_ ?_ | refine wk_agg ?_ | refine wk_fnL ?_))) rfl rfl ?m34
             case s34_0 => first | assumption | omega | decide +kernel | (simp only [List.length_take, List.length_drop]; omega)
             simp only [qq, seval, -Nat.reducePow, reduceIte, reduceCtorEq, hb7, hb10, s1, s2, hb15, hb17, hb22, hb23, hb28, s3, s4, hb33]
             refine aops_orunN 2 _ _ ?_
             simp only [qq, seval, -Nat.reducePow, reduceIte, reduceCtorEq, hb7, hb10, s1, s2, hb15, hb17, hb22, hb23, hb28, s3, s4, hb33]
             refine aops_part (b := ?p35) 74 ?h35 (fun hb35 => ?a35) (fun hb35 => ?b35)
             case h35 => simp only [qq, seval, -Nat.reducePow, reduceIte, reduceCtorEq, hb7, hb10, s1, s2, hb15, hb17, hb22, hb23, hb28, s3, s4, hb33]; rfl
             case a35 =>
              have hp35 := hb35
              try simp only [kb] at hp35
              try simp only [hb35]
              refine aops_orunN 6 _ _ ?_
              simp only [qq, seval, -Nat.reducePow, reduceIte, reduceCtorEq, hb7, hb10, s1, s2, hb15, hb17, hb22, hb23, hb28, s3, s4, hb33, hb35]
              refine nil_z hL32 ?_
              refine awp_ret ?_
              try simp only [rk_state]
              refine ⟨_, 0, by simp only [qq, seval, -Nat.reducePow, reduceIte, reduceCtorEq, resA, Try.results11, hb7, hb10, s1, s2, hb15, hb17, hb22, hb23, hb28, s3, s4, hb33, hb35]; rfl, ?_, nomem_a, nomem_a⟩
              simp only [packA]
              (repeat' (first | exact .nil | exact wkR_c | exact wkR_own | exact wkR_nils | refine wkR_int ?_ | refine wkR_bool ?_ | refine wkR_sl ?_ | refine wkR_osl ?_ | refine wkR_nsl ?_ | refine wkR_oo ?_ | refine wkR_no ?_ | refine .cons ?_ ?_ | refine wkR_agg ?_ | refine wkR_tup ?_)) <;> first | rfl | (apply decide_eq_true; omega) | (simp only [beq_iff_eq]; omega)
             case b35 =>
              first | exact absurd hb35 (by decide) | (have hp35 := hb35; (try simp only [kb] at hp35); exfalso; omega)
            case b33 =>
             first | exact absurd hb33 (by decide) | (have hp33 := hb33; (try simp only [kb] at hp33); exfalso; omega)
       case b22 =>
        have hp22 := hb22
        try simp only [kb] at hp22
        try simp only [hb22]
        refine aops_orunN 3 _ _ ?_
        simp only [qq, seval, -Nat.reducePow, reduceIte, reduceCtorEq, hb7, hb10, s1, s2, hb15, hb17, hb22]
        refine nil_z hL21 ?_
        refine awp_cond (t := false) (by simp only [qq, seval, -Nat.reducePow, reduceIte, reduceCtorEq, hb7, hb10, s1, s2, hb15, hb17, hb22]) (fun h => ?_) (fun _ => ?_)
        case refine_1 => cases h
        refine awp_skip ?_
        refine hK8 _ ?_
        refine seq_reg 2 fun L36 hL36 => ?_
        simp only [qq, seval, -Nat.reducePow, reduceIte, reduceCtorEq, hb7, hb10, s1, s2, hb15, hb17, hb22]
        refine aops_call_own (unpack_fun _ _ ?s37_0) rfl rfl rfl rfl (by (try simp only [qq, seval, -Nat.reducePow, reduceIte, reduceCtorEq, hb7, hb10, s1, s2, hb15, hb17, hb22]); (repeat' (first | exact .nil | exact wk_c | exact wk_ownc | exact wk_nilsc | exact wk_nils | exact wk_fn | refine .cons ?_ ?_ | refine wk_agg ?_ | refine wk_fnL ?_))) rfl rfl rfl (by simp only [qq, seval, -Nat.reducePow, reduceIte, reduceCtorEq, hb7, hb10, s1, s2, hb15, hb17, hb22]) ?m37
        case s37_0 => first | assumption | omega | decide +kernel | (simp only [List.length_take, List.length_drop]; omega)
        simp only [qq, seval, -Nat.reducePow, reduceIte, reduceCtorEq, AV.setOwn, AV.setOwn1, hb7, hb10, s1, s2, hb15, hb17, hb22]
        refine aops_orunN 5 _ _ ?_
        simp only [qq, seval, -Nat.reducePow, reduceIte, reduceCtorEq, hb7, hb10, s1, s2, hb15, hb17, hb22]
        refine aops_nil (hL36 _ ?_)
        simp only [qq, seval, -Nat.reducePow, reduceIte, reduceCtorEq, hb7, hb10, s1, s2, hb15, hb17, hb22]
        refine awp_seq_k fun K38 hK38 => ?_
        refine seq_reg 2 fun L39 hL39 => ?_
        simp only [qq, seval, -Nat.reducePow, reduceIte, reduceCtorEq, hb7, hb10, s1, s2, hb15, hb17, hb22]
        refine nil_z hL39 ?_
        as_aux_lemma =>
         refine awp_cond (t := ?t40) ?h40 (fun hb40 => ?a40) (fun hb40 => ?b40)
         case h40 => simp only [qq, seval, -Nat.reducePow, reduceIte, reduceCtorEq, hb7, hb10, s1, s2, hb15, hb17, hb22]; rfl
         case a40 =>
          have hp40 := hb40
          try simp only [kb] at hp40
          refine seq_reg 1 fun L41 hL41 => ?_
          simp only [qq, seval, -Nat.reducePow, reduceIte, reduceCtorEq, hb7, hb10, s1, s2, hb15, hb17, hb22, hb40]
          refine nil_z hL41 ?_
          refine awp_ret ?_
          try simp only [rk_state]
          refine ⟨_, 0, by simp only [qq, seval, -Nat.reducePow, reduceIte, reduceCtorEq, resA, Try.results11, hb7, hb10, s1, s2, hb15, hb17, hb22, hb40]; rfl, ?_, nomem_a, nomem_a⟩
          simp only [packA]
          (repeat' (first | exact .nil | exact wkR_c | exact wkR_own | exact wkR_nils | refine wkR_int ?_ | refine wkR_bool ?_ | refine wkR_sl ?_ | refine wkR_osl ?_ | refine wkR_nsl ?_ | refine wkR_oo ?_ | refine wkR_no ?_ | refine .cons ?_ ?_ | refine wkR_agg ?_ | refine wkR_tup ?_)) <;> first | rfl | (apply decide_eq_true; omega) | (simp only [beq_iff_eq]; omega)
         case b40 =>
          have hp40 := hb40
          try simp only [kb] at hp40
          refine awp_skip ?_
          refine hK38 _ ?_
          have hla := line_again (b := b) (n := n) (by omega)
          have s3 := hla.1
          have s4 := hla.2.1
          refine seq_reg 1 fun L42 hL42 => ?_
          simp only [qq, seval, -Nat.reducePow, reduceIte, reduceCtorEq, hb7, hb10, s1, s2, hb15, hb17, hb22, hb40, s3, s4]
          refine aops_call_own (pack_fun _) rfl rfl rfl rfl (by (try simp only [qq, seval, -Nat.reducePow, reduceIte, reduceCtorEq, hb7, hb10, s1, s2, hb15, hb17, hb22, hb40, s3, s4]); (repeat' (first | exact .nil | exact wk_c | exact wk_ownc | exact wk_nilsc | exact wk_nils | exact wk_fn | refine .cons ?_ ?_ | refine wk_agg ?_ | refine wk_fnL ?_))) rfl rfl rfl (by simp only [qq, seval, -Nat.reducePow, reduceIte, reduceCtorEq, hb7, hb10, s1, s2, hb15, hb17, hb22, hb40, s3, s4]) ?_
          simp only [qq, seval, -Nat.reducePow, reduceIte, reduceCtorEq, AV.setOwn, AV.setOwn1, hb7, hb10, s1, s2, hb15, hb17, hb22, hb40, s3, s4]
          refine aops_orunN 5 _ _ ?_
          simp only [qq, seval, -Nat.reducePow, reduceIte, reduceCtorEq, hb7, hb10, s1, s2, hb15, hb17, hb22, hb40, s3, s4]
          refine aops_nil (hL42 _ ?_)
          simp only [qq, seval, -Nat.reducePow, reduceIte, reduceCtorEq, hb7, hb10, s1, s2, hb15, hb17, hb22, hb40, s3, s4]
          refine seq_reg 3 fun L44 hL44 => ?_
          simp only [qq, seval, -Nat.reducePow, reduceIte, reduceCtorEq, hb7, hb10, s1, s2, hb15, hb17, hb22, hb40, s3, s4]
          refine aops_part (b := ?p45) 69 ?h45 (fun hb45 => ?a45) (fun hb45 => ?b45)
          case h45 => simp only [qq, seval, -Nat.reducePow, reduceIte, reduceCtorEq, hb7, hb10, s1, s2, hb15, hb17, hb22, hb40, s3, s4]; rfl
          case a45 =>
           have hp45 := hb45
           try simp only [kb] at hp45
           try simp only [hb45]
           refine aops_orunN 2 _ _ ?_
           simp only [qq, seval, -Nat.reducePow, reduceIte, reduceCtorEq, hb7, hb10, s1, s2, hb15, hb17, hb22, hb40, s3, s4, hb45]
           refine aops_call (equal_bool_fun _ _ ?s46_0) (by simp only [qq, seval, -Nat.reducePow, reduceIte, reduceCtorEq, hb7, hb10, s1, s2, hb15, hb17, hb22, hb40, s3, s4, hb45]) rfl rfl rfl (by (try simp only [qq, seval, -Nat.reducePow, reduceIte, reduceCtorEq, hb7, hb10, s1, s2, hb15, hb17, hb22, hb40, s3, s4, hb45]); (repeat' (first | exact .nil | exact wk_c | exact wk_ownc | exact wk_nilsc | exact wk_nils | exact wk_fn | refine .cons ?_ ?_ | refine wk_agg ?_ | refine wk_fnL ?_))) rfl rfl ?m46
           case s46_0 => first | assumption | omega | decide +kernel | (simp only [List.length_take, List.length_drop]; omega)
           simp only [qq, seval, -Nat.reducePow, reduceIte, reduceCtorEq, hb7, hb10, s1, s2, hb15, hb17, hb22, hb40, s3, s4, hb45]
           refine aops_orunN 2 _ _ ?_
           simp only [qq, seval, -Nat.reducePow, reduceIte, reduceCtorEq, hb7, hb10, s1, s2, hb15, hb17, hb22, hb40, s3, s4, hb45]
           refine aops_part (b := ?p47) 74 ?h47 (fun hb47 => ?a47) (fun hb47 => ?b47)
           case h47 => simp only [qq, seval, -Nat.reducePow, reduceIte, reduceCtorEq, hb7, hb10, s1, s2, hb15, hb17, hb22, hb40, s3, s4, hb45]; rfl
           case a47 =>
            have hp47 := hb47
            try simp only [kb] at hp47
            try simp only [hb47]
            refine aops_orunN 6 _ _ ?_
            simp only [qq, seval, -Nat.reducePow, reduceIte, reduceCtorEq, hb7, hb10, s1, s2, hb15, hb17, hb22, hb40, s3, s4, hb45, hb47]
            refine nil_z hL44 ?_
            as_aux_lemma =>
             refine awp_ret ?_
             try simp only [rk_state]
             refine ⟨_, 0, by simp only [qq, seval, -Nat.reducePow, reduceIte, reduceCtorEq, resA, Try.results11, hb7, hb10, s1, s2, hb15, hb17, hb22, hb40, s3, s4, hb45, hb47]; rfl, ?_, nomem_a, nomem_a⟩
             simp only [packA]
             (repeat' (first | exact .nil | exact wkR_c | exact wkR_own | exact wkR_nils | refine wkR_int ?_ | refine wkR_bool ?_ | refine wkR_sl ?_ | refine wkR_osl ?_ | refine wkR_nsl ?_ | refine wkR_oo ?_ | refine wkR_no ?_ | refine .cons ?_ ?_ | refine wkR_agg ?_ | refine wkR_tup ?_)) <;> first | rfl | (apply decide_eq_true; omega) | (simp only [beq_iff_eq]; omega)
           case b47 =>
            first | exact absurd hb47 (by decide) | (have hp47 := hb47; (try simp only [kb] at hp47); exfalso; omega)
          case b45 =>
           first | exact absurd hb45 (by decide) | (have hp45 := hb45; (try simp only [kb] at hp45); exfalso; omega)
   case b10 =>
    have hp10 := hb10
    try simp only [kb] at hp10
    refine awp_skip ?_
    refine hK8 _ ?_
    refine seq_reg 2 fun L48 hL48 => ?_
    simp only [qq, seval, -Nat.reducePow, reduceIte, reduceCtorEq, hb7, hb10]
    refine aops_call_own (unpack_fun _ _ ?s49_0) rfl rfl rfl rfl (by (try simp only [qq, seval, -Nat.reducePow, reduceIte, reduceCtorEq, hb7, hb10]); (repeat' (first | exact .nil | exact wk_c | exact wk_ownc | exact wk_nilsc | exact wk_nils | exact wk_fn | refine .cons ?_ ?_ | refine wk_agg ?_ | refine wk_fnL ?_))) rfl rfl rfl (by simp only [qq, seval, -Nat.reducePow, reduceIte, reduceCtorEq, hb7, hb10]) ?m49
    case s49_0 => first | assumption | omega | decide +kernel | (simp only [List.length_take, List.length_drop]; omega)
    simp only [qq, seval, -Nat.reducePow, reduceIte, reduceCtorEq, AV.setOwn, AV.setOwn1, hb7, hb10]
    refine aops_orunN 5 _ _ ?_
    simp only [qq, seval, -Nat.reducePow, reduceIte, reduceCtorEq, hb7, hb10]
    refine aops_nil (hL48 _ ?_)
    simp only [qq, seval, -Nat.reducePow, reduceIte, reduceCtorEq, hb7, hb10]
    refine awp_seq_k fun K50 hK50 => ?_
    refine seq_reg 2 fun L51 hL51 => ?_
    simp only [qq, seval, -Nat.reducePow, reduceIte, reduceCtorEq, hb7, hb10]
    refine nil_z hL51 ?_
    refine awp_cond (t := ?t52) ?h52 (fun hb52 => ?a52) (fun hb52 => ?b52)
    case h52 => simp only [qq, seval, -Nat.reducePow, reduceIte, reduceCtorEq, hb7, hb10]; rfl
    case a52 =>
     have hp52 := hb52
     try simp only [kb] at hp52
     refine seq_reg 1 fun L53 hL53 => ?_
     simp only [qq, seval, -Nat.reducePow, reduceIte, reduceCtorEq, hb7, hb10, hb52]
     refine nil_z hL53 ?_
     as_aux_lemma =>
      refine awp_ret ?_
      try simp only [rk_state]
      refine ⟨_, 0, by simp only [qq, seval, -Nat.reducePow, reduceIte, reduceCtorEq, resA, Try.results11, hb7, hb10, hb52]; rfl, ?_, nomem_a, nomem_a⟩
      simp only [packA]
      (repeat' (first | exact .nil | exact wkR_c | exact wkR_own | exact wkR_nils | refine wkR_int ?_ | refine wkR_bool ?_ | refine wkR_sl ?_ | refine wkR_osl ?_ | refine wkR_nsl ?_ | refine wkR_oo ?_ | refine wkR_no ?_ | refine .cons ?_ ?_ | refine wkR_agg ?_ | refine wkR_tup ?_)) <;> first | rfl | (apply decide_eq_true; omega) | (simp only [beq_iff_eq]; omega)
    case b52 =>
     have hp52 := hb52
     try simp only [kb] at hp52
     refine awp_skip ?_
     refine hK50 _ ?_
     have hla := line_again (b := b) (n := n) (by omega)
     have s3 := hla.1
     have s4 := hla.2.1
     refine seq_reg 1 fun L54 hL54 => ?_
     simp only [qq, seval, -Nat.reducePow, reduceIte, reduceCtorEq, hb7, hb10, hb52, s3, s4]
     refine aops_call_own (pack_fun _) rfl rfl rfl rfl (by (try simp only [qq, seval, -Nat.reducePow, reduceIte, reduceCtorEq, hb7, hb10, hb52, s3, s4]); (repeat' (first | exact .nil | exact wk_c | exact wk_ownc | exact wk_nilsc | exact wk_nils | exact wk_fn | refine .cons ?_ ?_ | refine wk_agg ?_ | refine wk_fnL ?_))) rfl rfl rfl (by simp only [qq, seval, -Nat.reducePow, reduceIte, reduceCtorEq, hb7, hb10, hb52, s3, s4]) ?_
     simp only [qq, seval, -Nat.reducePow, reduceIte, reduceCtorEq, AV.setOwn, AV.setOwn1, hb7, hb10, hb52, s3, s4]
     refine aops_orunN 5 _ _ ?_
     simp only [qq, seval, -Nat.reducePow, reduceIte, reduceCtorEq, hb7, hb10, hb52, s3, s4]
     refine aops_nil (hL54 _ ?_)
     simp only [qq, seval, -Nat.reducePow, reduceIte, reduceCtorEq, hb7, hb10, hb52, s3, s4]
     refine seq_reg 3 fun L56 hL56 => ?_
     simp only [qq, seval, -Nat.reducePow, reduceIte, reduceCtorEq, hb7, hb10, hb52, s3, s4]
     refine aops_part (b := ?p57) 69 ?h57 (fun hb57 => ?a57) (fun hb57 => ?b57)
     case h57 => simp only [qq, seval, -Nat.reducePow, reduceIte, reduceCtorEq, hb7, hb10, hb52, s3, s4]; rfl
     case a57 =>
      have hp57 := hb57
      try simp only [kb] at hp57
      try simp only [hb57]
      refine aops_orunN 2 _ _ ?_
      simp only [qq, seval, -Nat.reducePow, reduceIte, reduceCtorEq, hb7, hb10, hb52, s3, s4, hb57]
      refine aops_call (equal_bool_fun _ _ ?s58_0) (by simp only [qq, seval, -Nat.reducePow, reduceIte, reduceCtorEq, hb7, hb10, hb52, s3, s4, hb57]) rfl rfl rfl (by (try simp only [qq, seval, -Nat.reducePow, reduceIte, reduceCtorEq, hb7, hb10, hb52, s3, s4, hb57]); (repeat' (first | exact .nil | exact wk_c | exact wk_ownc | exact wk_nilsc | exact wk_nils | exact wk_fn | refine .cons ?_ ?_ | refine wk_agg ?_ | refine wk_fnL ?_))) rfl rfl ?m58
      case s58_0 => first | assumption | omega | decide +kernel | (simp only [List.length_take, List.length_drop]; omega)
      simp only [qq, seval, -Nat.reducePow, reduceIte, reduceCtorEq, hb7, hb10, hb52, s3, s4, hb57]
      refine aops_orunN 2 _ _ ?_
      simp only [qq, seval, -Nat.reducePow, reduceIte, reduceCtorEq, hb7, hb10, hb52, s3, s4, hb57]
      refine aops_part (b := ?p59) 74 ?h59 (fun hb59 => ?a59) (fun hb59 => ?b59)
      case h59 => simp only [qq, seval, -Nat.reducePow, reduceIte, reduceCtorEq, hb7, hb10, hb52, s3, s4, hb57]; rfl
      case a59 =>
       have hp59 := hb59
       try simp only [kb] at hp59
       try simp only [hb59]
       refine aops_orunN 6 _ _ ?_
       simp only [qq, seval, -Nat.reducePow, reduceIte, reduceCtorEq, hb7, hb10, hb52, s3, s4, hb57, hb59]
       refine nil_z hL56 ?_
       refine awp_ret ?_
       try simp only [rk_state]
       refine ⟨_, 0, by simp only [qq, seval, -Nat.reducePow, reduceIte, reduceCtorEq, resA, Try.results11, hb7, hb10, hb52, s3, s4, hb57, hb59]; rfl, ?_, nomem_a, nomem_a⟩
       simp only [packA]
       (repeat' (first | exact .nil | exact wkR_c | exact wkR_own | exact wkR_nils | refine wkR_int ?_ | refine wkR_bool ?_ | refine wkR_sl ?_ | refine wkR_osl ?_ | refine wkR_nsl ?_ | refine wkR_oo ?_ | refine wkR_no ?_ | refine .cons ?_ ?_ | refine wkR_agg ?_ | refine wkR_tup ?_)) <;> first | rfl | (apply decide_eq_true; omega) | (simp only [beq_iff_eq]; omega)
      case b59 =>
       first | exact absurd hb59 (by decide) | (have hp59 := hb59; (try simp only [kb] at hp59); exfalso; omega)
     case b57 =>
      first | exact absurd hb57 (by decide) | (have hp57 := hb57; (try simp only [kb] at hp57); exfalso; omega)
set_option maxHeartbeats 4000000 in
set_option maxRecDepth 50000 in
theorem lineBegins_fun (ps : List Pt) (k : Int) (hn : ps.length < 4611686018427387904) : Fun Try.prog 13 [.c (.sl 34 (Rw Pt.cs ps)), .c (.int .i64 k)] nomem (.c (.bool true)) nomem := by
 refine fun_of_awp Try.func13 rfl (by decide +kernel) (by decide +kernel) (Nat.le_of_ble_eq_true rfl) (fun _ _ => rfl) (fun _ _ => rfl) ?_
 refine seq_reg 1 fun L1 hL1 => ?_
 simp only [qq, seval, -Nat.reducePow, reduceIte, reduceCtorEq]
 refine nil_z hL1 ?_
 refine seq_reg 1 fun L2 hL2 => ?_
 simp only [qq, seval, -Nat.reducePow, reduceIte, reduceCtorEq]
 refine aops_call_own (pack_fun _) rfl rfl rfl rfl (by (try simp only [qq, seval, -Nat.reducePow, reduceIte, reduceCtorEq]); (repeat' (first | exact .nil | exact wk_c | exact wk_ownc | exact wk_nilsc | exact wk_nils | exact wk_fn | refine .cons ?_ ?_ | refine wk_agg ?_ | refine wk_fnL ?_))) rfl rfl rfl (by simp only [qq, seval, -Nat.reducePow, reduceIte, reduceCtorEq]) ?_
 simp only [qq, seval, -Nat.reducePow, reduceIte, reduceCtorEq, AV.setOwn, AV.setOwn1]
 refine aops_orunN 5 _ _ ?_
 simp only [qq, seval, -Nat.reducePow, reduceIte, reduceCtorEq]
 refine aops_nil (hL2 _ ?_)
 simp only [qq, seval, -Nat.reducePow, reduceIte, reduceCtorEq]
 refine awp_seq_k fun K4 hK4 => ?_
 refine seq_reg0 fun L5 hL5 => ?_
 refine aops_call lined_fun rfl rfl rfl rfl (by (try simp only [qq, seval, -Nat.reducePow, reduceIte, reduceCtorEq]); (repeat' (first | exact .nil | exact wk_c | exact wk_ownc | exact wk_nilsc | exact wk_nils | exact wk_fn | refine .cons ?_ ?_ | refine wk_agg ?_ | refine wk_fnL ?_))) rfl rfl ?_
 simp only [qq, seval, -Nat.reducePow, reduceIte, reduceCtorEq]
 refine aops_orunN 2 _ _ ?_
 simp only [qq, seval, -Nat.reducePow, reduceIte, reduceCtorEq]
 refine aops_part (b := ?p7) 16 ?h7 (fun hb7 => ?a7) (fun hb7 => ?b7)
 case h7 => simp only [qq, seval, -Nat.reducePow, reduceIte, reduceCtorEq]; rfl
 case a7 =>
  first | exact absurd hb7 (by decide) | (have hp7 := hb7; (try simp only [kb] at hp7); exfalso; omega)
 case b7 =>
  have hp7 := hb7
  try simp only [kb] at hp7
  try simp only [hb7]
  refine aops_orunN 3 _ _ ?_
  simp only [qq, seval, -Nat.reducePow, reduceIte, reduceCtorEq, hb7]
  refine nil_z hL5 ?_
  as_aux_lemma =>
   refine awp_cond (t := ?t8) ?h8 (fun hb8 => ?a8) (fun hb8 => ?b8)
   case h8 => simp only [qq, seval, -Nat.reducePow, reduceIte, reduceCtorEq, hb7]; rfl
   case a8 =>
    have hp8 := hb8
    try simp only [kb] at hp8
    refine seq_reg0 fun L9 hL9 => ?_
    refine aops_call lined_fun rfl rfl rfl rfl (by (try simp only [qq, seval, -Nat.reducePow, reduceIte, reduceCtorEq, hb7, hb8]); (repeat' (first | exact .nil | exact wk_c | exact wk_ownc | exact wk_nilsc | exact wk_nils | exact wk_fn | refine .cons ?_ ?_ | refine wk_agg ?_ | refine wk_fnL ?_))) rfl rfl ?_
    simp only [qq, seval, -Nat.reducePow, reduceIte, reduceCtorEq, hb7, hb8]
    refine aops_orunN 1 _ _ ?_
    simp only [qq, seval, -Nat.reducePow, reduceIte, reduceCtorEq, hb7, hb8]
    refine nil_z hL9 ?_
    refine awp_ret ?_
    try simp only [rk_state]
    refine ⟨_, 0, by simp only [qq, seval, -Nat.reducePow, reduceIte, reduceCtorEq, resA, Try.results13, hb7, hb8]; rfl, ?_, nomem_a, nomem_a⟩
    simp only [packA]
    (repeat' (first | exact .nil | exact wkR_c | exact wkR_own | exact wkR_nils | refine wkR_int ?_ | refine wkR_bool ?_ | refine wkR_sl ?_ | refine wkR_osl ?_ | refine wkR_nsl ?_ | refine wkR_oo ?_ | refine wkR_no ?_ | refine .cons ?_ ?_ | refine wkR_agg ?_ | refine wkR_tup ?_)) <;> first | rfl | (apply decide_eq_true; omega) | (simp only [beq_iff_eq]; omega)
   case b8 =>
    have hp8 := hb8
    try simp only [kb] at hp8
    refine awp_skip ?_
    refine hK4 _ ?_
    have hck := packR_ok (l := ps) (by omega)
    have s1 := (line_back hck).1
    have hcl := checkL_len hck
    have hk0 := Int.emod_nonneg k (show (ps.length : Int) + 1 ≠ 0 by omega)
    have hk1 := Int.emod_lt_of_pos k (show (0 : Int) < (ps.length : Int) + 1 by omega)
    refine seq_reg 3 fun L11 hL11 => ?_
    simp only [qq, seval, -Nat.reducePow, reduceIte, reduceCtorEq, hb7, hb8, s1]
    refine aops_val (v := ?v12) rfl ?h12 ?_
    case h12 => simp only [qq, seval, -Nat.reducePow, reduceIte, reduceCtorEq, hb7, hb8, s1]; first | (rw [wr_id] <;> omega) | rfl
    simp only [qq, seval, -Nat.reducePow, reduceIte, reduceCtorEq, hb7, hb8, s1]
    refine aops_call (at_fun _ _ ?s13_0 ?s13_1) rfl rfl rfl rfl (by (try simp only [qq, seval, -Nat.reducePow, reduceIte, reduceCtorEq, hb7, hb8, s1]); (repeat' (first | exact .nil | exact wk_c | exact wk_ownc | exact wk_nilsc | exact wk_nils | exact wk_fn | refine .cons ?_ ?_ | refine wk_agg ?_ | refine wk_fnL ?_))) rfl rfl ?m13
    case s13_0 => omega
    case s13_1 => omega
    simp only [qq, seval, -Nat.reducePow, reduceIte, reduceCtorEq, hb7, hb8, s1]
    refine aops_orunN 1 _ _ ?_
    simp only [qq, seval, -Nat.reducePow, reduceIte, reduceCtorEq, hb7, hb8, s1]
    refine nil_z hL11 ?_
    have hlb := line_begins hck (k := (k % (↑ps.length + 1)).toNat) (by omega)
    have s2 := hlb.1
    have s3 := hlb.2.1
    have hpl := packAt_len ps ps.length
    have hpk := packAt_len ps ((k % (↑ps.length + 1)).toNat)
    refine seq_reg 2 fun L14 hL14 => ?_
    simp only [qq, seval, -Nat.reducePow, reduceIte, reduceCtorEq, hb7, hb8, s1, s2, s3]
    refine aops_val (v := ?v15) rfl ?h15 ?_
    case h15 => simp only [qq, seval, -Nat.reducePow, reduceIte, reduceCtorEq, hb7, hb8, s1, s2, s3]; first | (rw [slc_h un22 if34] <;> omega) | (rw [slc_ho un22 if34] <;> omega)
    simp only [qq, seval, -Nat.reducePow, reduceIte, reduceCtorEq, hb7, hb8, s1, s2, s3]
    refine aops_call_own (pack_fun _) rfl rfl rfl rfl (by (try simp only [qq, seval, -Nat.reducePow, reduceIte, reduceCtorEq, hb7, hb8, s1, s2, s3]); (repeat' (first | exact .nil | exact wk_c | exact wk_ownc | exact wk_nilsc | exact wk_nils | exact wk_fn | refine .cons ?_ ?_ | refine wk_agg ?_ | refine wk_fnL ?_))) rfl rfl rfl (by simp only [qq, seval, -Nat.reducePow, reduceIte, reduceCtorEq, hb7, hb8, s1, s2, s3]) ?_
    simp only [qq, seval, -Nat.reducePow, reduceIte, reduceCtorEq, AV.setOwn, AV.setOwn1, hb7, hb8, s1, s2, s3]
    refine aops_orunN 5 _ _ ?_
    simp only [qq, seval, -Nat.reducePow, reduceIte, reduceCtorEq, hb7, hb8, s1, s2, s3]
    refine aops_nil (hL14 _ ?_)
    simp only [qq, seval, -Nat.reducePow, reduceIte, reduceCtorEq, hb7, hb8, s1, s2, s3]
    as_aux_lemma =>
     refine seq_reg 3 fun L17 hL17 => ?_
     simp only [qq, seval, -Nat.reducePow, reduceIte, reduceCtorEq, hb7, hb8, s1, s2, s3]
     refine aops_val (v := ?v18) rfl ?h18 ?_
     case h18 => simp only [qq, seval, -Nat.reducePow, reduceIte, reduceCtorEq, hb7, hb8, s1, s2, s3]; first | (rw [wr_id] <;> omega) | rfl
     simp only [qq, seval, -Nat.reducePow, reduceIte, reduceCtorEq, hb7, hb8, s1, s2, s3]
     refine aops_orunN 1 _ _ ?_
     simp only [qq, seval, -Nat.reducePow, reduceIte, reduceCtorEq, hb7, hb8, s1, s2, s3]
     refine nil_z hL17 ?_
     refine seq_reg 3 fun L19 hL19 => ?_
     simp only [qq, seval, -Nat.reducePow, reduceIte, reduceCtorEq, hb7, hb8, s1, s2, s3]
     refine aops_part (b := ?p20) 39 ?h20 (fun hb20 => ?a20) (fun hb20 => ?b20)
     case h20 => simp only [qq, seval, -Nat.reducePow, reduceIte, reduceCtorEq, hb7, hb8, s1, s2, s3]; rfl
     case a20 =>
      have hp20 := hb20
      try simp only [kb] at hp20
      try simp only [hb20]
      refine aops_orunN 7 _ _ ?_
      simp only [qq, seval, -Nat.reducePow, reduceIte, reduceCtorEq, hb7, hb8, s1, s2, s3, hb20]
      refine aops_part (b := ?p21) 46 ?h21 (fun hb21 => ?a21) (fun hb21 => ?b21)
      case h21 => simp only [qq, seval, -Nat.reducePow, reduceIte, reduceCtorEq, hb7, hb8, s1, s2, s3, hb20]; rfl
      case a21 =>
       have hp21 := hb21
       try simp only [kb] at hp21
       try simp only [hb21]
       refine aops_orunN 3 _ _ ?_
       simp only [qq, seval, -Nat.reducePow, reduceIte, reduceCtorEq, hb7, hb8, s1, s2, s3, hb20, hb21]
       refine aops_val (v := ?v22) (by simp only [qq, seval, -Nat.reducePow, reduceIte, reduceCtorEq, hb7, hb8, s1, s2, s3, hb20, hb21]) ?h22 ?_
       case h22 => simp only [qq, seval, -Nat.reducePow, reduceIte, reduceCtorEq, hb7, hb8, s1, s2, s3, hb20, hb21]; first | (rw [slc_h un36 if4] <;> omega) | (rw [slc_ho un36 if4] <;> omega)
       simp only [qq, seval, -Nat.reducePow, reduceIte, reduceCtorEq, hb7, hb8, s1, s2, s3, hb20, hb21]
       refine aops_orunN 1 _ _ ?_
       simp only [qq, seval, -Nat.reducePow, reduceIte, reduceCtorEq, hb7, hb8, s1, s2, s3, hb20, hb21]
       refine aops_call (equal_bool_fun _ _ ?s23_0) (by simp only [qq, seval, -Nat.reducePow, reduceIte, reduceCtorEq, hb7, hb8, s1, s2, s3, hb20, hb21]) rfl rfl rfl (by (try simp only [qq, seval, -Nat.reducePow, reduceIte, reduceCtorEq, hb7, hb8, s1, s2, s3, hb20, hb21]); (repeat' (first | exact .nil | exact wk_c | exact wk_ownc | exact wk_nilsc | exact wk_nils | exact wk_fn | refine .cons ?_ ?_ | refine wk_agg ?_ | refine wk_fnL ?_))) rfl rfl ?m23
       case s23_0 => first | assumption | omega | decide +kernel | (simp only [List.length_take, List.length_drop]; omega)
       simp only [qq, seval, -Nat.reducePow, reduceIte, reduceCtorEq, hb7, hb8, s1, s2, s3, hb20, hb21]
       refine aops_orunN 2 _ _ ?_
       simp only [qq, seval, -Nat.reducePow, reduceIte, reduceCtorEq, hb7, hb8, s1, s2, s3, hb20, hb21]
       refine aops_part (b := ?p24) 54 ?h24 (fun hb24 => ?a24) (fun hb24 => ?b24)
       case h24 => simp only [qq, seval, -Nat.reducePow, reduceIte, reduceCtorEq, hb7, hb8, s1, s2, s3, hb20, hb21]; rfl
       case a24 =>
        have hp24 := hb24
        try simp only [kb] at hp24
        try simp only [hb24]
        refine aops_orunN 5 _ _ ?_
        simp only [qq, seval, -Nat.reducePow, reduceIte, reduceCtorEq, hb7, hb8, s1, s2, s3, hb20, hb21, hb24]
        refine aops_val (v := ?v25) (by simp only [qq, seval, -Nat.reducePow, reduceIte, reduceCtorEq, hb7, hb8, s1, s2, s3, hb20, hb21, hb24]) ?h25 ?_
        case h25 => simp only [qq, seval, -Nat.reducePow, reduceIte, reduceCtorEq, hb7, hb8, s1, s2, s3, hb20, hb21, hb24]; first | (rw [wr_id] <;> omega) | rfl
        simp only [qq, seval, -Nat.reducePow, reduceIte, reduceCtorEq, hb7, hb8, s1, s2, s3, hb20, hb21, hb24]
        refine aops_val (v := ?v26) (by simp only [qq, seval, -Nat.reducePow, reduceIte, reduceCtorEq, hb7, hb8, s1, s2, s3, hb20, hb21, hb24]) ?h26 ?_
        case h26 => simp only [qq, seval, -Nat.reducePow, reduceIte, reduceCtorEq, hb7, hb8, s1, s2, s3, hb20, hb21, hb24]; first | (rw [wr_id] <;> omega) | rfl
        simp only [qq, seval, -Nat.reducePow, reduceIte, reduceCtorEq, hb7, hb8, s1, s2, s3, hb20, hb21, hb24]
        refine aops_orunN 3 _ _ ?_
        simp only [qq, seval, -Nat.reducePow, reduceIte, reduceCtorEq, hb7, hb8, s1, s2, s3, hb20, hb21, hb24]
        refine aops_part (b := ?p27) 64 ?h27 (fun hb27 => ?a27) (fun hb27 => ?b27)
        case h27 => simp only [qq, seval, -Nat.reducePow, reduceIte, reduceCtorEq, hb7, hb8, s1, s2, s3, hb20, hb21, hb24]; rfl
        case a27 =>
         have hp27 := hb27
         try simp only [kb] at hp27
         try simp only [hb27]
         refine aops_orunN 5 _ _ ?_
         simp only [qq, seval, -Nat.reducePow, reduceIte, reduceCtorEq, hb7, hb8, s1, s2, s3, hb20, hb21, hb24, hb27]
         refine aops_val (v := ?v28) (by simp only [qq, seval, -Nat.reducePow, reduceIte, reduceCtorEq, hb7, hb8, s1, s2, s3, hb20, hb21, hb24, hb27]) ?h28 ?_
         case h28 => simp only [qq, seval, -Nat.reducePow, reduceIte, reduceCtorEq, hb7, hb8, s1, s2, s3, hb20, hb21, hb24, hb27]; first | (rw [wr_id] <;> omega) | rfl
         simp only [qq, seval, -Nat.reducePow, reduceIte, reduceCtorEq, hb7, hb8, s1, s2, s3, hb20, hb21, hb24, hb27]
         refine aops_val (v := ?v29) (by simp only [qq, seval, -Nat.reducePow, reduceIte, reduceCtorEq, hb7, hb8, s1, s2, s3, hb20, hb21, hb24, hb27]) ?h29 ?_
         case h29 => simp only [qq, seval, -Nat.reducePow, reduceIte, reduceCtorEq, hb7, hb8, s1, s2, s3, hb20, hb21, hb24, hb27]; first | (rw [wr_id] <;> omega) | rfl
         simp only [qq, seval, -Nat.reducePow, reduceIte, reduceCtorEq, hb7, hb8, s1, s2, s3, hb20, hb21, hb24, hb27]
         refine aops_orunN 3 _ _ ?_
         simp only [qq, seval, -Nat.reducePow, reduceIte, reduceCtorEq, hb7, hb8, s1, s2, s3, hb20, hb21, hb24, hb27]
         refine nil_z hL19 ?_
         refine awp_ret ?_
         try simp only [rk_state]
         refine ⟨_, 0, by simp only [qq, seval, -Nat.reducePow, reduceIte, reduceCtorEq, resA, Try.results13, hb7, hb8, s1, s2, s3, hb20, hb21, hb24, hb27]; rfl, ?_, nomem_a, nomem_a⟩
         simp only [packA]
         (repeat' (first | exact .nil | exact wkR_c | exact wkR_own | exact wkR_nils | refine wkR_int ?_ | refine wkR_bool ?_ | refine wkR_sl ?_ | refine wkR_osl ?_ | refine wkR_nsl ?_ | refine wkR_oo ?_ | refine wkR_no ?_ | refine .cons ?_ ?_ | refine wkR_agg ?_ | refine wkR_tup ?_)) <;> first | rfl | (apply decide_eq_true; omega) | (simp only [beq_iff_eq]; omega)
        case b27 =>
         first | exact absurd hb27 (by decide) | (have hp27 := hb27; (try simp only [kb] at hp27); exfalso; omega)
       case b24 =>
        first | exact absurd hb24 (by decide) | (have hp24 := hb24; (try simp only [kb] at hp24); exfalso; omega)
      case b21 =>
       first | exact absurd hb21 (by decide) | (have hp21 := hb21; (try simp only [kb] at hp21); exfalso; omega)
     case b20 =>
      first | exact absurd hb20 (by decide) | (have hp20 := hb20; (try simp only [kb] at hp20); exfalso; omega)
set_option maxHeartbeats 4000000 in
set_option maxRecDepth 50000 in
theorem lineSteady_fun (a b c d : Int) : Fun Try.prog 12 [.c (.int .i64 a), .c (.int .i64 b), .c (.int .i64 c), .c (.int .i64 d)] nomem (.c (.bool true)) nomem := by
 obtain ⟨S, sS⟩ : ∃ S, 1 + b % 1000 = S := ⟨_, rfl⟩
 have hS : 1 ≤ S ∧ S ≤ 1000 := by omega
 obtain ⟨A, sA⟩ : ∃ A, a % (100000 - S * 40) = A := ⟨_, rfl⟩
 have hA1 := Int.emod_nonneg a (show 100000 - S * 40 ≠ 0 by omega)
 have hA2 := Int.emod_lt_of_pos a (show 0 < 100000 - S * 40 by omega)
 rw [sA] at hA1 hA2
 obtain ⟨V, sV⟩ : ∃ V, c % 1000000 = V := ⟨_, rfl⟩
 have hV : 0 ≤ V ∧ V < 1000000 := by omega
 obtain ⟨M, sM⟩ : ∃ M : Nat, d % 39 = (M : Int) := ⟨(d % 39).toNat, by omega⟩
 have hM : M ≤ 38 := by omega
 refine fun_of_awp Try.func12 rfl (by decide +kernel) (by decide +kernel) (Nat.le_of_ble_eq_true rfl) (fun _ _ => rfl) (fun _ _ => rfl) ?_
 refine seq_reg 1 fun L1 hL1 => ?_
 simp only [qq, seval, -Nat.reducePow, reduceIte, reduceCtorEq, sS, sA, sV, sM]
 refine nil_z hL1 ?_
 refine seq_reg 1 fun L2 hL2 => ?_
 simp only [qq, seval, -Nat.reducePow, reduceIte, reduceCtorEq, sS, sA, sV, sM]
 refine aops_call (at_fun _ _ ?s3_0 ?s3_1) rfl rfl rfl rfl (by (try simp only [qq, seval, -Nat.reducePow, reduceIte, reduceCtorEq, sS, sA, sV, sM]); (repeat' (first | exact .nil | exact wk_c | exact wk_ownc | exact wk_nilsc | exact wk_nils | exact wk_fn | refine .cons ?_ ?_ | refine wk_agg ?_ | refine wk_fnL ?_))) rfl rfl ?m3
 case s3_0 => omega
 case s3_1 => omega
 simp only [qq, seval, -Nat.reducePow, reduceIte, reduceCtorEq, sS, sA, sV, sM]
 refine aops_val (v := ?v4) rfl ?h4 ?_
 case h4 => simp only [qq, seval, -Nat.reducePow, reduceIte, reduceCtorEq, sS, sA, sV, sM]; first | (rw [wr_id] <;> omega) | rfl
 simp only [qq, seval, -Nat.reducePow, reduceIte, reduceCtorEq, sS, sA, sV, sM]
 refine aops_orunN 1 _ _ ?_
 simp only [qq, seval, -Nat.reducePow, reduceIte, reduceCtorEq, sS, sA, sV, sM]
 refine aops_call (at_fun _ _ ?s5_0 ?s5_1) rfl rfl rfl rfl (by (try simp only [qq, seval, -Nat.reducePow, reduceIte, reduceCtorEq, sS, sA, sV, sM]); (repeat' (first | exact .nil | exact wk_c | exact wk_ownc | exact wk_nilsc | exact wk_nils | exact wk_fn | refine .cons ?_ ?_ | refine wk_agg ?_ | refine wk_fnL ?_))) rfl rfl ?m5
 case s5_0 => omega
 case s5_1 => omega
 simp only [qq, seval, -Nat.reducePow, reduceIte, reduceCtorEq, sS, sA, sV, sM]
 refine aops_orunN 2 _ _ ?_
 simp only [qq, seval, -Nat.reducePow, reduceIte, reduceCtorEq, sS, sA, sV, sM]
 refine nil_z hL2 ?_
 refine seq_reg 2 fun L6 hL6 => ?_
 simp only [qq, seval, -Nat.reducePow, reduceIte, reduceCtorEq, sS, sA, sV, sM]
 refine aops_val (v := ?v7) rfl ?h7 ?_
 case h7 => simp only [qq, seval, -Nat.reducePow, reduceIte, reduceCtorEq, sS, sA, sV, sM]; first | (rw [wr_id] <;> omega) | rfl
 simp only [qq, seval, -Nat.reducePow, reduceIte, reduceCtorEq, sS, sA, sV, sM]
 refine aops_val (v := ?v8) rfl ?h8 ?_
 case h8 => simp only [qq, seval, -Nat.reducePow, reduceIte, reduceCtorEq, sS, sA, sV, sM]; first | (rw [wr_id] <;> omega) | rfl
 simp only [qq, seval, -Nat.reducePow, reduceIte, reduceCtorEq, sS, sA, sV, sM]
 refine aops_call (at_fun _ _ ?s9_0 ?s9_1) rfl rfl rfl rfl (by (try simp only [qq, seval, -Nat.reducePow, reduceIte, reduceCtorEq, sS, sA, sV, sM]); (repeat' (first | exact .nil | exact wk_c | exact wk_ownc | exact wk_nilsc | exact wk_nils | exact wk_fn | refine .cons ?_ ?_ | refine wk_agg ?_ | refine wk_fnL ?_))) rfl rfl ?m9
 case s9_0 => omega
 case s9_1 => omega
 simp only [qq, seval, -Nat.reducePow, reduceIte, reduceCtorEq, sS, sA, sV, sM]
 refine aops_orunN 1 _ _ ?_
 simp only [qq, seval, -Nat.reducePow, reduceIte, reduceCtorEq, sS, sA, sV, sM]
 refine aops_call (at_fun _ _ ?s10_0 ?s10_1) rfl rfl rfl rfl (by (try simp only [qq, seval, -Nat.reducePow, reduceIte, reduceCtorEq, sS, sA, sV, sM]); (repeat' (first | exact .nil | exact wk_c | exact wk_ownc | exact wk_nilsc | exact wk_nils | exact wk_fn | refine .cons ?_ ?_ | refine wk_agg ?_ | refine wk_fnL ?_))) rfl rfl ?m10
 case s10_0 => omega
 case s10_1 => omega
 simp only [qq, seval, -Nat.reducePow, reduceIte, reduceCtorEq, sS, sA, sV, sM]
 refine aops_orunN 2 _ _ ?_
 simp only [qq, seval, -Nat.reducePow, reduceIte, reduceCtorEq, sS, sA, sV, sM]
 refine nil_z hL6 ?_
 as_aux_lemma =>
  refine seq_reg0 fun L11 hL11 => ?_
  refine aops_nilown 34 41 rfl rfl ?x12 ?_
  case x12 => simp only [qq, seval, -Nat.reducePow, reduceIte, reduceCtorEq, sS, sA, sV, sM]
  simp only [qq, seval, -Nat.reducePow, reduceIte, reduceCtorEq, sS, sA, sV, sM]
  refine nil_z hL11 ?_
  refine awp_seq_k fun K13 hK13 => ?_
  refine seq_reg 1 fun L14 hL14 => ?_
  simp only [qq, seval, -Nat.reducePow, reduceIte, reduceCtorEq, sS, sA, sV, sM]
  refine aops_val (v := ?v15) rfl ?h15 ?_
  case h15 => simp only [qq, seval, -Nat.reducePow, reduceIte, reduceCtorEq, sS, sA, sV, sM]; first | (rw [wr_id] <;> omega) | rfl
  simp only [qq, seval, -Nat.reducePow, reduceIte, reduceCtorEq, sS, sA, sV, sM]
  refine aops_orunN 1 _ _ ?_
  simp only [qq, seval, -Nat.reducePow, reduceIte, reduceCtorEq, sS, sA, sV, sM]
  refine nil_z hL14 ?_
  refine awp_block ?_
  refine awp_loopW (W := [30, 31, 10, 32, 33, 34, 35, 36, 37, 38, 39, 40, 41, 9, 42, 29]) (M := []) rfl rfl (fun kk s => ∃ (i : Nat), kk = M + 2 - i ∧ (i ≤ M + 2) ∧ s.t 9 = .own false 41 34 (Rw Pt.cs (stdy A S V i)) ∧ s.t 29 = .c (.int .i64 (i : Int))) ((fun (i : Nat) => M + 2 - i) (0)) ?i16 ?r16
  case i16 =>
   refine ⟨0, rfl, ?_, ?_, ?_⟩
   · first | omega | simp
   · (try simp only [qq, seval, -Nat.reducePow, reduceIte, reduceCtorEq, sS, sA, sV, sM])
     all_goals (first | done | rfl | (simp only [AV.c.injEq, C.int.injEq, List.cons.injEq, and_true, true_and]; omega))
   · (try simp only [qq, seval, -Nat.reducePow, reduceIte, reduceCtorEq, sS, sA, sV, sM])
     all_goals (first | done | rfl | (simp only [AV.c.injEq, C.int.injEq, List.cons.injEq, and_true, true_and]; omega))
  case r16 =>
   rintro kk s hf ⟨i, rfl, hq5_0, s16t9, s16t29⟩ K16 hK16
   have s16f0 := hf 0 rfl (by (try simp only [qq, seval, -Nat.reducePow, reduceIte, reduceCtorEq, kn, sS, sA, sV, sM]); all_goals rfl)
   simp only [qq, seval, -Nat.reducePow, reduceIte, reduceCtorEq, sS, sA, sV, sM] at s16f0
   have s16f1 := hf 1 rfl (by (try simp only [qq, seval, -Nat.reducePow, reduceIte, reduceCtorEq, kn, sS, sA, sV, sM]); all_goals rfl)
   simp only [qq, seval, -Nat.reducePow, reduceIte, reduceCtorEq, sS, sA, sV, sM] at s16f1
   have s16f2 := hf 2 rfl (by (try simp only [qq, seval, -Nat.reducePow, reduceIte, reduceCtorEq, kn, sS, sA, sV, sM]); all_goals rfl)
   simp only [qq, seval, -Nat.reducePow, reduceIte, reduceCtorEq, sS, sA, sV, sM] at s16f2
   have s16f8 := hf 8 rfl (by (try simp only [qq, seval, -Nat.reducePow, reduceIte, reduceCtorEq, kn, sS, sA, sV, sM]); all_goals rfl)
   simp only [qq, seval, -Nat.reducePow, reduceIte, reduceCtorEq, sS, sA, sV, sM] at s16f8
   have s16f28 := hf 28 rfl (by (try simp only [qq, seval, -Nat.reducePow, reduceIte, reduceCtorEq, kn, sS, sA, sV, sM]); all_goals rfl)
   simp only [qq, seval, -Nat.reducePow, reduceIte, reduceCtorEq, sS, sA, sV, sM] at s16f28
   clear hf
   refine seq_reg 1 fun L17 hL17 => ?_
   simp only [qq, seval, -Nat.reducePow, reduceIte, reduceCtorEq, sS, sA, sV, sM, s16t9, s16t29, s16f0, s16f1, s16f2, s16f8, s16f28]
   refine nil_z hL17 ?_
   as_aux_lemma =>
    refine awp_seq_k fun K18 hK18 => ?_
    refine awp_cond (t := ?t19) ?h19 (fun hb19 => ?a19) (fun hb19 => ?b19)
    case h19 => simp only [qq, seval, -Nat.reducePow, reduceIte, reduceCtorEq, sS, sA, sV, sM, s16t9, s16t29, s16f0, s16f1, s16f2, s16f8, s16f28]; rfl
    case a19 =>
     have hp19 := hb19
     try simp only [kb] at hp19
     refine awp_skip ?_
     refine hK18 _ ?_
     refine awp_seq_k fun K20 hK20 => ?_
     refine awp_block ?_
     refine seq_reg 2 fun L21 hL21 => ?_
     simp only [qq, seval, -Nat.reducePow, reduceIte, reduceCtorEq, sS, sA, sV, sM, s16t9, s16t29, s16f0, s16f1, s16f2, s16f8, s16f28, hb19]
     refine nil_z hL21 ?_
     have hm1 : 0 ≤ (i : Int) * S := Int.mul_nonneg (by omega) (by omega)
     have hm2 := mul_le (j := i) (m := 40) (s := S) (by omega) (by omega)
     have hsl := stdy_len A S V i
     refine reg 4 fun L22 hL22 => ?_
     simp only [qq, seval, -Nat.reducePow, reduceIte, reduceCtorEq, sS, sA, sV, sM, s16t9, s16t29, s16f0, s16f1, s16f2, s16f8, s16f28, hb19]
     refine aops_val (v := ?v23) rfl ?h23 ?_
     case h23 => simp only [qq, seval, -Nat.reducePow, reduceIte, reduceCtorEq, sS, sA, sV, sM, s16t9, s16t29, s16f0, s16f1, s16f2, s16f8, s16f28, hb19]; first | (rw [wr_id] <;> omega) | rfl
     simp only [qq, seval, -Nat.reducePow, reduceIte, reduceCtorEq, sS, sA, sV, sM, s16t9, s16t29, s16f0, s16f1, s16f2, s16f8, s16f28, hb19]
     refine aops_val (v := ?v24) rfl ?h24 ?_
     case h24 => simp only [qq, seval, -Nat.reducePow, reduceIte, reduceCtorEq, sS, sA, sV, sM, s16t9, s16t29, s16f0, s16f1, s16f2, s16f8, s16f28, hb19]; first | (rw [wr_id] <;> omega) | rfl
     simp only [qq, seval, -Nat.reducePow, reduceIte, reduceCtorEq, sS, sA, sV, sM, s16t9, s16t29, s16f0, s16f1, s16f2, s16f8, s16f28, hb19]
     refine aops_orunN 3 _ _ ?_
     simp only [qq, seval, -Nat.reducePow, reduceIte, reduceCtorEq, sS, sA, sV, sM, s16t9, s16t29, s16f0, s16f1, s16f2, s16f8, s16f28, hb19]
     refine aops_append (rows := ?rows25) (new := ?new25) rfl rfl rfl rfl rfl rfl un22 ?hx25 (by simp only [qq, seval, -Nat.reducePow, reduceIte, reduceCtorEq, maskO, maskN, sS, sA, sV, sM, s16t9, s16t29, s16f0, s16f1, s16f2, s16f8, s16f28, hb19]) (by simp only [qq, seval, -Nat.reducePow, reduceIte, reduceCtorEq, maskO, maskN, sS, sA, sV, sM, s16t9, s16t29, s16f0, s16f1, s16f2, s16f8, s16f28, hb19]) (by simp only [qq, seval, -Nat.reducePow, reduceIte, reduceCtorEq, sS, sA, sV, sM, s16t9, s16t29, s16f0, s16f1, s16f2, s16f8, s16f28, hb19]) ?hy25 (by simp only [tyf]; rfl) (by simp only [tyf]; decide) ?hsz25 ?hml25 ?hh25
     case hx25 => simp only [qq, seval, -Nat.reducePow, reduceIte, reduceCtorEq, AV.base, sS, sA, sV, sM, s16t9, s16t29, s16f0, s16f1, s16f2, s16f8, s16f28, hb19]; rfl
     case hy25 => simp only [qq, seval, -Nat.reducePow, reduceIte, reduceCtorEq, sS, sA, sV, sM, s16t9, s16t29, s16f0, s16f1, s16f2, s16f8, s16f28, hb19]; rfl
     case hsz25 => ((try simp only [tyf, rwR, List.length_append, List.length_cons, List.length_nil, List.length_take, List.length_drop]); omega)
     case hml25 => ((try simp only [maxLen, tyf, rwR, List.length_append, List.length_cons, List.length_nil, List.length_take, List.length_drop]); omega)
     simp only [qq, seval, -Nat.reducePow, reduceIte, reduceCtorEq, maskO, maskN, sS, sA, sV, sM, s16t9, s16t29, s16f0, s16f1, s16f2, s16f8, s16f28, hb19]
     refine aops_orunN 1 _ _ ?_
     simp only [qq, seval, -Nat.reducePow, reduceIte, reduceCtorEq, sS, sA, sV, sM, s16t9, s16t29, s16f0, s16f1, s16f2, s16f8, s16f28, hb19]
     refine aops_nil (hL22 _ ?_)
     simp only [qq, seval, -Nat.reducePow, reduceIte, reduceCtorEq, sS, sA, sV, sM, s16t9, s16t29, s16f0, s16f1, s16f2, s16f8, s16f28, hb19]
     try simp only [rk_state]
     refine hK20 _ ?_
     refine reg 0 fun L26 hL26 => ?_
     simp only [qq, seval, -Nat.reducePow, reduceIte, reduceCtorEq, sS, sA, sV, sM, s16t9, s16t29, s16f0, s16f1, s16f2, s16f8, s16f28, hb19]
     refine aops_val (v := ?v27) rfl ?h27 ?_
     case h27 => simp only [qq, seval, -Nat.reducePow, reduceIte, reduceCtorEq, sS, sA, sV, sM, s16t9, s16t29, s16f0, s16f1, s16f2, s16f8, s16f28, hb19]; first | (rw [wr_id] <;> omega) | rfl
     simp only [qq, seval, -Nat.reducePow, reduceIte, reduceCtorEq, sS, sA, sV, sM, s16t9, s16t29, s16f0, s16f1, s16f2, s16f8, s16f28, hb19]
     refine aops_orunN 1 _ _ ?_
     simp only [qq, seval, -Nat.reducePow, reduceIte, reduceCtorEq, sS, sA, sV, sM, s16t9, s16t29, s16f0, s16f1, s16f2, s16f8, s16f28, hb19]
     refine nil_q hL26 ?_
     try simp only [rk_state]
     have sn := stdy_next A S V i
     refine hK16 _ ((fun (i : Nat) => M + 2 - i) (i + 1)) ?_ ⟨i + 1, rfl, ?_, ?_, ?_⟩
     · (try simp only []); omega
     · first | omega | simp
     · (try simp only [qq, seval, -Nat.reducePow, reduceIte, reduceCtorEq, sS, sA, sV, sM, s16t9, s16t29, s16f0, s16f1, s16f2, s16f8, s16f28, hb19, sn])
       all_goals (first | done | rfl | (simp only [AV.c.injEq, C.int.injEq, List.cons.injEq, and_true, true_and]; omega))
     · (try simp only [qq, seval, -Nat.reducePow, reduceIte, reduceCtorEq, sS, sA, sV, sM, s16t9, s16t29, s16f0, s16f1, s16f2, s16f8, s16f28, hb19, sn])
       all_goals (first | done | rfl | (simp only [AV.c.injEq, C.int.injEq, List.cons.injEq, and_true, true_and]; omega))
    case b19 =>
     have hp19 := hb19
     try simp only [kb] at hp19
     refine awp_exit ?_
     simp only [rk_state, reduceIte, Nat.reduceEqDiff]
     refine hK13 _ ?_
     as_aux_lemma =>
      have ei : i = M + 2 := by omega
      subst ei
      have sl := stdy_len A S V (M + 2)
      have sK : (min (((M + 2 : Nat)) : Int) 40).toNat = M + 2 := by omega
      have sT : (stdy A S V (M + 2)).take (M + 2) = (stdy A S V (M + 2)) := List.take_of_length_le (by rw [stdy_len]; omega)
      refine seq_reg 4 fun L28 hL28 => ?_
      simp only [qq, seval, -Nat.reducePow, reduceIte, reduceCtorEq, sS, sA, sV, sM, s16t9, s16t29, s16f0, s16f1, s16f2, s16f8, s16f28, hb19, sl, sK, sT]
      refine aops_val (v := ?v29) rfl ?h29 ?_
      case h29 => simp only [qq, seval, -Nat.reducePow, reduceIte, reduceCtorEq, sS, sA, sV, sM, s16t9, s16t29, s16f0, s16f1, s16f2, s16f8, s16f28, hb19, sl, sK, sT]; first | (rw [slc_h un22 if34] <;> omega) | (rw [slc_ho un22 if34] <;> omega)
      simp only [qq, seval, -Nat.reducePow, reduceIte, reduceCtorEq, sS, sA, sV, sM, s16t9, s16t29, s16f0, s16f1, s16f2, s16f8, s16f28, hb19, sl, sK, sT]
      refine aops_orunN 1 _ _ ?_
      simp only [qq, seval, -Nat.reducePow, reduceIte, reduceCtorEq, sS, sA, sV, sM, s16t9, s16t29, s16f0, s16f1, s16f2, s16f8, s16f28, hb19, sl, sK, sT]
      refine nil_z hL28 ?_
      have hls := line_steady (a := A) (s := S) (v := V) (by omega) (by omega) (by omega) (m := M) (by omega) (by omega)
      have s1 := hls.2.1
      have s2 := hls.2.2.1
      have hlen := hls.2.2.2
      have hpl := packAt_len (stdy A S V (M + 2)) (M + 2)
      refine seq_reg 1 fun L30 hL30 => ?_
      simp only [qq, seval, -Nat.reducePow, reduceIte, reduceCtorEq, sS, sA, sV, sM, s16t9, s16t29, s16f0, s16f1, s16f2, s16f8, s16f28, hb19, sl, sK, sT, s1, s2]
      refine aops_call_own (pack_fun _) rfl rfl rfl rfl (by (try simp only [qq, seval, -Nat.reducePow, reduceIte, reduceCtorEq, sS, sA, sV, sM, s16t9, s16t29, s16f0, s16f1, s16f2, s16f8, s16f28, hb19, sl, sK, sT, s1, s2]); (repeat' (first | exact .nil | exact wk_c | exact wk_ownc | exact wk_nilsc | exact wk_nils | exact wk_fn | refine .cons ?_ ?_ | refine wk_agg ?_ | refine wk_fnL ?_))) rfl rfl rfl (by simp only [qq, seval, -Nat.reducePow, reduceIte, reduceCtorEq, sS, sA, sV, sM, s16t9, s16t29, s16f0, s16f1, s16f2, s16f8, s16f28, hb19, sl, sK, sT, s1, s2]) ?_
      simp only [qq, seval, -Nat.reducePow, reduceIte, reduceCtorEq, AV.setOwn, AV.setOwn1, sS, sA, sV, sM, s16t9, s16t29, s16f0, s16f1, s16f2, s16f8, s16f28, hb19, sl, sK, sT, s1, s2]
      refine aops_orunN 5 _ _ ?_
      simp only [qq, seval, -Nat.reducePow, reduceIte, reduceCtorEq, sS, sA, sV, sM, s16t9, s16t29, s16f0, s16f1, s16f2, s16f8, s16f28, hb19, sl, sK, sT, s1, s2]
      refine aops_nil (hL30 _ ?_)
      simp only [qq, seval, -Nat.reducePow, reduceIte, reduceCtorEq, sS, sA, sV, sM, s16t9, s16t29, s16f0, s16f1, s16f2, s16f8, s16f28, hb19, sl, sK, sT, s1, s2]
      refine seq_reg 1 fun L32 hL32 => ?_
      simp only [qq, seval, -Nat.reducePow, reduceIte, reduceCtorEq, sS, sA, sV, sM, s16t9, s16t29, s16f0, s16f1, s16f2, s16f8, s16f28, hb19, sl, sK, sT, s1, s2]
      refine aops_val (v := ?v33) rfl ?h33 ?_
      case h33 => simp only [qq, seval, -Nat.reducePow, reduceIte, reduceCtorEq, sS, sA, sV, sM, s16t9, s16t29, s16f0, s16f1, s16f2, s16f8, s16f28, hb19, sl, sK, sT, s1, s2]; first | (rw [slc_h un22 if34] <;> omega) | (rw [slc_ho un22 if34] <;> omega)
      simp only [qq, seval, -Nat.reducePow, reduceIte, reduceCtorEq, sS, sA, sV, sM, s16t9, s16t29, s16f0, s16f1, s16f2, s16f8, s16f28, hb19, sl, sK, sT, s1, s2]
      refine aops_call_own (pack_fun _) rfl rfl rfl rfl (by (try simp only [qq, seval, -Nat.reducePow, reduceIte, reduceCtorEq, sS, sA, sV, sM, s16t9, s16t29, s16f0, s16f1, s16f2, s16f8, s16f28, hb19, sl, sK, sT, s1, s2]); (repeat' (first | exact .nil | exact wk_c | exact wk_ownc | exact wk_nilsc | exact wk_nils | exact wk_fn | refine .cons ?_ ?_ | refine wk_agg ?_ | refine wk_fnL ?_))) rfl rfl rfl (by simp only [qq, seval, -Nat.reducePow, reduceIte, reduceCtorEq, sS, sA, sV, sM, s16t9, s16t29, s16f0, s16f1, s16f2, s16f8, s16f28, hb19, sl, sK, sT, s1, s2]) ?_
      simp only [qq, seval, -Nat.reducePow, reduceIte, reduceCtorEq, AV.setOwn, AV.setOwn1, sS, sA, sV, sM, s16t9, s16t29, s16f0, s16f1, s16f2, s16f8, s16f28, hb19, sl, sK, sT, s1, s2]
      refine aops_orunN 5 _ _ ?_
      simp only [qq, seval, -Nat.reducePow, reduceIte, reduceCtorEq, sS, sA, sV, sM, s16t9, s16t29, s16f0, s16f1, s16f2, s16f8, s16f28, hb19, sl, sK, sT, s1, s2]
      refine aops_nil (hL32 _ ?_)
      simp only [qq, seval, -Nat.reducePow, reduceIte, reduceCtorEq, sS, sA, sV, sM, s16t9, s16t29, s16f0, s16f1, s16f2, s16f8, s16f28, hb19, sl, sK, sT, s1, s2]
      as_aux_lemma =>
       refine seq_reg0 fun L35 hL35 => ?_
       refine aops_call lined_fun rfl rfl rfl rfl (by (try simp only [qq, seval, -Nat.reducePow, reduceIte, reduceCtorEq, sS, sA, sV, sM, s16t9, s16t29, s16f0, s16f1, s16f2, s16f8, s16f28, hb19, sl, sK, sT, s1, s2]); (repeat' (first | exact .nil | exact wk_c | exact wk_ownc | exact wk_nilsc | exact wk_nils | exact wk_fn | refine .cons ?_ ?_ | refine wk_agg ?_ | refine wk_fnL ?_))) rfl rfl ?_
       simp only [qq, seval, -Nat.reducePow, reduceIte, reduceCtorEq, sS, sA, sV, sM, s16t9, s16t29, s16f0, s16f1, s16f2, s16f8, s16f28, hb19, sl, sK, sT, s1, s2]
       refine aops_orunN 1 _ _ ?_
       simp only [qq, seval, -Nat.reducePow, reduceIte, reduceCtorEq, sS, sA, sV, sM, s16t9, s16t29, s16f0, s16f1, s16f2, s16f8, s16f28, hb19, sl, sK, sT, s1, s2]
       refine aops_part (b := ?p37) 60 ?h37 (fun hb37 => ?a37) (fun hb37 => ?b37)
       case h37 => simp only [qq, seval, -Nat.reducePow, reduceIte, reduceCtorEq, sS, sA, sV, sM, s16t9, s16t29, s16f0, s16f1, s16f2, s16f8, s16f28, hb19, sl, sK, sT, s1, s2]; rfl
       case a37 =>
        have hp37 := hb37
        try simp only [kb] at hp37
        try simp only [hb37]
        refine aops_orunN 4 _ _ ?_
        simp only [qq, seval, -Nat.reducePow, reduceIte, reduceCtorEq, sS, sA, sV, sM, s16t9, s16t29, s16f0, s16f1, s16f2, s16f8, s16f28, hb19, sl, sK, sT, s1, s2, hb37]
        refine aops_part (b := ?p38) 64 ?h38 (fun hb38 => ?a38) (fun hb38 => ?b38)
        case h38 => simp only [qq, seval, -Nat.reducePow, reduceIte, reduceCtorEq, sS, sA, sV, sM, s16t9, s16t29, s16f0, s16f1, s16f2, s16f8, s16f28, hb19, sl, sK, sT, s1, s2, hb37]; rfl
        case a38 =>
         have hp38 := hb38
         try simp only [kb] at hp38
         try simp only [hb38]
         refine aops_orunN 4 _ _ ?_
         simp only [qq, seval, -Nat.reducePow, reduceIte, reduceCtorEq, sS, sA, sV, sM, s16t9, s16t29, s16f0, s16f1, s16f2, s16f8, s16f28, hb19, sl, sK, sT, s1, s2, hb37, hb38]
         refine aops_part (b := ?p39) 68 ?h39 (fun hb39 => ?a39) (fun hb39 => ?b39)
         case h39 => simp only [qq, seval, -Nat.reducePow, reduceIte, reduceCtorEq, sS, sA, sV, sM, s16t9, s16t29, s16f0, s16f1, s16f2, s16f8, s16f28, hb19, sl, sK, sT, s1, s2, hb37, hb38]; rfl
         case a39 =>
          have hp39 := hb39
          try simp only [kb] at hp39
          try simp only [hb39]
          refine aops_orunN 6 _ _ ?_
          simp only [qq, seval, -Nat.reducePow, reduceIte, reduceCtorEq, sS, sA, sV, sM, s16t9, s16t29, s16f0, s16f1, s16f2, s16f8, s16f28, hb19, sl, sK, sT, s1, s2, hb37, hb38, hb39]
          refine aops_val (v := ?v40) (by simp only [qq, seval, -Nat.reducePow, reduceIte, reduceCtorEq, sS, sA, sV, sM, s16t9, s16t29, s16f0, s16f1, s16f2, s16f8, s16f28, hb19, sl, sK, sT, s1, s2, hb37, hb38, hb39]) ?h40 ?_
          case h40 => simp only [qq, seval, -Nat.reducePow, reduceIte, reduceCtorEq, sS, sA, sV, sM, s16t9, s16t29, s16f0, s16f1, s16f2, s16f8, s16f28, hb19, sl, sK, sT, s1, s2, hb37, hb38, hb39]; first | (rw [wr_id] <;> omega) | rfl
          simp only [qq, seval, -Nat.reducePow, reduceIte, reduceCtorEq, sS, sA, sV, sM, s16t9, s16t29, s16f0, s16f1, s16f2, s16f8, s16f28, hb19, sl, sK, sT, s1, s2, hb37, hb38, hb39]
          refine aops_val (v := ?v41) (by simp only [qq, seval, -Nat.reducePow, reduceIte, reduceCtorEq, sS, sA, sV, sM, s16t9, s16t29, s16f0, s16f1, s16f2, s16f8, s16f28, hb19, sl, sK, sT, s1, s2, hb37, hb38, hb39]) ?h41 ?_
          case h41 => simp only [qq, seval, -Nat.reducePow, reduceIte, reduceCtorEq, sS, sA, sV, sM, s16t9, s16t29, s16f0, s16f1, s16f2, s16f8, s16f28, hb19, sl, sK, sT, s1, s2, hb37, hb38, hb39]; first | (rw [wr_id] <;> omega) | rfl
          simp only [qq, seval, -Nat.reducePow, reduceIte, reduceCtorEq, sS, sA, sV, sM, s16t9, s16t29, s16f0, s16f1, s16f2, s16f8, s16f28, hb19, sl, sK, sT, s1, s2, hb37, hb38, hb39]
          refine aops_val (v := ?v42) (by simp only [qq, seval, -Nat.reducePow, reduceIte, reduceCtorEq, sS, sA, sV, sM, s16t9, s16t29, s16f0, s16f1, s16f2, s16f8, s16f28, hb19, sl, sK, sT, s1, s2, hb37, hb38, hb39]) ?h42 ?_
          case h42 => simp only [qq, seval, -Nat.reducePow, reduceIte, reduceCtorEq, sS, sA, sV, sM, s16t9, s16t29, s16f0, s16f1, s16f2, s16f8, s16f28, hb19, sl, sK, sT, s1, s2, hb37, hb38, hb39]; first | (rw [wr_id] <;> omega) | rfl
          simp only [qq, seval, -Nat.reducePow, reduceIte, reduceCtorEq, sS, sA, sV, sM, s16t9, s16t29, s16f0, s16f1, s16f2, s16f8, s16f28, hb19, sl, sK, sT, s1, s2, hb37, hb38, hb39]
          refine aops_orunN 3 _ _ ?_
          simp only [qq, seval, -Nat.reducePow, reduceIte, reduceCtorEq, sS, sA, sV, sM, s16t9, s16t29, s16f0, s16f1, s16f2, s16f8, s16f28, hb19, sl, sK, sT, s1, s2, hb37, hb38, hb39]
          refine nil_z hL35 ?_
          refine awp_ret ?_
          try simp only [rk_state]
          refine ⟨_, 0, by simp only [qq, seval, -Nat.reducePow, reduceIte, reduceCtorEq, resA, Try.results12, sS, sA, sV, sM, s16t9, s16t29, s16f0, s16f1, s16f2, s16f8, s16f28, hb19, sl, sK, sT, s1, s2, hb37, hb38, hb39]; rfl, ?_, nomem_a, nomem_a⟩
          simp only [packA]
          (repeat' (first | exact .nil | exact wkR_c | exact wkR_own | exact wkR_nils | refine wkR_int ?_ | refine wkR_bool ?_ | refine wkR_sl ?_ | refine wkR_osl ?_ | refine wkR_nsl ?_ | refine wkR_oo ?_ | refine wkR_no ?_ | refine .cons ?_ ?_ | refine wkR_agg ?_ | refine wkR_tup ?_)) <;> first | rfl | (apply decide_eq_true; omega) | (simp only [beq_iff_eq]; omega)
         case b39 =>
          first | exact absurd hb39 (by decide) | (have hp39 := hb39; (try simp only [kb] at hp39); exfalso; omega)
        case b38 =>
         first | exact absurd hb38 (by decide) | (have hp38 := hb38; (try simp only [kb] at hp38); exfalso; omega)
       case b37 =>
        first | exact absurd hb37 (by decide) | (have hp37 := hb37; (try simp only [kb] at hp37); exfalso; omega)
end Go.Proofs.Y
