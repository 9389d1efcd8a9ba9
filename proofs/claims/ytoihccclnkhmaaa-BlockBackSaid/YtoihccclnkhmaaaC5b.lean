/-
  What is proved: blocks: what blocked and the laws BlockSays, BlockBack compute. Conditions: none.
-/
import Derived.Test.YtoihccclnkhmaaaC5
import Derived.Test.YtoihccclnkhmaaaCA
set_option linter.unusedVariables false
set_option linter.unusedSimpArgs false
set_option maxRecDepth 4000
namespace Go.Proofs.Y
open Go.Rb
set_option maxHeartbeats 4000000 in
set_option maxRecDepth 50000 in
theorem blocked_fun  : Fun Try.prog 57 [] nomem (.c (.bool true)) nomem := by
 refine fun_of_awp Try.func57 rfl (by decide +kernel) (by decide +kernel) (Nat.le_of_ble_eq_true rfl) (fun _ _ => rfl) (fun _ _ => rfl) ?_
 refine seq_reg 1 fun L1 hL1 => ?_
 simp only [qq, seval, -Nat.reducePow, reduceIte, reduceCtorEq, b_make1, b_make2, b_merge, b_pts, b_late, b_none]
 refine nil_z hL1 ?_
 have hp3 : pts3.length = 3 := rfl
 refine seq_reg0 fun L2 hL2 => ?_
 refine aops_call_own points_fun rfl rfl rfl rfl (by (try simp only [qq, seval, -Nat.reducePow, reduceIte, reduceCtorEq, b_make1, b_make2, b_merge, b_pts, b_late, b_none]); (repeat' (first | exact .nil | exact wk_c | exact wk_ownc | exact wk_nilsc | exact wk_nils | exact wk_fn | refine .cons ?_ ?_ | refine wk_agg ?_ | refine wk_fnL ?_))) rfl rfl rfl (by simp only [qq, seval, -Nat.reducePow, reduceIte, reduceCtorEq, b_make1, b_make2, b_merge, b_pts, b_late, b_none]) ?_
 simp only [qq, seval, -Nat.reducePow, reduceIte, reduceCtorEq, AV.setOwn, AV.setOwn1, b_make1, b_make2, b_merge, b_pts, b_late, b_none]
 refine aops_val (v := ?v4) rfl ?h4 ?_
 case h4 => simp only [qq, seval, -Nat.reducePow, reduceIte, reduceCtorEq, b_make1, b_make2, b_merge, b_pts, b_late, b_none]; first | (rw [slc_h un22 if34] <;> omega) | (rw [slc_ho un22 if34] <;> omega)
 simp only [qq, seval, -Nat.reducePow, reduceIte, reduceCtorEq, b_make1, b_make2, b_merge, b_pts, b_late, b_none]
 refine aops_call (make_fun (pts3.take 1) (by decide +kernel)) rfl rfl rfl rfl (by (try simp only [qq, seval, -Nat.reducePow, reduceIte, reduceCtorEq, b_make1, b_make2, b_merge, b_pts, b_late, b_none]); (repeat' (first | exact .nil | exact wk_c | exact wk_ownc | exact wk_nilsc | exact wk_nils | exact wk_fn | refine .cons ?_ ?_ | refine wk_agg ?_ | refine wk_fnL ?_))) rfl rfl ?_
 simp only [qq, seval, -Nat.reducePow, reduceIte, reduceCtorEq, b_make1, b_make2, b_merge, b_pts, b_late, b_none]
 refine aops_orunN 6 _ _ ?_
 simp only [qq, seval, -Nat.reducePow, reduceIte, reduceCtorEq, b_make1, b_make2, b_merge, b_pts, b_late, b_none]
 refine aops_nil (hL2 _ ?_)
 simp only [qq, seval, -Nat.reducePow, reduceIte, reduceCtorEq, b_make1, b_make2, b_merge, b_pts, b_late, b_none]
 refine seq_reg0 fun L6 hL6 => ?_
 refine aops_call_own points_fun rfl rfl rfl rfl (by (try simp only [qq, seval, -Nat.reducePow, reduceIte, reduceCtorEq, b_make1, b_make2, b_merge, b_pts, b_late, b_none]); (repeat' (first | exact .nil | exact wk_c | exact wk_ownc | exact wk_nilsc | exact wk_nils | exact wk_fn | refine .cons ?_ ?_ | refine wk_agg ?_ | refine wk_fnL ?_))) rfl rfl rfl (by simp only [qq, seval, -Nat.reducePow, reduceIte, reduceCtorEq, b_make1, b_make2, b_merge, b_pts, b_late, b_none]) ?_
 simp only [qq, seval, -Nat.reducePow, reduceIte, reduceCtorEq, AV.setOwn, AV.setOwn1, b_make1, b_make2, b_merge, b_pts, b_late, b_none]
 refine aops_val (v := ?v8) rfl ?h8 ?_
 case h8 => simp only [qq, seval, -Nat.reducePow, reduceIte, reduceCtorEq, b_make1, b_make2, b_merge, b_pts, b_late, b_none]; first | (rw [slc_l un22 if34] <;> omega) | (rw [slc_lo un22 if34] <;> omega)
 simp only [qq, seval, -Nat.reducePow, reduceIte, reduceCtorEq, b_make1, b_make2, b_merge, b_pts, b_late, b_none]
 refine aops_call (make_fun (pts3.drop 1) (by decide +kernel)) rfl rfl rfl rfl (by (try simp only [qq, seval, -Nat.reducePow, reduceIte, reduceCtorEq, b_make1, b_make2, b_merge, b_pts, b_late, b_none]); (repeat' (first | exact .nil | exact wk_c | exact wk_ownc | exact wk_nilsc | exact wk_nils | exact wk_fn | refine .cons ?_ ?_ | refine wk_agg ?_ | refine wk_fnL ?_))) rfl rfl ?_
 simp only [qq, seval, -Nat.reducePow, reduceIte, reduceCtorEq, b_make1, b_make2, b_merge, b_pts, b_late, b_none]
 refine aops_orunN 6 _ _ ?_
 simp only [qq, seval, -Nat.reducePow, reduceIte, reduceCtorEq, b_make1, b_make2, b_merge, b_pts, b_late, b_none]
 refine aops_nil (hL6 _ ?_)
 simp only [qq, seval, -Nat.reducePow, reduceIte, reduceCtorEq, b_make1, b_make2, b_merge, b_pts, b_late, b_none]
 as_aux_lemma =>
  refine seq_reg 2 fun L10 hL10 => ?_
  simp only [qq, seval, -Nat.reducePow, reduceIte, reduceCtorEq, b_make1, b_make2, b_merge, b_pts, b_late, b_none]
  refine aops_call (merge_fun b1 b2 (Nat.le_trans b_len.1 (by decide)) (Nat.le_trans b_len.2.1 (by decide))) rfl rfl rfl rfl (by (try simp only [qq, seval, -Nat.reducePow, reduceIte, reduceCtorEq, b_make1, b_make2, b_merge, b_pts, b_late, b_none]); (repeat' (first | exact .nil | exact wk_c | exact wk_ownc | exact wk_nilsc | exact wk_nils | exact wk_fn | refine .cons ?_ ?_ | refine wk_agg ?_ | refine wk_fnL ?_))) rfl rfl ?_
  simp only [qq, seval, -Nat.reducePow, reduceIte, reduceCtorEq, b_make1, b_make2, b_merge, b_pts, b_late, b_none]
  refine aops_orunN 6 _ _ ?_
  simp only [qq, seval, -Nat.reducePow, reduceIte, reduceCtorEq, b_make1, b_make2, b_merge, b_pts, b_late, b_none]
  refine nil_z hL10 ?_
  refine seq_reg 1 fun L12 hL12 => ?_
  simp only [qq, seval, -Nat.reducePow, reduceIte, reduceCtorEq, b_make1, b_make2, b_merge, b_pts, b_late, b_none]
  refine aops_call_own (pts_fun b3 (Nat.le_trans b_len.2.2 (by decide))) rfl rfl rfl rfl (by (try simp only [qq, seval, -Nat.reducePow, reduceIte, reduceCtorEq, b_make1, b_make2, b_merge, b_pts, b_late, b_none]); (repeat' (first | exact .nil | exact wk_c | exact wk_ownc | exact wk_nilsc | exact wk_nils | exact wk_fn | refine .cons ?_ ?_ | refine wk_agg ?_ | refine wk_fnL ?_))) rfl rfl rfl (by simp only [qq, seval, -Nat.reducePow, reduceIte, reduceCtorEq, b_make1, b_make2, b_merge, b_pts, b_late, b_none]) ?_
  simp only [qq, seval, -Nat.reducePow, reduceIte, reduceCtorEq, AV.setOwn, AV.setOwn1, b_make1, b_make2, b_merge, b_pts, b_late, b_none]
  refine aops_orunN 5 _ _ ?_
  simp only [qq, seval, -Nat.reducePow, reduceIte, reduceCtorEq, b_make1, b_make2, b_merge, b_pts, b_late, b_none]
  refine aops_nil (hL12 _ ?_)
  simp only [qq, seval, -Nat.reducePow, reduceIte, reduceCtorEq, b_make1, b_make2, b_merge, b_pts, b_late, b_none]
  refine seq_reg 2 fun L14 hL14 => ?_
  simp only [qq, seval, -Nat.reducePow, reduceIte, reduceCtorEq, b_make1, b_make2, b_merge, b_pts, b_late, b_none]
  refine aops_call (merge_fun b2 b1 (Nat.le_trans b_len.2.1 (by decide)) (Nat.le_trans b_len.1 (by decide))) rfl rfl rfl rfl (by (try simp only [qq, seval, -Nat.reducePow, reduceIte, reduceCtorEq, b_make1, b_make2, b_merge, b_pts, b_late, b_none]); (repeat' (first | exact .nil | exact wk_c | exact wk_ownc | exact wk_nilsc | exact wk_nils | exact wk_fn | refine .cons ?_ ?_ | refine wk_agg ?_ | refine wk_fnL ?_))) rfl rfl ?_
  simp only [qq, seval, -Nat.reducePow, reduceIte, reduceCtorEq, b_make1, b_make2, b_merge, b_pts, b_late, b_none]
  refine aops_orunN 6 _ _ ?_
  simp only [qq, seval, -Nat.reducePow, reduceIte, reduceCtorEq, b_make1, b_make2, b_merge, b_pts, b_late, b_none]
  refine nil_z hL14 ?_
  as_aux_lemma =>
   refine seq_reg0 fun L16 hL16 => ?_
   refine aops_call (make_fun [] (by simp)) rfl rfl rfl rfl (by (try simp only [qq, seval, -Nat.reducePow, reduceIte, reduceCtorEq, b_make1, b_make2, b_merge, b_pts, b_late, b_none]); (repeat' (first | exact .nil | exact wk_c | exact wk_ownc | exact wk_nilsc | exact wk_nils | exact wk_fn | refine .cons ?_ ?_ | refine wk_agg ?_ | refine wk_fnL ?_))) rfl rfl ?_
   simp only [qq, seval, -Nat.reducePow, reduceIte, reduceCtorEq, b_make1, b_make2, b_merge, b_pts, b_late, b_none]
   refine aops_orunN 6 _ _ ?_
   simp only [qq, seval, -Nat.reducePow, reduceIte, reduceCtorEq, b_make1, b_make2, b_merge, b_pts, b_late, b_none]
   refine nil_z hL16 ?_
   have s1 := b_n
   have s2 := b_fr
   have s3 := b_to
   refine seq_reg 3 fun L18 hL18 => ?_
   simp only [qq, seval, -Nat.reducePow, reduceIte, reduceCtorEq, b_make1, b_make2, b_merge, b_pts, b_late, b_none, s1, s2, s3]
   try simp (disch := omega) only [dec_t, dec_f, beq_t, beq_f, bne_t, bne_f]
   try simp only [qq, seval, -Nat.reducePow, reduceIte, reduceCtorEq, b_make1, b_make2, b_merge, b_pts, b_late, b_none, s1, s2, s3]
   refine aops_part (b := ?p19) 48 ?h19 (fun hb19 => ?a19) (fun hb19 => ?b19)
   case h19 => simp only [qq, seval, -Nat.reducePow, reduceIte, reduceCtorEq, b_make1, b_make2, b_merge, b_pts, b_late, b_none, s1, s2, s3]; rfl
   case a19 =>
    have hp19 := hb19
    try simp only [kb] at hp19
    try simp only [hb19]
    refine aops_orunN 4 _ _ ?_
    simp only [qq, seval, -Nat.reducePow, reduceIte, reduceCtorEq, b_make1, b_make2, b_merge, b_pts, b_late, b_none, s1, s2, s3, hb19]
    try simp (disch := omega) only [dec_t, dec_f, beq_t, beq_f, bne_t, bne_f]
    try simp only [qq, seval, -Nat.reducePow, reduceIte, reduceCtorEq, b_make1, b_make2, b_merge, b_pts, b_late, b_none, s1, s2, s3, hb19]
    refine aops_part (b := ?p20) 52 ?h20 (fun hb20 => ?a20) (fun hb20 => ?b20)
    case h20 => simp only [qq, seval, -Nat.reducePow, reduceIte, reduceCtorEq, b_make1, b_make2, b_merge, b_pts, b_late, b_none, s1, s2, s3, hb19]; rfl
    case a20 =>
     have hp20 := hb20
     try simp only [kb] at hp20
     try simp only [hb20]
     refine aops_orunN 4 _ _ ?_
     simp only [qq, seval, -Nat.reducePow, reduceIte, reduceCtorEq, b_make1, b_make2, b_merge, b_pts, b_late, b_none, s1, s2, s3, hb19, hb20]
     try simp (disch := omega) only [dec_t, dec_f, beq_t, beq_f, bne_t, bne_f]
     try simp only [qq, seval, -Nat.reducePow, reduceIte, reduceCtorEq, b_make1, b_make2, b_merge, b_pts, b_late, b_none, s1, s2, s3, hb19, hb20]
     refine aops_part (b := ?p21) 56 ?h21 (fun hb21 => ?a21) (fun hb21 => ?b21)
     case h21 => simp only [qq, seval, -Nat.reducePow, reduceIte, reduceCtorEq, b_make1, b_make2, b_merge, b_pts, b_late, b_none, s1, s2, s3, hb19, hb20]; rfl
     case a21 =>
      have hp21 := hb21
      try simp only [kb] at hp21
      try simp only [hb21]
      refine aops_orunN 4 _ _ ?_
      simp only [qq, seval, -Nat.reducePow, reduceIte, reduceCtorEq, b_make1, b_make2, b_merge, b_pts, b_late, b_none, s1, s2, s3, hb19, hb20, hb21]
      try simp (disch := omega) only [dec_t, dec_f, beq_t, beq_f, bne_t, bne_f]
      try simp only [qq, seval, -Nat.reducePow, reduceIte, reduceCtorEq, b_make1, b_make2, b_merge, b_pts, b_late, b_none, s1, s2, s3, hb19, hb20, hb21]
      refine aops_part (b := ?p22) 60 ?h22 (fun hb22 => ?a22) (fun hb22 => ?b22)
      case h22 => simp only [qq, seval, -Nat.reducePow, reduceIte, reduceCtorEq, b_make1, b_make2, b_merge, b_pts, b_late, b_none, s1, s2, s3, hb19, hb20, hb21]; rfl
      case a22 =>
       have hp22 := hb22
       try simp only [kb] at hp22
       try simp only [hb22]
       refine aops_orunN 4 _ _ ?_
       simp only [qq, seval, -Nat.reducePow, reduceIte, reduceCtorEq, b_make1, b_make2, b_merge, b_pts, b_late, b_none, s1, s2, s3, hb19, hb20, hb21, hb22]
       try simp (disch := omega) only [dec_t, dec_f, beq_t, beq_f, bne_t, bne_f]
       try simp only [qq, seval, -Nat.reducePow, reduceIte, reduceCtorEq, b_make1, b_make2, b_merge, b_pts, b_late, b_none, s1, s2, s3, hb19, hb20, hb21, hb22]
       refine aops_part (b := ?p23) 64 ?h23 (fun hb23 => ?a23) (fun hb23 => ?b23)
       case h23 => simp only [qq, seval, -Nat.reducePow, reduceIte, reduceCtorEq, b_make1, b_make2, b_merge, b_pts, b_late, b_none, s1, s2, s3, hb19, hb20, hb21, hb22]; rfl
       case a23 =>
        have hp23 := hb23
        try simp only [kb] at hp23
        try simp only [hb23]
        refine aops_orunN 4 _ _ ?_
        simp only [qq, seval, -Nat.reducePow, reduceIte, reduceCtorEq, b_make1, b_make2, b_merge, b_pts, b_late, b_none, s1, s2, s3, hb19, hb20, hb21, hb22, hb23]
        try simp (disch := omega) only [dec_t, dec_f, beq_t, beq_f, bne_t, bne_f]
        try simp only [qq, seval, -Nat.reducePow, reduceIte, reduceCtorEq, b_make1, b_make2, b_merge, b_pts, b_late, b_none, s1, s2, s3, hb19, hb20, hb21, hb22, hb23]
        refine aops_part (b := ?p24) 68 ?h24 (fun hb24 => ?a24) (fun hb24 => ?b24)
        case h24 => simp only [qq, seval, -Nat.reducePow, reduceIte, reduceCtorEq, b_make1, b_make2, b_merge, b_pts, b_late, b_none, s1, s2, s3, hb19, hb20, hb21, hb22, hb23]; rfl
        case a24 =>
         have hp24 := hb24
         try simp only [kb] at hp24
         try simp only [hb24]
         refine aops_orunN 5 _ _ ?_
         simp only [qq, seval, -Nat.reducePow, reduceIte, reduceCtorEq, b_make1, b_make2, b_merge, b_pts, b_late, b_none, s1, s2, s3, hb19, hb20, hb21, hb22, hb23, hb24]
         try simp (disch := omega) only [dec_t, dec_f, beq_t, beq_f, bne_t, bne_f]
         try simp only [qq, seval, -Nat.reducePow, reduceIte, reduceCtorEq, b_make1, b_make2, b_merge, b_pts, b_late, b_none, s1, s2, s3, hb19, hb20, hb21, hb22, hb23, hb24]
         refine aops_part (b := ?p25) 73 ?h25 (fun hb25 => ?a25) (fun hb25 => ?b25)
         case h25 => simp only [qq, seval, -Nat.reducePow, reduceIte, reduceCtorEq, b_make1, b_make2, b_merge, b_pts, b_late, b_none, s1, s2, s3, hb19, hb20, hb21, hb22, hb23, hb24]; rfl
         case a25 =>
          have hp25 := hb25
          try simp only [kb] at hp25
          try simp only [hb25]
          refine aops_orunN 5 _ _ ?_
          simp only [qq, seval, -Nat.reducePow, reduceIte, reduceCtorEq, b_make1, b_make2, b_merge, b_pts, b_late, b_none, s1, s2, s3, hb19, hb20, hb21, hb22, hb23, hb24, hb25]
          try simp (disch := omega) only [dec_t, dec_f, beq_t, beq_f, bne_t, bne_f]
          try simp only [qq, seval, -Nat.reducePow, reduceIte, reduceCtorEq, b_make1, b_make2, b_merge, b_pts, b_late, b_none, s1, s2, s3, hb19, hb20, hb21, hb22, hb23, hb24, hb25]
          refine aops_part (b := ?p26) 78 ?h26 (fun hb26 => ?a26) (fun hb26 => ?b26)
          case h26 => simp only [qq, seval, -Nat.reducePow, reduceIte, reduceCtorEq, b_make1, b_make2, b_merge, b_pts, b_late, b_none, s1, s2, s3, hb19, hb20, hb21, hb22, hb23, hb24, hb25]; rfl
          case a26 =>
           have hp26 := hb26
           try simp only [kb] at hp26
           try simp only [hb26]
           refine aops_orunN 5 _ _ ?_
           simp only [qq, seval, -Nat.reducePow, reduceIte, reduceCtorEq, b_make1, b_make2, b_merge, b_pts, b_late, b_none, s1, s2, s3, hb19, hb20, hb21, hb22, hb23, hb24, hb25, hb26]
           try simp (disch := omega) only [dec_t, dec_f, beq_t, beq_f, bne_t, bne_f]
           try simp only [qq, seval, -Nat.reducePow, reduceIte, reduceCtorEq, b_make1, b_make2, b_merge, b_pts, b_late, b_none, s1, s2, s3, hb19, hb20, hb21, hb22, hb23, hb24, hb25, hb26]
           refine aops_part (b := ?p27) 83 ?h27 (fun hb27 => ?a27) (fun hb27 => ?b27)
           case h27 => simp only [qq, seval, -Nat.reducePow, reduceIte, reduceCtorEq, b_make1, b_make2, b_merge, b_pts, b_late, b_none, s1, s2, s3, hb19, hb20, hb21, hb22, hb23, hb24, hb25, hb26]; rfl
           case a27 =>
            have hp27 := hb27
            try simp only [kb] at hp27
            try simp only [hb27]
            refine aops_orunN 1 _ _ ?_
            simp only [qq, seval, -Nat.reducePow, reduceIte, reduceCtorEq, b_make1, b_make2, b_merge, b_pts, b_late, b_none, s1, s2, s3, hb19, hb20, hb21, hb22, hb23, hb24, hb25, hb26, hb27]
            refine aops_call_own points_fun (by simp only [qq, seval, -Nat.reducePow, reduceIte, reduceCtorEq, b_make1, b_make2, b_merge, b_pts, b_late, b_none, s1, s2, s3, hb19, hb20, hb21, hb22, hb23, hb24, hb25, hb26, hb27]) rfl rfl rfl (by (try simp only [qq, seval, -Nat.reducePow, reduceIte, reduceCtorEq, b_make1, b_make2, b_merge, b_pts, b_late, b_none, s1, s2, s3, hb19, hb20, hb21, hb22, hb23, hb24, hb25, hb26, hb27]); (repeat' (first | exact .nil | exact wk_c | exact wk_ownc | exact wk_nilsc | exact wk_nils | exact wk_fn | refine .cons ?_ ?_ | refine wk_agg ?_ | refine wk_fnL ?_))) rfl rfl rfl (by simp only [qq, seval, -Nat.reducePow, reduceIte, reduceCtorEq, b_make1, b_make2, b_merge, b_pts, b_late, b_none, s1, s2, s3, hb19, hb20, hb21, hb22, hb23, hb24, hb25, hb26, hb27]) ?_
            simp only [qq, seval, -Nat.reducePow, reduceIte, reduceCtorEq, AV.setOwn, AV.setOwn1, b_make1, b_make2, b_merge, b_pts, b_late, b_none, s1, s2, s3, hb19, hb20, hb21, hb22, hb23, hb24, hb25, hb26, hb27]
            refine aops_call (equal_pt_fun pts3 pts3 (by decide)) (by simp only [qq, seval, -Nat.reducePow, reduceIte, reduceCtorEq, b_make1, b_make2, b_merge, b_pts, b_late, b_none, s1, s2, s3, hb19, hb20, hb21, hb22, hb23, hb24, hb25, hb26, hb27]) rfl rfl rfl (by (try simp only [qq, seval, -Nat.reducePow, reduceIte, reduceCtorEq, b_make1, b_make2, b_merge, b_pts, b_late, b_none, s1, s2, s3, hb19, hb20, hb21, hb22, hb23, hb24, hb25, hb26, hb27]); (repeat' (first | exact .nil | exact wk_c | exact wk_ownc | exact wk_nilsc | exact wk_nils | exact wk_fn | refine .cons ?_ ?_ | refine wk_agg ?_ | refine wk_fnL ?_))) rfl rfl ?_
            simp only [qq, seval, -Nat.reducePow, reduceIte, reduceCtorEq, b_make1, b_make2, b_merge, b_pts, b_late, b_none, s1, s2, s3, hb19, hb20, hb21, hb22, hb23, hb24, hb25, hb26, hb27]
            refine aops_orunN 2 _ _ ?_
            simp only [qq, seval, -Nat.reducePow, reduceIte, reduceCtorEq, b_make1, b_make2, b_merge, b_pts, b_late, b_none, s1, s2, s3, hb19, hb20, hb21, hb22, hb23, hb24, hb25, hb26, hb27]
            refine aops_nil (hL18 _ ?_)
            simp only [qq, seval, -Nat.reducePow, reduceIte, reduceCtorEq, b_make1, b_make2, b_merge, b_pts, b_late, b_none, s1, s2, s3, hb19, hb20, hb21, hb22, hb23, hb24, hb25, hb26, hb27]
            refine awp_ret ?_
            try simp only [rk_state]
            refine ⟨_, 0, by simp only [qq, seval, -Nat.reducePow, reduceIte, reduceCtorEq, resA, Try.results57, b_make1, b_make2, b_merge, b_pts, b_late, b_none, s1, s2, s3, hb19, hb20, hb21, hb22, hb23, hb24, hb25, hb26, hb27]; rfl, ?_, nomem_a, nomem_a⟩
            simp only [packA]
            (repeat' (first | exact .nil | exact wkR_c | exact wkR_own | exact wkR_nils | refine wkR_int ?_ | refine wkR_bool ?_ | refine wkR_sl ?_ | refine wkR_osl ?_ | refine wkR_nsl ?_ | refine wkR_oo ?_ | refine wkR_no ?_ | refine .cons ?_ ?_ | refine wkR_agg ?_ | refine wkR_tup ?_))
           case b27 =>
            first | exact absurd hb27 (by decide) | (have hp27 := hb27; (try simp only [kb] at hp27); exfalso; omega)
          case b26 =>
           first | exact absurd hb26 (by decide) | (have hp26 := hb26; (try simp only [kb] at hp26); exfalso; omega)
         case b25 =>
          first | exact absurd hb25 (by decide) | (have hp25 := hb25; (try simp only [kb] at hp25); exfalso; omega)
        case b24 =>
         first | exact absurd hb24 (by decide) | (have hp24 := hb24; (try simp only [kb] at hp24); exfalso; omega)
       case b23 =>
        first | exact absurd hb23 (by decide) | (have hp23 := hb23; (try simp only [kb] at hp23); exfalso; omega)
      case b22 =>
       first | exact absurd hb22 (by decide) | (have hp22 := hb22; (try simp only [kb] at hp22); exfalso; omega)
     case b21 =>
      first | exact absurd hb21 (by decide) | (have hp21 := hb21; (try simp only [kb] at hp21); exfalso; omega)
    case b20 =>
     first | exact absurd hb20 (by decide) | (have hp20 := hb20; (try simp only [kb] at hp20); exfalso; omega)
   case b19 =>
    first | exact absurd hb19 (by decide) | (have hp19 := hb19; (try simp only [kb] at hp19); exfalso; omega)
set_option maxHeartbeats 4000000 in
set_option maxRecDepth 50000 in
theorem blockSays_fun (ps : List Pt) (x y : Bk) (hn : ps.length < 4611686018427387904) (hlx : x.bits.length ≤ 140737488355200) (hly : y.bits.length ≤ 140737488355200) : Fun Try.prog 14 [.c (.sl 34 (Rw Pt.cs ps)), .agg [.c (.int .i64 x.n), .c (.int .i64 x.fr), .c (.int .i64 x.to), .c (.sl 4 (Rw boC x.bits))], .agg [.c (.int .i64 y.n), .c (.int .i64 y.fr), .c (.int .i64 y.to), .c (.sl 4 (Rw boC y.bits))]] nomem (.c (.bool true)) nomem := by
 refine fun_of_awp Try.func14 rfl (by decide +kernel) (by decide +kernel) (Nat.le_of_ble_eq_true rfl) (fun _ _ => rfl) (fun _ _ => rfl) ?_
 refine seq_reg 3 fun L1 hL1 => ?_
 simp only [qq, seval, -Nat.reducePow, reduceIte, reduceCtorEq]
 refine nil_z hL1 ?_
 refine seq_reg 1 fun L2 hL2 => ?_
 simp only [qq, seval, -Nat.reducePow, reduceIte, reduceCtorEq]
 refine aops_call (make_fun _ ?s3_0) rfl rfl rfl rfl (by (try simp only [qq, seval, -Nat.reducePow, reduceIte, reduceCtorEq]); (repeat' (first | exact .nil | exact wk_c | exact wk_ownc | exact wk_nilsc | exact wk_nils | exact wk_fn | refine .cons ?_ ?_ | refine wk_agg ?_ | refine wk_fnL ?_))) rfl rfl ?m3
 case s3_0 => first | assumption | omega | decide +kernel | (simp only [List.length_take, List.length_drop]; omega)
 simp only [qq, seval, -Nat.reducePow, reduceIte, reduceCtorEq]
 refine aops_orunN 6 _ _ ?_
 simp only [qq, seval, -Nat.reducePow, reduceIte, reduceCtorEq]
 refine nil_z hL2 ?_
 have h1 := makeR_bits ps
 have h2 := mergeR_bits x y
 have h3 := ptsR_len x
 refine seq_reg 1 fun L4 hL4 => ?_
 simp only [qq, seval, -Nat.reducePow, reduceIte, reduceCtorEq]
 refine aops_call_own (pts_fun _ ?s5_0) rfl rfl rfl rfl (by (try simp only [qq, seval, -Nat.reducePow, reduceIte, reduceCtorEq]); (repeat' (first | exact .nil | exact wk_c | exact wk_ownc | exact wk_nilsc | exact wk_nils | exact wk_fn | refine .cons ?_ ?_ | refine wk_agg ?_ | refine wk_fnL ?_))) rfl rfl rfl (by simp only [qq, seval, -Nat.reducePow, reduceIte, reduceCtorEq]) ?m5
 case s5_0 => first | assumption | omega | decide +kernel | (simp only [List.length_take, List.length_drop]; omega)
 simp only [qq, seval, -Nat.reducePow, reduceIte, reduceCtorEq, AV.setOwn, AV.setOwn1]
 refine aops_orunN 5 _ _ ?_
 simp only [qq, seval, -Nat.reducePow, reduceIte, reduceCtorEq]
 refine aops_nil (hL4 _ ?_)
 simp only [qq, seval, -Nat.reducePow, reduceIte, reduceCtorEq]
 as_aux_lemma =>
  refine seq_reg 2 fun L6 hL6 => ?_
  simp only [qq, seval, -Nat.reducePow, reduceIte, reduceCtorEq]
  refine aops_call (merge_fun _ _ ?s7_0 ?s7_1) rfl rfl rfl rfl (by (try simp only [qq, seval, -Nat.reducePow, reduceIte, reduceCtorEq]); (repeat' (first | exact .nil | exact wk_c | exact wk_ownc | exact wk_nilsc | exact wk_nils | exact wk_fn | refine .cons ?_ ?_ | refine wk_agg ?_ | refine wk_fnL ?_))) rfl rfl ?m7
  case s7_0 => first | assumption | omega | decide +kernel | (simp only [List.length_take, List.length_drop]; omega)
  case s7_1 => first | assumption | omega | decide +kernel | (simp only [List.length_take, List.length_drop]; omega)
  simp only [qq, seval, -Nat.reducePow, reduceIte, reduceCtorEq]
  refine aops_orunN 6 _ _ ?_
  simp only [qq, seval, -Nat.reducePow, reduceIte, reduceCtorEq]
  refine nil_z hL6 ?_
  refine seq_reg 1 fun L8 hL8 => ?_
  simp only [qq, seval, -Nat.reducePow, reduceIte, reduceCtorEq]
  refine aops_call (blockof_fun _ ?s9_0) rfl rfl rfl rfl (by (try simp only [qq, seval, -Nat.reducePow, reduceIte, reduceCtorEq]); (repeat' (first | exact .nil | exact wk_c | exact wk_ownc | exact wk_nilsc | exact wk_nils | exact wk_fn | refine .cons ?_ ?_ | refine wk_agg ?_ | refine wk_fnL ?_))) rfl rfl ?m9
  case s9_0 => first | assumption | omega | decide +kernel | (simp only [List.length_take, List.length_drop]; omega)
  simp only [qq, seval, -Nat.reducePow, reduceIte, reduceCtorEq]
  refine aops_orunN 6 _ _ ?_
  simp only [qq, seval, -Nat.reducePow, reduceIte, reduceCtorEq]
  refine nil_z hL8 ?_
  refine seq_reg 1 fun L10 hL10 => ?_
  simp only [qq, seval, -Nat.reducePow, reduceIte, reduceCtorEq]
  refine aops_call (ptsof_fun _ ?s11_0) rfl rfl rfl rfl (by (try simp only [qq, seval, -Nat.reducePow, reduceIte, reduceCtorEq]); (repeat' (first | exact .nil | exact wk_c | exact wk_ownc | exact wk_nilsc | exact wk_nils | exact wk_fn | refine .cons ?_ ?_ | refine wk_agg ?_ | refine wk_fnL ?_))) rfl rfl ?m11
  case s11_0 => first | assumption | omega | decide +kernel | (simp only [List.length_take, List.length_drop]; omega)
  simp only [qq, seval, -Nat.reducePow, reduceIte, reduceCtorEq]
  refine aops_orunN 5 _ _ ?_
  simp only [qq, seval, -Nat.reducePow, reduceIte, reduceCtorEq]
  refine nil_z hL10 ?_
  as_aux_lemma =>
   refine seq_reg 2 fun L12 hL12 => ?_
   simp only [qq, seval, -Nat.reducePow, reduceIte, reduceCtorEq]
   refine aops_call (merged_fun _ _ ?s13_0 ?s13_1) rfl rfl rfl rfl (by (try simp only [qq, seval, -Nat.reducePow, reduceIte, reduceCtorEq]); (repeat' (first | exact .nil | exact wk_c | exact wk_ownc | exact wk_nilsc | exact wk_nils | exact wk_fn | refine .cons ?_ ?_ | refine wk_agg ?_ | refine wk_fnL ?_))) rfl rfl ?m13
   case s13_0 => first | assumption | omega | decide +kernel | (simp only [List.length_take, List.length_drop]; omega)
   case s13_1 => first | assumption | omega | decide +kernel | (simp only [List.length_take, List.length_drop]; omega)
   simp only [qq, seval, -Nat.reducePow, reduceIte, reduceCtorEq]
   refine aops_orunN 6 _ _ ?_
   simp only [qq, seval, -Nat.reducePow, reduceIte, reduceCtorEq]
   refine nil_z hL12 ?_
   refine seq_regd0 (by decide +kernel) fun L14 hL14 => ?_
   refine aops_call blocked_fun rfl rfl rfl rfl (by (try simp only [qq, seval, -Nat.reducePow, reduceIte, reduceCtorEq]); (repeat' (first | exact .nil | exact wk_c | exact wk_ownc | exact wk_nilsc | exact wk_nils | exact wk_fn | refine .cons ?_ ?_ | refine wk_agg ?_ | refine wk_fnL ?_))) rfl rfl ?_
   simp only [qq, seval, -Nat.reducePow, reduceIte, reduceCtorEq]
   refine aops_orunN 1 _ _ ?_
   simp only [qq, seval, -Nat.reducePow, reduceIte, reduceCtorEq]
   refine aops_part (b := ?p16) 52 ?h16 (fun hb16 => ?a16) (fun hb16 => ?b16)
   case h16 => simp only [qq, seval, -Nat.reducePow, reduceIte, reduceCtorEq]; rfl
   case a16 =>
    have hp16 := hb16
    try simp only [kb] at hp16
    try simp only [hb16]
    refine aops_orunN 2 _ _ ?_
    simp only [qq, seval, -Nat.reducePow, reduceIte, reduceCtorEq, hb16]
    refine aops_call (same_fun _ _ ?s17_0) (by simp only [qq, seval, -Nat.reducePow, reduceIte, reduceCtorEq, hb16]) rfl rfl rfl (by (try simp only [qq, seval, -Nat.reducePow, reduceIte, reduceCtorEq, hb16]); (repeat' (first | exact .nil | exact wk_c | exact wk_ownc | exact wk_nilsc | exact wk_nils | exact wk_fn | refine .cons ?_ ?_ | refine wk_agg ?_ | refine wk_fnL ?_))) rfl rfl ?m17
    case s17_0 => first | assumption | omega | decide +kernel | (simp only [List.length_take, List.length_drop]; omega)
    simp only [qq, seval, -Nat.reducePow, reduceIte, reduceCtorEq, hb16]
    refine aops_orunN 2 _ _ ?_
    simp only [qq, seval, -Nat.reducePow, reduceIte, reduceCtorEq, hb16]
    refine aops_call (sameb_fun _ _ ?s18_0) (by simp only [qq, seval, -Nat.reducePow, reduceIte, reduceCtorEq, hb16]) rfl rfl rfl (by (try simp only [qq, seval, -Nat.reducePow, reduceIte, reduceCtorEq, hb16]); (repeat' (first | exact .nil | exact wk_c | exact wk_ownc | exact wk_nilsc | exact wk_nils | exact wk_fn | refine .cons ?_ ?_ | refine wk_agg ?_ | refine wk_fnL ?_))) rfl rfl ?m18
    case s18_0 => first | assumption | omega | decide +kernel | (simp only [List.length_take, List.length_drop]; omega)
    simp only [qq, seval, -Nat.reducePow, reduceIte, reduceCtorEq, hb16]
    refine aops_orunN 3 _ _ ?_
    simp only [qq, seval, -Nat.reducePow, reduceIte, reduceCtorEq, hb16]
    refine aops_part (b := ?p19) 61 ?h19 (fun hb19 => ?a19) (fun hb19 => ?b19)
    case h19 => simp only [qq, seval, -Nat.reducePow, reduceIte, reduceCtorEq, hb16]; rfl
    case a19 =>
     have hp19 := hb19
     try simp only [kb] at hp19
     try simp only [hb19]
     refine aops_orunN 5 _ _ ?_
     simp only [qq, seval, -Nat.reducePow, reduceIte, reduceCtorEq, hb16, hb19]
     refine aops_part (b := ?p20) 66 ?h20 (fun hb20 => ?a20) (fun hb20 => ?b20)
     case h20 => simp only [qq, seval, -Nat.reducePow, reduceIte, reduceCtorEq, hb16, hb19]; rfl
     case a20 =>
      have hp20 := hb20
      try simp only [kb] at hp20
      try simp only [hb20]
      refine aops_orunN 2 _ _ ?_
      simp only [qq, seval, -Nat.reducePow, reduceIte, reduceCtorEq, hb16, hb19, hb20]
      refine aops_call (sameb_fun _ _ ?s21_0) (by simp only [qq, seval, -Nat.reducePow, reduceIte, reduceCtorEq, hb16, hb19, hb20]) rfl rfl rfl (by (try simp only [qq, seval, -Nat.reducePow, reduceIte, reduceCtorEq, hb16, hb19, hb20]); (repeat' (first | exact .nil | exact wk_c | exact wk_ownc | exact wk_nilsc | exact wk_nils | exact wk_fn | refine .cons ?_ ?_ | refine wk_agg ?_ | refine wk_fnL ?_))) rfl rfl ?m21
      case s21_0 => first | assumption | omega | decide +kernel | (simp only [List.length_take, List.length_drop]; omega)
      simp only [qq, seval, -Nat.reducePow, reduceIte, reduceCtorEq, hb16, hb19, hb20]
      refine aops_orunN 2 _ _ ?_
      simp only [qq, seval, -Nat.reducePow, reduceIte, reduceCtorEq, hb16, hb19, hb20]
      refine aops_part (b := ?p22) 71 ?h22 (fun hb22 => ?a22) (fun hb22 => ?b22)
      case h22 => simp only [qq, seval, -Nat.reducePow, reduceIte, reduceCtorEq, hb16, hb19, hb20]; rfl
      case a22 =>
       have hp22 := hb22
       try simp only [kb] at hp22
       try simp only [hb22]
       refine aops_orunN 5 _ _ ?_
       simp only [qq, seval, -Nat.reducePow, reduceIte, reduceCtorEq, hb16, hb19, hb20, hb22]
       refine aops_part (b := ?p23) 76 ?h23 (fun hb23 => ?a23) (fun hb23 => ?b23)
       case h23 => simp only [qq, seval, -Nat.reducePow, reduceIte, reduceCtorEq, hb16, hb19, hb20, hb22]; rfl
       case a23 =>
        have hp23 := hb23
        try simp only [kb] at hp23
        try simp only [hb23]
        refine aops_orunN 2 _ _ ?_
        simp only [qq, seval, -Nat.reducePow, reduceIte, reduceCtorEq, hb16, hb19, hb20, hb22, hb23]
        refine aops_call (equal_pt_fun _ _ ?s24_0) (by simp only [qq, seval, -Nat.reducePow, reduceIte, reduceCtorEq, hb16, hb19, hb20, hb22, hb23]) rfl rfl rfl (by (try simp only [qq, seval, -Nat.reducePow, reduceIte, reduceCtorEq, hb16, hb19, hb20, hb22, hb23]); (repeat' (first | exact .nil | exact wk_c | exact wk_ownc | exact wk_nilsc | exact wk_nils | exact wk_fn | refine .cons ?_ ?_ | refine wk_agg ?_ | refine wk_fnL ?_))) rfl rfl ?m24
        case s24_0 => first | assumption | omega | decide +kernel | (simp only [List.length_take, List.length_drop]; omega)
        simp only [qq, seval, -Nat.reducePow, reduceIte, reduceCtorEq, hb16, hb19, hb20, hb22, hb23]
        refine aops_orunN 2 _ _ ?_
        simp only [qq, seval, -Nat.reducePow, reduceIte, reduceCtorEq, hb16, hb19, hb20, hb22, hb23]
        refine aops_part (b := ?p25) 81 ?h25 (fun hb25 => ?a25) (fun hb25 => ?b25)
        case h25 => simp only [qq, seval, -Nat.reducePow, reduceIte, reduceCtorEq, hb16, hb19, hb20, hb22, hb23]; rfl
        case a25 =>
         have hp25 := hb25
         try simp only [kb] at hp25
         try simp only [hb25]
         refine aops_orunN 5 _ _ ?_
         simp only [qq, seval, -Nat.reducePow, reduceIte, reduceCtorEq, hb16, hb19, hb20, hb22, hb23, hb25]
         refine aops_part (b := ?p26) 86 ?h26 (fun hb26 => ?a26) (fun hb26 => ?b26)
         case h26 => simp only [qq, seval, -Nat.reducePow, reduceIte, reduceCtorEq, hb16, hb19, hb20, hb22, hb23, hb25]; rfl
         case a26 =>
          have hp26 := hb26
          try simp only [kb] at hp26
          try simp only [hb26]
          refine aops_orunN 2 _ _ ?_
          simp only [qq, seval, -Nat.reducePow, reduceIte, reduceCtorEq, hb16, hb19, hb20, hb22, hb23, hb25, hb26]
          refine aops_call (sameb_fun _ _ ?s27_0) (by simp only [qq, seval, -Nat.reducePow, reduceIte, reduceCtorEq, hb16, hb19, hb20, hb22, hb23, hb25, hb26]) rfl rfl rfl (by (try simp only [qq, seval, -Nat.reducePow, reduceIte, reduceCtorEq, hb16, hb19, hb20, hb22, hb23, hb25, hb26]); (repeat' (first | exact .nil | exact wk_c | exact wk_ownc | exact wk_nilsc | exact wk_nils | exact wk_fn | refine .cons ?_ ?_ | refine wk_agg ?_ | refine wk_fnL ?_))) rfl rfl ?m27
          case s27_0 => first | assumption | omega | decide +kernel | (simp only [List.length_take, List.length_drop]; omega)
          simp only [qq, seval, -Nat.reducePow, reduceIte, reduceCtorEq, hb16, hb19, hb20, hb22, hb23, hb25, hb26]
          refine aops_orunN 2 _ _ ?_
          simp only [qq, seval, -Nat.reducePow, reduceIte, reduceCtorEq, hb16, hb19, hb20, hb22, hb23, hb25, hb26]
          refine nil_z hL14 ?_
          refine awp_ret ?_
          try simp only [rk_state]
          refine ⟨_, 0, by simp only [qq, seval, -Nat.reducePow, reduceIte, reduceCtorEq, resA, Try.results14, hb16, hb19, hb20, hb22, hb23, hb25, hb26]; rfl, ?_, nomem_a, nomem_a⟩
          simp only [packA]
          (repeat' (first | exact .nil | exact wkR_c | exact wkR_own | exact wkR_nils | refine wkR_int ?_ | refine wkR_bool ?_ | refine wkR_sl ?_ | refine wkR_osl ?_ | refine wkR_nsl ?_ | refine wkR_oo ?_ | refine wkR_no ?_ | refine .cons ?_ ?_ | refine wkR_agg ?_ | refine wkR_tup ?_))
         case b26 =>
          first | exact absurd hb26 (by decide) | (have hp26 := hb26; (try simp only [kb] at hp26); exfalso; omega)
        case b25 =>
         first | exact absurd hb25 (by decide) | (have hp25 := hb25; (try simp only [kb] at hp25); exfalso; omega)
       case b23 =>
        first | exact absurd hb23 (by decide) | (have hp23 := hb23; (try simp only [kb] at hp23); exfalso; omega)
      case b22 =>
       first | exact absurd hb22 (by decide) | (have hp22 := hb22; (try simp only [kb] at hp22); exfalso; omega)
     case b20 =>
      first | exact absurd hb20 (by decide) | (have hp20 := hb20; (try simp only [kb] at hp20); exfalso; omega)
    case b19 =>
     first | exact absurd hb19 (by decide) | (have hp19 := hb19; (try simp only [kb] at hp19); exfalso; omega)
   case b16 =>
    first | exact absurd hb16 (by decide) | (have hp16 := hb16; (try simp only [kb] at hp16); exfalso; omega)
set_option maxHeartbeats 4000000 in
set_option maxRecDepth 50000 in
theorem blockBack_fun (ps : List Pt) (j k : Int) (hn : ps.length < 4611686018427387904) : Fun Try.prog 15 [.c (.sl 34 (Rw Pt.cs ps)), .c (.int .i64 j), .c (.int .i64 k)] nomem (.c (.bool true)) nomem := by
 refine fun_of_awp Try.func15 rfl (by decide +kernel) (by decide +kernel) (Nat.le_of_ble_eq_true rfl) (fun _ _ => rfl) (fun _ _ => rfl) ?_
 refine seq_reg 1 fun L1 hL1 => ?_
 simp only [qq, seval, -Nat.reducePow, reduceIte, reduceCtorEq]
 refine nil_z hL1 ?_
 refine awp_seq_k fun K2 hK2 => ?_
 refine seq_reg0 fun L3 hL3 => ?_
 refine aops_call blocked_fun rfl rfl rfl rfl (by (try simp only [qq, seval, -Nat.reducePow, reduceIte, reduceCtorEq]); (repeat' (first | exact .nil | exact wk_c | exact wk_ownc | exact wk_nilsc | exact wk_nils | exact wk_fn | refine .cons ?_ ?_ | refine wk_agg ?_ | refine wk_fnL ?_))) rfl rfl ?_
 simp only [qq, seval, -Nat.reducePow, reduceIte, reduceCtorEq]
 refine aops_orunN 2 _ _ ?_
 simp only [qq, seval, -Nat.reducePow, reduceIte, reduceCtorEq]
 refine aops_part (b := ?p5) 24 ?h5 (fun hb5 => ?a5) (fun hb5 => ?b5)
 case h5 => simp only [qq, seval, -Nat.reducePow, reduceIte, reduceCtorEq]; rfl
 case a5 =>
  first | exact absurd hb5 (by decide) | (have hp5 := hb5; (try simp only [kb] at hp5); exfalso; omega)
 case b5 =>
  have hp5 := hb5
  try simp only [kb] at hp5
  try simp only [hb5]
  refine aops_orunN 1 _ _ ?_
  simp only [qq, seval, -Nat.reducePow, reduceIte, reduceCtorEq, hb5]
  refine aops_call (check_fun _) (by simp only [qq, seval, -Nat.reducePow, reduceIte, reduceCtorEq, hb5]) rfl rfl rfl (by (try simp only [qq, seval, -Nat.reducePow, reduceIte, reduceCtorEq, hb5]); (repeat' (first | exact .nil | exact wk_c | exact wk_ownc | exact wk_nilsc | exact wk_nils | exact wk_fn | refine .cons ?_ ?_ | refine wk_agg ?_ | refine wk_fnL ?_))) rfl rfl ?_
  simp only [qq, seval, -Nat.reducePow, reduceIte, reduceCtorEq, hb5]
  refine aops_orunN 3 _ _ ?_
  simp only [qq, seval, -Nat.reducePow, reduceIte, reduceCtorEq, hb5]
  refine aops_part (b := ?p7) 29 ?h7 (fun hb7 => ?a7) (fun hb7 => ?b7)
  case h7 => simp only [qq, seval, -Nat.reducePow, reduceIte, reduceCtorEq, hb5]; rfl
  case a7 =>
   have hp7 := hb7
   try simp only [kb] at hp7
   try simp only [hb7]
   refine aops_orunN 4 _ _ ?_
   simp only [qq, seval, -Nat.reducePow, reduceIte, reduceCtorEq, hb5, hb7]
   refine nil_z hL3 ?_
   refine awp_cond (t := true) (by simp only [qq, seval, -Nat.reducePow, reduceIte, reduceCtorEq, hb5, hb7]) (fun _ => ?_) (fun h => ?_)
   case refine_2 => cases h
   refine seq_reg0 fun L8 hL8 => ?_
   refine aops_call blocked_fun rfl rfl rfl rfl (by (try simp only [qq, seval, -Nat.reducePow, reduceIte, reduceCtorEq, hb5, hb7]); (repeat' (first | exact .nil | exact wk_c | exact wk_ownc | exact wk_nilsc | exact wk_nils | exact wk_fn | refine .cons ?_ ?_ | refine wk_agg ?_ | refine wk_fnL ?_))) rfl rfl ?_
   simp only [qq, seval, -Nat.reducePow, reduceIte, reduceCtorEq, hb5, hb7]
   refine aops_orunN 1 _ _ ?_
   simp only [qq, seval, -Nat.reducePow, reduceIte, reduceCtorEq, hb5, hb7]
   refine nil_z hL8 ?_
   as_aux_lemma =>
    refine awp_ret ?_
    try simp only [rk_state]
    refine ⟨_, 0, by simp only [qq, seval, -Nat.reducePow, reduceIte, reduceCtorEq, resA, Try.results15, hb5, hb7]; rfl, ?_, nomem_a, nomem_a⟩
    simp only [packA]
    (repeat' (first | exact .nil | exact wkR_c | exact wkR_own | exact wkR_nils | refine wkR_int ?_ | refine wkR_bool ?_ | refine wkR_sl ?_ | refine wkR_osl ?_ | refine wkR_nsl ?_ | refine wkR_oo ?_ | refine wkR_no ?_ | refine .cons ?_ ?_ | refine wkR_agg ?_ | refine wkR_tup ?_))
  case b7 =>
   have hp7 := hb7
   try simp only [kb] at hp7
   try simp only [hb7]
   refine aops_orunN 4 _ _ ?_
   simp only [qq, seval, -Nat.reducePow, reduceIte, reduceCtorEq, hb5, hb7]
   refine nil_z hL3 ?_
   refine awp_cond (t := ?t10) ?h10 (fun hb10 => ?a10) (fun hb10 => ?b10)
   case h10 => simp only [qq, seval, -Nat.reducePow, reduceIte, reduceCtorEq, hb5, hb7]; rfl
   case a10 =>
    have hp10 := hb10
    try simp only [kb] at hp10
    refine seq_reg0 fun L11 hL11 => ?_
    refine aops_call blocked_fun rfl rfl rfl rfl (by (try simp only [qq, seval, -Nat.reducePow, reduceIte, reduceCtorEq, hb5, hb7, hb10]); (repeat' (first | exact .nil | exact wk_c | exact wk_ownc | exact wk_nilsc | exact wk_nils | exact wk_fn | refine .cons ?_ ?_ | refine wk_agg ?_ | refine wk_fnL ?_))) rfl rfl ?_
    simp only [qq, seval, -Nat.reducePow, reduceIte, reduceCtorEq, hb5, hb7, hb10]
    refine aops_orunN 1 _ _ ?_
    simp only [qq, seval, -Nat.reducePow, reduceIte, reduceCtorEq, hb5, hb7, hb10]
    refine nil_z hL11 ?_
    refine awp_ret ?_
    try simp only [rk_state]
    refine ⟨_, 0, by simp only [qq, seval, -Nat.reducePow, reduceIte, reduceCtorEq, resA, Try.results15, hb5, hb7, hb10]; rfl, ?_, nomem_a, nomem_a⟩
    simp only [packA]
    (repeat' (first | exact .nil | exact wkR_c | exact wkR_own | exact wkR_nils | refine wkR_int ?_ | refine wkR_bool ?_ | refine wkR_sl ?_ | refine wkR_osl ?_ | refine wkR_nsl ?_ | refine wkR_oo ?_ | refine wkR_no ?_ | refine .cons ?_ ?_ | refine wkR_agg ?_ | refine wkR_tup ?_))
   case b10 =>
    have hp10 := hb10
    try simp only [kb] at hp10
    refine awp_skip ?_
    refine hK2 _ ?_
    have hck : checkL ps = 0 := by omega
    have hcl := checkL_len hck
    have hj0 := Int.emod_nonneg j (show (ps.length : Int) - 2 ≠ 0 by omega)
    have hj1 := Int.emod_lt_of_pos j (show (0 : Int) < (ps.length : Int) - 2 by omega)
    obtain ⟨Ja, hJa⟩ : ∃ Ja : Nat, 1 + j % ((ps.length : Int) - 2) = (Ja : Int) := ⟨(1 + j % ((ps.length : Int) - 2)).toNat, by omega⟩
    have sJ := hJa
    refine seq_reg 3 fun L13 hL13 => ?_
    simp only [qq, seval, -Nat.reducePow, reduceIte, reduceCtorEq, hb5, hb7, hb10, sJ]
    refine aops_val (v := ?v14) rfl ?h14 ?_
    case h14 => simp only [qq, seval, -Nat.reducePow, reduceIte, reduceCtorEq, hb5, hb7, hb10, sJ]; first | (rw [wr_id] <;> omega) | rfl
    simp only [qq, seval, -Nat.reducePow, reduceIte, reduceCtorEq, hb5, hb7, hb10, sJ]
    refine aops_call (at_fun _ _ ?s15_0 ?s15_1) rfl rfl rfl rfl (by (try simp only [qq, seval, -Nat.reducePow, reduceIte, reduceCtorEq, hb5, hb7, hb10, sJ]); (repeat' (first | exact .nil | exact wk_c | exact wk_ownc | exact wk_nilsc | exact wk_nils | exact wk_fn | refine .cons ?_ ?_ | refine wk_agg ?_ | refine wk_fnL ?_))) rfl rfl ?m15
    case s15_0 => omega
    case s15_1 => omega
    simp only [qq, seval, -Nat.reducePow, reduceIte, reduceCtorEq, hb5, hb7, hb10, sJ]
    refine aops_val (v := ?v16) rfl ?h16 ?_
    case h16 => simp only [qq, seval, -Nat.reducePow, reduceIte, reduceCtorEq, hb5, hb7, hb10, sJ]; first | (rw [wr_id] <;> omega) | rfl
    simp only [qq, seval, -Nat.reducePow, reduceIte, reduceCtorEq, hb5, hb7, hb10, sJ]
    refine aops_orunN 1 _ _ ?_
    simp only [qq, seval, -Nat.reducePow, reduceIte, reduceCtorEq, hb5, hb7, hb10, sJ]
    refine nil_z hL13 ?_
    have hk0 := Int.emod_nonneg k (show (ps.length : Int) - Ja - 1 ≠ 0 by omega)
    have hk1 := Int.emod_lt_of_pos k (show (0 : Int) < (ps.length : Int) - Ja - 1 by omega)
    obtain ⟨Ka, hKa⟩ : ∃ Ka : Nat, (Ja : Int) + 1 + k % ((ps.length : Int) - Ja - 1) = (Ka : Int) := ⟨((Ja : Int) + 1 + k % ((ps.length : Int) - Ja - 1)).toNat, by omega⟩
    have sK := hKa
    refine seq_reg 1 fun L17 hL17 => ?_
    simp only [qq, seval, -Nat.reducePow, reduceIte, reduceCtorEq, hb5, hb7, hb10, sJ, sK]
    refine aops_val (v := ?v18) rfl ?h18 ?_
    case h18 => simp only [qq, seval, -Nat.reducePow, reduceIte, reduceCtorEq, hb5, hb7, hb10, sJ, sK]; first | (rw [wr_id] <;> omega) | rfl
    simp only [qq, seval, -Nat.reducePow, reduceIte, reduceCtorEq, hb5, hb7, hb10, sJ, sK]
    refine aops_orunN 4 _ _ ?_
    simp only [qq, seval, -Nat.reducePow, reduceIte, reduceCtorEq, hb5, hb7, hb10, sJ, sK]
    refine aops_val (v := ?v19) rfl ?h19 ?_
    case h19 => simp only [qq, seval, -Nat.reducePow, reduceIte, reduceCtorEq, hb5, hb7, hb10, sJ, sK]; first | (rw [wr_id] <;> omega) | rfl
    simp only [qq, seval, -Nat.reducePow, reduceIte, reduceCtorEq, hb5, hb7, hb10, sJ, sK]
    refine aops_val (v := ?v20) rfl ?h20 ?_
    case h20 => simp only [qq, seval, -Nat.reducePow, reduceIte, reduceCtorEq, hb5, hb7, hb10, sJ, sK]; first | (rw [wr_id] <;> omega) | rfl
    simp only [qq, seval, -Nat.reducePow, reduceIte, reduceCtorEq, hb5, hb7, hb10, sJ, sK]
    refine aops_call (at_fun _ _ ?s21_0 ?s21_1) rfl rfl rfl rfl (by (try simp only [qq, seval, -Nat.reducePow, reduceIte, reduceCtorEq, hb5, hb7, hb10, sJ, sK]); (repeat' (first | exact .nil | exact wk_c | exact wk_ownc | exact wk_nilsc | exact wk_nils | exact wk_fn | refine .cons ?_ ?_ | refine wk_agg ?_ | refine wk_fnL ?_))) rfl rfl ?m21
    case s21_0 => omega
    case s21_1 => omega
    simp only [qq, seval, -Nat.reducePow, reduceIte, reduceCtorEq, hb5, hb7, hb10, sJ, sK]
    refine aops_val (v := ?v22) rfl ?h22 ?_
    case h22 => simp only [qq, seval, -Nat.reducePow, reduceIte, reduceCtorEq, hb5, hb7, hb10, sJ, sK]; first | (rw [wr_id] <;> omega) | rfl
    simp only [qq, seval, -Nat.reducePow, reduceIte, reduceCtorEq, hb5, hb7, hb10, sJ, sK]
    refine aops_orunN 1 _ _ ?_
    simp only [qq, seval, -Nat.reducePow, reduceIte, reduceCtorEq, hb5, hb7, hb10, sJ, sK]
    refine nil_z hL17 ?_
    as_aux_lemma =>
     have hbp := block_parts hck (j := Ja) (k := Ka) (by omega) (by omega) (by omega)
     have s1 := hbp.1
     have s2 := hbp.2.1
     have s3 := hbp.2.2.1
     have s4 := hbp.2.2.2.1
     have s5 := hbp.2.2.2.2.1
     have s6 := hbp.2.2.2.2.2.1
     have s7 := hbp.2.2.2.2.2.2.1
     have s8 := hbp.2.2.2.2.2.2.2.1
     have s9 := hbp.2.2.2.2.2.2.2.2
     have hg0 := mkB_bits (l := (ps.take Ja)) (by (simp only [List.length_take, List.length_drop]); omega)
     have hg1 := mkB_bits (l := ((ps.take Ka).drop Ja)) (by (simp only [List.length_take, List.length_drop]); omega)
     have hg2 := mkB_bits (l := (ps.drop Ka)) (by (simp only [List.length_take, List.length_drop]); omega)
     have hg3 := mkB_bits (l := (ps.take Ka)) (by (simp only [List.length_take, List.length_drop]); omega)
     have hg4 := mkB_bits (l := (ps.drop Ja)) (by (simp only [List.length_take, List.length_drop]); omega)
     have hg5 := mkB_bits (l := ps) hcl
     refine seq_reg 2 fun L23 hL23 => ?_
     simp only [qq, seval, -Nat.reducePow, reduceIte, reduceCtorEq, hb5, hb7, hb10, sJ, sK, s1, s2, s3, s4, s5, s6, s7, s8, s9]
     refine aops_val (v := ?v24) rfl ?h24 ?_
     case h24 => simp only [qq, seval, -Nat.reducePow, reduceIte, reduceCtorEq, hb5, hb7, hb10, sJ, sK, s1, s2, s3, s4, s5, s6, s7, s8, s9]; first | (rw [slc_h un22 if34] <;> omega) | (rw [slc_ho un22 if34] <;> omega)
     simp only [qq, seval, -Nat.reducePow, reduceIte, reduceCtorEq, hb5, hb7, hb10, sJ, sK, s1, s2, s3, s4, s5, s6, s7, s8, s9]
     refine aops_call (make_fun _ ?s25_0) rfl rfl rfl rfl (by (try simp only [qq, seval, -Nat.reducePow, reduceIte, reduceCtorEq, hb5, hb7, hb10, sJ, sK, s1, s2, s3, s4, s5, s6, s7, s8, s9]); (repeat' (first | exact .nil | exact wk_c | exact wk_ownc | exact wk_nilsc | exact wk_nils | exact wk_fn | refine .cons ?_ ?_ | refine wk_agg ?_ | refine wk_fnL ?_))) rfl rfl ?m25
     case s25_0 => first | assumption | omega | decide +kernel | (simp only [List.length_take, List.length_drop]; omega)
     simp only [qq, seval, -Nat.reducePow, reduceIte, reduceCtorEq, hb5, hb7, hb10, sJ, sK, s1, s2, s3, s4, s5, s6, s7, s8, s9]
     refine aops_orunN 6 _ _ ?_
     simp only [qq, seval, -Nat.reducePow, reduceIte, reduceCtorEq, hb5, hb7, hb10, sJ, sK, s1, s2, s3, s4, s5, s6, s7, s8, s9]
     refine nil_z hL23 ?_
     refine seq_reg 3 fun L26 hL26 => ?_
     simp only [qq, seval, -Nat.reducePow, reduceIte, reduceCtorEq, hb5, hb7, hb10, sJ, sK, s1, s2, s3, s4, s5, s6, s7, s8, s9]
     refine aops_val (v := ?v27) rfl ?h27 ?_
     case h27 => simp only [qq, seval, -Nat.reducePow, reduceIte, reduceCtorEq, hb5, hb7, hb10, sJ, sK, s1, s2, s3, s4, s5, s6, s7, s8, s9]; first | (rw [slc_lh un22 if34] <;> omega) | (rw [slc_lho un22 if34] <;> omega)
     simp only [qq, seval, -Nat.reducePow, reduceIte, reduceCtorEq, hb5, hb7, hb10, sJ, sK, s1, s2, s3, s4, s5, s6, s7, s8, s9]
     refine aops_call (make_fun _ ?s28_0) rfl rfl rfl rfl (by (try simp only [qq, seval, -Nat.reducePow, reduceIte, reduceCtorEq, hb5, hb7, hb10, sJ, sK, s1, s2, s3, s4, s5, s6, s7, s8, s9]); (repeat' (first | exact .nil | exact wk_c | exact wk_ownc | exact wk_nilsc | exact wk_nils | exact wk_fn | refine .cons ?_ ?_ | refine wk_agg ?_ | refine wk_fnL ?_))) rfl rfl ?m28
     case s28_0 => first | assumption | omega | decide +kernel | (simp only [List.length_take, List.length_drop]; omega)
     simp only [qq, seval, -Nat.reducePow, reduceIte, reduceCtorEq, hb5, hb7, hb10, sJ, sK, s1, s2, s3, s4, s5, s6, s7, s8, s9]
     refine aops_orunN 6 _ _ ?_
     simp only [qq, seval, -Nat.reducePow, reduceIte, reduceCtorEq, hb5, hb7, hb10, sJ, sK, s1, s2, s3, s4, s5, s6, s7, s8, s9]
     refine nil_z hL26 ?_
     refine seq_reg 2 fun L29 hL29 => ?_
     simp only [qq, seval, -Nat.reducePow, reduceIte, reduceCtorEq, hb5, hb7, hb10, sJ, sK, s1, s2, s3, s4, s5, s6, s7, s8, s9]
     refine aops_val (v := ?v30) rfl ?h30 ?_
     case h30 => simp only [qq, seval, -Nat.reducePow, reduceIte, reduceCtorEq, hb5, hb7, hb10, sJ, sK, s1, s2, s3, s4, s5, s6, s7, s8, s9]; first | (rw [slc_l un22 if34] <;> omega) | (rw [slc_lo un22 if34] <;> omega)
     simp only [qq, seval, -Nat.reducePow, reduceIte, reduceCtorEq, hb5, hb7, hb10, sJ, sK, s1, s2, s3, s4, s5, s6, s7, s8, s9]
     refine aops_call (make_fun _ ?s31_0) rfl rfl rfl rfl (by (try simp only [qq, seval, -Nat.reducePow, reduceIte, reduceCtorEq, hb5, hb7, hb10, sJ, sK, s1, s2, s3, s4, s5, s6, s7, s8, s9]); (repeat' (first | exact .nil | exact wk_c | exact wk_ownc | exact wk_nilsc | exact wk_nils | exact wk_fn | refine .cons ?_ ?_ | refine wk_agg ?_ | refine wk_fnL ?_))) rfl rfl ?m31
     case s31_0 => first | assumption | omega | decide +kernel | (simp only [List.length_take, List.length_drop]; omega)
     simp only [qq, seval, -Nat.reducePow, reduceIte, reduceCtorEq, hb5, hb7, hb10, sJ, sK, s1, s2, s3, s4, s5, s6, s7, s8, s9]
     refine aops_orunN 6 _ _ ?_
     simp only [qq, seval, -Nat.reducePow, reduceIte, reduceCtorEq, hb5, hb7, hb10, sJ, sK, s1, s2, s3, s4, s5, s6, s7, s8, s9]
     refine nil_z hL29 ?_
     as_aux_lemma =>
      refine awp_seq_k fun K32 hK32 => ?_
      refine seq_reg 3 fun L33 hL33 => ?_
      simp only [qq, seval, -Nat.reducePow, reduceIte, reduceCtorEq, hb5, hb7, hb10, sJ, sK, s1, s2, s3, s4, s5, s6, s7, s8, s9]
      refine aops_part (b := ?p34) 75 ?h34 (fun hb34 => ?a34) (fun hb34 => ?b34)
      case h34 => simp only [qq, seval, -Nat.reducePow, reduceIte, reduceCtorEq, hb5, hb7, hb10, sJ, sK, s1, s2, s3, s4, s5, s6, s7, s8, s9]; rfl
      case a34 =>
       first | exact absurd hb34 (by decide) | (have hp34 := hb34; (try simp only [kb] at hp34); exfalso; omega)
      case b34 =>
       have hp34 := hb34
       try simp only [kb] at hp34
       try simp only [hb34]
       refine aops_orunN 4 _ _ ?_
       simp only [qq, seval, -Nat.reducePow, reduceIte, reduceCtorEq, hb5, hb7, hb10, sJ, sK, s1, s2, s3, s4, s5, s6, s7, s8, s9, hb34]
       refine aops_part (b := ?p35) 79 ?h35 (fun hb35 => ?a35) (fun hb35 => ?b35)
       case h35 => simp only [qq, seval, -Nat.reducePow, reduceIte, reduceCtorEq, hb5, hb7, hb10, sJ, sK, s1, s2, s3, s4, s5, s6, s7, s8, s9, hb34]; rfl
       case a35 =>
        first | exact absurd hb35 (by decide) | (have hp35 := hb35; (try simp only [kb] at hp35); exfalso; omega)
       case b35 =>
        have hp35 := hb35
        try simp only [kb] at hp35
        try simp only [hb35]
        refine aops_orunN 3 _ _ ?_
        simp only [qq, seval, -Nat.reducePow, reduceIte, reduceCtorEq, hb5, hb7, hb10, sJ, sK, s1, s2, s3, s4, s5, s6, s7, s8, s9, hb34, hb35]
        refine nil_z hL33 ?_
        refine awp_cond (t := ?t36) ?h36 (fun hb36 => ?a36) (fun hb36 => ?b36)
        case h36 => simp only [qq, seval, -Nat.reducePow, reduceIte, reduceCtorEq, hb5, hb7, hb10, sJ, sK, s1, s2, s3, s4, s5, s6, s7, s8, s9, hb34, hb35]; rfl
        case a36 =>
         first | exact absurd hb36 (by decide) | (have hp36 := hb36; (try simp only [kb] at hp36); exfalso; omega)
        case b36 =>
         have hp36 := hb36
         try simp only [kb] at hp36
         refine awp_skip ?_
         refine hK32 _ ?_
         refine seq_reg 2 fun L37 hL37 => ?_
         simp only [qq, seval, -Nat.reducePow, reduceIte, reduceCtorEq, hb5, hb7, hb10, sJ, sK, s1, s2, s3, s4, s5, s6, s7, s8, s9, hb34, hb35, hb36]
         refine aops_call (merge_fun _ _ ?s38_0 ?s38_1) rfl rfl rfl rfl (by (try simp only [qq, seval, -Nat.reducePow, reduceIte, reduceCtorEq, hb5, hb7, hb10, sJ, sK, s1, s2, s3, s4, s5, s6, s7, s8, s9, hb34, hb35, hb36]); (repeat' (first | exact .nil | exact wk_c | exact wk_ownc | exact wk_nilsc | exact wk_nils | exact wk_fn | refine .cons ?_ ?_ | refine wk_agg ?_ | refine wk_fnL ?_))) rfl rfl ?m38
         case s38_0 => first | assumption | omega | decide +kernel | (simp only [List.length_take, List.length_drop]; omega)
         case s38_1 => first | assumption | omega | decide +kernel | (simp only [List.length_take, List.length_drop]; omega)
         simp only [qq, seval, -Nat.reducePow, reduceIte, reduceCtorEq, hb5, hb7, hb10, sJ, sK, s1, s2, s3, s4, s5, s6, s7, s8, s9, hb34, hb35, hb36]
         refine aops_orunN 6 _ _ ?_
         simp only [qq, seval, -Nat.reducePow, reduceIte, reduceCtorEq, hb5, hb7, hb10, sJ, sK, s1, s2, s3, s4, s5, s6, s7, s8, s9, hb34, hb35, hb36]
         refine nil_z hL37 ?_
         refine seq_reg 2 fun L39 hL39 => ?_
         simp only [qq, seval, -Nat.reducePow, reduceIte, reduceCtorEq, hb5, hb7, hb10, sJ, sK, s1, s2, s3, s4, s5, s6, s7, s8, s9, hb34, hb35, hb36]
         refine aops_call (merge_fun _ _ ?s40_0 ?s40_1) rfl rfl rfl rfl (by (try simp only [qq, seval, -Nat.reducePow, reduceIte, reduceCtorEq, hb5, hb7, hb10, sJ, sK, s1, s2, s3, s4, s5, s6, s7, s8, s9, hb34, hb35, hb36]); (repeat' (first | exact .nil | exact wk_c | exact wk_ownc | exact wk_nilsc | exact wk_nils | exact wk_fn | refine .cons ?_ ?_ | refine wk_agg ?_ | refine wk_fnL ?_))) rfl rfl ?m40
         case s40_0 => first | assumption | omega | decide +kernel | (simp only [List.length_take, List.length_drop]; omega)
         case s40_1 => first | assumption | omega | decide +kernel | (simp only [List.length_take, List.length_drop]; omega)
         simp only [qq, seval, -Nat.reducePow, reduceIte, reduceCtorEq, hb5, hb7, hb10, sJ, sK, s1, s2, s3, s4, s5, s6, s7, s8, s9, hb34, hb35, hb36]
         refine aops_orunN 6 _ _ ?_
         simp only [qq, seval, -Nat.reducePow, reduceIte, reduceCtorEq, hb5, hb7, hb10, sJ, sK, s1, s2, s3, s4, s5, s6, s7, s8, s9, hb34, hb35, hb36]
         refine nil_z hL39 ?_
         as_aux_lemma =>
          refine seq_reg 2 fun L41 hL41 => ?_
          simp only [qq, seval, -Nat.reducePow, reduceIte, reduceCtorEq, hb5, hb7, hb10, sJ, sK, s1, s2, s3, s4, s5, s6, s7, s8, s9, hb34, hb35, hb36]
          refine aops_call (merge_fun _ _ ?s42_0 ?s42_1) rfl rfl rfl rfl (by (try simp only [qq, seval, -Nat.reducePow, reduceIte, reduceCtorEq, hb5, hb7, hb10, sJ, sK, s1, s2, s3, s4, s5, s6, s7, s8, s9, hb34, hb35, hb36]); (repeat' (first | exact .nil | exact wk_c | exact wk_ownc | exact wk_nilsc | exact wk_nils | exact wk_fn | refine .cons ?_ ?_ | refine wk_agg ?_ | refine wk_fnL ?_))) rfl rfl ?m42
          case s42_0 => first | assumption | omega | decide +kernel | (simp only [List.length_take, List.length_drop]; omega)
          case s42_1 => first | assumption | omega | decide +kernel | (simp only [List.length_take, List.length_drop]; omega)
          simp only [qq, seval, -Nat.reducePow, reduceIte, reduceCtorEq, hb5, hb7, hb10, sJ, sK, s1, s2, s3, s4, s5, s6, s7, s8, s9, hb34, hb35, hb36]
          refine aops_orunN 6 _ _ ?_
          simp only [qq, seval, -Nat.reducePow, reduceIte, reduceCtorEq, hb5, hb7, hb10, sJ, sK, s1, s2, s3, s4, s5, s6, s7, s8, s9, hb34, hb35, hb36]
          refine nil_z hL41 ?_
          refine seq_reg 2 fun L43 hL43 => ?_
          simp only [qq, seval, -Nat.reducePow, reduceIte, reduceCtorEq, hb5, hb7, hb10, sJ, sK, s1, s2, s3, s4, s5, s6, s7, s8, s9, hb34, hb35, hb36]
          refine aops_call (merge_fun _ _ ?s44_0 ?s44_1) rfl rfl rfl rfl (by (try simp only [qq, seval, -Nat.reducePow, reduceIte, reduceCtorEq, hb5, hb7, hb10, sJ, sK, s1, s2, s3, s4, s5, s6, s7, s8, s9, hb34, hb35, hb36]); (repeat' (first | exact .nil | exact wk_c | exact wk_ownc | exact wk_nilsc | exact wk_nils | exact wk_fn | refine .cons ?_ ?_ | refine wk_agg ?_ | refine wk_fnL ?_))) rfl rfl ?m44
          case s44_0 => first | assumption | omega | decide +kernel | (simp only [List.length_take, List.length_drop]; omega)
          case s44_1 => first | assumption | omega | decide +kernel | (simp only [List.length_take, List.length_drop]; omega)
          simp only [qq, seval, -Nat.reducePow, reduceIte, reduceCtorEq, hb5, hb7, hb10, sJ, sK, s1, s2, s3, s4, s5, s6, s7, s8, s9, hb34, hb35, hb36]
          refine aops_orunN 6 _ _ ?_
          simp only [qq, seval, -Nat.reducePow, reduceIte, reduceCtorEq, hb5, hb7, hb10, sJ, sK, s1, s2, s3, s4, s5, s6, s7, s8, s9, hb34, hb35, hb36]
          refine nil_z hL43 ?_
          refine seq_reg 1 fun L45 hL45 => ?_
          simp only [qq, seval, -Nat.reducePow, reduceIte, reduceCtorEq, hb5, hb7, hb10, sJ, sK, s1, s2, s3, s4, s5, s6, s7, s8, s9, hb34, hb35, hb36]
          refine aops_call (make_fun _ ?s46_0) rfl rfl rfl rfl (by (try simp only [qq, seval, -Nat.reducePow, reduceIte, reduceCtorEq, hb5, hb7, hb10, sJ, sK, s1, s2, s3, s4, s5, s6, s7, s8, s9, hb34, hb35, hb36]); (repeat' (first | exact .nil | exact wk_c | exact wk_ownc | exact wk_nilsc | exact wk_nils | exact wk_fn | refine .cons ?_ ?_ | refine wk_agg ?_ | refine wk_fnL ?_))) rfl rfl ?m46
          case s46_0 => first | assumption | omega | decide +kernel | (simp only [List.length_take, List.length_drop]; omega)
          simp only [qq, seval, -Nat.reducePow, reduceIte, reduceCtorEq, hb5, hb7, hb10, sJ, sK, s1, s2, s3, s4, s5, s6, s7, s8, s9, hb34, hb35, hb36]
          refine aops_orunN 6 _ _ ?_
          simp only [qq, seval, -Nat.reducePow, reduceIte, reduceCtorEq, hb5, hb7, hb10, sJ, sK, s1, s2, s3, s4, s5, s6, s7, s8, s9, hb34, hb35, hb36]
          refine nil_z hL45 ?_
          as_aux_lemma =>
           refine seq_reg 1 fun L47 hL47 => ?_
           simp only [qq, seval, -Nat.reducePow, reduceIte, reduceCtorEq, hb5, hb7, hb10, sJ, sK, s1, s2, s3, s4, s5, s6, s7, s8, s9, hb34, hb35, hb36]
           refine aops_call_own (pts_fun _ ?s48_0) rfl rfl rfl rfl (by (try simp only [qq, seval, -Nat.reducePow, reduceIte, reduceCtorEq, hb5, hb7, hb10, sJ, sK, s1, s2, s3, s4, s5, s6, s7, s8, s9, hb34, hb35, hb36]); (repeat' (first | exact .nil | exact wk_c | exact wk_ownc | exact wk_nilsc | exact wk_nils | exact wk_fn | refine .cons ?_ ?_ | refine wk_agg ?_ | refine wk_fnL ?_))) rfl rfl rfl (by simp only [qq, seval, -Nat.reducePow, reduceIte, reduceCtorEq, hb5, hb7, hb10, sJ, sK, s1, s2, s3, s4, s5, s6, s7, s8, s9, hb34, hb35, hb36]) ?m48
           case s48_0 => first | assumption | omega | decide +kernel | (simp only [List.length_take, List.length_drop]; omega)
           simp only [qq, seval, -Nat.reducePow, reduceIte, reduceCtorEq, AV.setOwn, AV.setOwn1, hb5, hb7, hb10, sJ, sK, s1, s2, s3, s4, s5, s6, s7, s8, s9, hb34, hb35, hb36]
           refine aops_orunN 5 _ _ ?_
           simp only [qq, seval, -Nat.reducePow, reduceIte, reduceCtorEq, hb5, hb7, hb10, sJ, sK, s1, s2, s3, s4, s5, s6, s7, s8, s9, hb34, hb35, hb36]
           refine aops_nil (hL47 _ ?_)
           simp only [qq, seval, -Nat.reducePow, reduceIte, reduceCtorEq, hb5, hb7, hb10, sJ, sK, s1, s2, s3, s4, s5, s6, s7, s8, s9, hb34, hb35, hb36]
           refine seq_reg 3 fun L49 hL49 => ?_
           simp only [qq, seval, -Nat.reducePow, reduceIte, reduceCtorEq, hb5, hb7, hb10, sJ, sK, s1, s2, s3, s4, s5, s6, s7, s8, s9, hb34, hb35, hb36]
           refine aops_part (b := ?p50) 119 ?h50 (fun hb50 => ?a50) (fun hb50 => ?b50)
           case h50 => simp only [qq, seval, -Nat.reducePow, reduceIte, reduceCtorEq, hb5, hb7, hb10, sJ, sK, s1, s2, s3, s4, s5, s6, s7, s8, s9, hb34, hb35, hb36]; rfl
           case a50 =>
            have hp50 := hb50
            try simp only [kb] at hp50
            try simp only [hb50]
            refine aops_orunN 4 _ _ ?_
            simp only [qq, seval, -Nat.reducePow, reduceIte, reduceCtorEq, hb5, hb7, hb10, sJ, sK, s1, s2, s3, s4, s5, s6, s7, s8, s9, hb34, hb35, hb36, hb50]
            refine aops_part (b := ?p51) 123 ?h51 (fun hb51 => ?a51) (fun hb51 => ?b51)
            case h51 => simp only [qq, seval, -Nat.reducePow, reduceIte, reduceCtorEq, hb5, hb7, hb10, sJ, sK, s1, s2, s3, s4, s5, s6, s7, s8, s9, hb34, hb35, hb36, hb50]; rfl
            case a51 =>
             have hp51 := hb51
             try simp only [kb] at hp51
             try simp only [hb51]
             refine aops_orunN 4 _ _ ?_
             simp only [qq, seval, -Nat.reducePow, reduceIte, reduceCtorEq, hb5, hb7, hb10, sJ, sK, s1, s2, s3, s4, s5, s6, s7, s8, s9, hb34, hb35, hb36, hb50, hb51]
             refine aops_part (b := ?p52) 127 ?h52 (fun hb52 => ?a52) (fun hb52 => ?b52)
             case h52 => simp only [qq, seval, -Nat.reducePow, reduceIte, reduceCtorEq, hb5, hb7, hb10, sJ, sK, s1, s2, s3, s4, s5, s6, s7, s8, s9, hb34, hb35, hb36, hb50, hb51]; rfl
             case a52 =>
              have hp52 := hb52
              try simp only [kb] at hp52
              try simp only [hb52]
              refine aops_orunN 4 _ _ ?_
              simp only [qq, seval, -Nat.reducePow, reduceIte, reduceCtorEq, hb5, hb7, hb10, sJ, sK, s1, s2, s3, s4, s5, s6, s7, s8, s9, hb34, hb35, hb36, hb50, hb51, hb52]
              refine aops_part (b := ?p53) 131 ?h53 (fun hb53 => ?a53) (fun hb53 => ?b53)
              case h53 => simp only [qq, seval, -Nat.reducePow, reduceIte, reduceCtorEq, hb5, hb7, hb10, sJ, sK, s1, s2, s3, s4, s5, s6, s7, s8, s9, hb34, hb35, hb36, hb50, hb51, hb52]; rfl
              case a53 =>
               have hp53 := hb53
               try simp only [kb] at hp53
               try simp only [hb53]
               refine aops_orunN 4 _ _ ?_
               simp only [qq, seval, -Nat.reducePow, reduceIte, reduceCtorEq, hb5, hb7, hb10, sJ, sK, s1, s2, s3, s4, s5, s6, s7, s8, s9, hb34, hb35, hb36, hb50, hb51, hb52, hb53]
               refine aops_part (b := ?p54) 135 ?h54 (fun hb54 => ?a54) (fun hb54 => ?b54)
               case h54 => simp only [qq, seval, -Nat.reducePow, reduceIte, reduceCtorEq, hb5, hb7, hb10, sJ, sK, s1, s2, s3, s4, s5, s6, s7, s8, s9, hb34, hb35, hb36, hb50, hb51, hb52, hb53]; rfl
               case a54 =>
                have hp54 := hb54
                try simp only [kb] at hp54
                try simp only [hb54]
                refine aops_orunN 4 _ _ ?_
                simp only [qq, seval, -Nat.reducePow, reduceIte, reduceCtorEq, hb5, hb7, hb10, sJ, sK, s1, s2, s3, s4, s5, s6, s7, s8, s9, hb34, hb35, hb36, hb50, hb51, hb52, hb53, hb54]
                refine aops_part (b := ?p55) 139 ?h55 (fun hb55 => ?a55) (fun hb55 => ?b55)
                case h55 => simp only [qq, seval, -Nat.reducePow, reduceIte, reduceCtorEq, hb5, hb7, hb10, sJ, sK, s1, s2, s3, s4, s5, s6, s7, s8, s9, hb34, hb35, hb36, hb50, hb51, hb52, hb53, hb54]; rfl
                case a55 =>
                 have hp55 := hb55
                 try simp only [kb] at hp55
                 try simp only [hb55]
                 refine aops_orunN 2 _ _ ?_
                 simp only [qq, seval, -Nat.reducePow, reduceIte, reduceCtorEq, hb5, hb7, hb10, sJ, sK, s1, s2, s3, s4, s5, s6, s7, s8, s9, hb34, hb35, hb36, hb50, hb51, hb52, hb53, hb54, hb55]
                 refine aops_call (same_fun _ _ ?s56_0) (by simp only [qq, seval, -Nat.reducePow, reduceIte, reduceCtorEq, hb5, hb7, hb10, sJ, sK, s1, s2, s3, s4, s5, s6, s7, s8, s9, hb34, hb35, hb36, hb50, hb51, hb52, hb53, hb54, hb55]) rfl rfl rfl (by (try simp only [qq, seval, -Nat.reducePow, reduceIte, reduceCtorEq, hb5, hb7, hb10, sJ, sK, s1, s2, s3, s4, s5, s6, s7, s8, s9, hb34, hb35, hb36, hb50, hb51, hb52, hb53, hb54, hb55]); (repeat' (first | exact .nil | exact wk_c | exact wk_ownc | exact wk_nilsc | exact wk_nils | exact wk_fn | refine .cons ?_ ?_ | refine wk_agg ?_ | refine wk_fnL ?_))) rfl rfl ?m56
                 case s56_0 => first | assumption | omega | decide +kernel | (simp only [List.length_take, List.length_drop]; omega)
                 simp only [qq, seval, -Nat.reducePow, reduceIte, reduceCtorEq, hb5, hb7, hb10, sJ, sK, s1, s2, s3, s4, s5, s6, s7, s8, s9, hb34, hb35, hb36, hb50, hb51, hb52, hb53, hb54, hb55]
                 refine aops_orunN 2 _ _ ?_
                 simp only [qq, seval, -Nat.reducePow, reduceIte, reduceCtorEq, hb5, hb7, hb10, sJ, sK, s1, s2, s3, s4, s5, s6, s7, s8, s9, hb34, hb35, hb36, hb50, hb51, hb52, hb53, hb54, hb55]
                 refine aops_part (b := ?p57) 144 ?h57 (fun hb57 => ?a57) (fun hb57 => ?b57)
                 case h57 => simp only [qq, seval, -Nat.reducePow, reduceIte, reduceCtorEq, hb5, hb7, hb10, sJ, sK, s1, s2, s3, s4, s5, s6, s7, s8, s9, hb34, hb35, hb36, hb50, hb51, hb52, hb53, hb54, hb55]; rfl
                 case a57 =>
                  have hp57 := hb57
                  try simp only [kb] at hp57
                  try simp only [hb57]
                  refine aops_orunN 2 _ _ ?_
                  simp only [qq, seval, -Nat.reducePow, reduceIte, reduceCtorEq, hb5, hb7, hb10, sJ, sK, s1, s2, s3, s4, s5, s6, s7, s8, s9, hb34, hb35, hb36, hb50, hb51, hb52, hb53, hb54, hb55, hb57]
                  refine aops_call (same_fun _ _ ?s58_0) (by simp only [qq, seval, -Nat.reducePow, reduceIte, reduceCtorEq, hb5, hb7, hb10, sJ, sK, s1, s2, s3, s4, s5, s6, s7, s8, s9, hb34, hb35, hb36, hb50, hb51, hb52, hb53, hb54, hb55, hb57]) rfl rfl rfl (by (try simp only [qq, seval, -Nat.reducePow, reduceIte, reduceCtorEq, hb5, hb7, hb10, sJ, sK, s1, s2, s3, s4, s5, s6, s7, s8, s9, hb34, hb35, hb36, hb50, hb51, hb52, hb53, hb54, hb55, hb57]); (repeat' (first | exact .nil | exact wk_c | exact wk_ownc | exact wk_nilsc | exact wk_nils | exact wk_fn | refine .cons ?_ ?_ | refine wk_agg ?_ | refine wk_fnL ?_))) rfl rfl ?m58
                  case s58_0 => first | assumption | omega | decide +kernel | (simp only [List.length_take, List.length_drop]; omega)
                  simp only [qq, seval, -Nat.reducePow, reduceIte, reduceCtorEq, hb5, hb7, hb10, sJ, sK, s1, s2, s3, s4, s5, s6, s7, s8, s9, hb34, hb35, hb36, hb50, hb51, hb52, hb53, hb54, hb55, hb57]
                  refine aops_orunN 2 _ _ ?_
                  simp only [qq, seval, -Nat.reducePow, reduceIte, reduceCtorEq, hb5, hb7, hb10, sJ, sK, s1, s2, s3, s4, s5, s6, s7, s8, s9, hb34, hb35, hb36, hb50, hb51, hb52, hb53, hb54, hb55, hb57]
                  refine aops_part (b := ?p59) 149 ?h59 (fun hb59 => ?a59) (fun hb59 => ?b59)
                  case h59 => simp only [qq, seval, -Nat.reducePow, reduceIte, reduceCtorEq, hb5, hb7, hb10, sJ, sK, s1, s2, s3, s4, s5, s6, s7, s8, s9, hb34, hb35, hb36, hb50, hb51, hb52, hb53, hb54, hb55, hb57]; rfl
                  case a59 =>
                   have hp59 := hb59
                   try simp only [kb] at hp59
                   try simp only [hb59]
                   refine aops_orunN 2 _ _ ?_
                   simp only [qq, seval, -Nat.reducePow, reduceIte, reduceCtorEq, hb5, hb7, hb10, sJ, sK, s1, s2, s3, s4, s5, s6, s7, s8, s9, hb34, hb35, hb36, hb50, hb51, hb52, hb53, hb54, hb55, hb57, hb59]
                   refine aops_call (equal_pt_fun _ _ ?s60_0) (by simp only [qq, seval, -Nat.reducePow, reduceIte, reduceCtorEq, hb5, hb7, hb10, sJ, sK, s1, s2, s3, s4, s5, s6, s7, s8, s9, hb34, hb35, hb36, hb50, hb51, hb52, hb53, hb54, hb55, hb57, hb59]) rfl rfl rfl (by (try simp only [qq, seval, -Nat.reducePow, reduceIte, reduceCtorEq, hb5, hb7, hb10, sJ, sK, s1, s2, s3, s4, s5, s6, s7, s8, s9, hb34, hb35, hb36, hb50, hb51, hb52, hb53, hb54, hb55, hb57, hb59]); (repeat' (first | exact .nil | exact wk_c | exact wk_ownc | exact wk_nilsc | exact wk_nils | exact wk_fn | refine .cons ?_ ?_ | refine wk_agg ?_ | refine wk_fnL ?_))) rfl rfl ?m60
                   case s60_0 => first | assumption | omega | decide +kernel | (simp only [List.length_take, List.length_drop]; omega)
                   simp only [qq, seval, -Nat.reducePow, reduceIte, reduceCtorEq, hb5, hb7, hb10, sJ, sK, s1, s2, s3, s4, s5, s6, s7, s8, s9, hb34, hb35, hb36, hb50, hb51, hb52, hb53, hb54, hb55, hb57, hb59]
                   refine aops_orunN 2 _ _ ?_
                   simp only [qq, seval, -Nat.reducePow, reduceIte, reduceCtorEq, hb5, hb7, hb10, sJ, sK, s1, s2, s3, s4, s5, s6, s7, s8, s9, hb34, hb35, hb36, hb50, hb51, hb52, hb53, hb54, hb55, hb57, hb59]
                   refine nil_z hL49 ?_
                   refine awp_ret ?_
                   try simp only [rk_state]
                   refine ⟨_, 0, by simp only [qq, seval, -Nat.reducePow, reduceIte, reduceCtorEq, resA, Try.results15, hb5, hb7, hb10, sJ, sK, s1, s2, s3, s4, s5, s6, s7, s8, s9, hb34, hb35, hb36, hb50, hb51, hb52, hb53, hb54, hb55, hb57, hb59]; rfl, ?_, nomem_a, nomem_a⟩
                   simp only [packA]
                   (repeat' (first | exact .nil | exact wkR_c | exact wkR_own | exact wkR_nils | refine wkR_int ?_ | refine wkR_bool ?_ | refine wkR_sl ?_ | refine wkR_osl ?_ | refine wkR_nsl ?_ | refine wkR_oo ?_ | refine wkR_no ?_ | refine .cons ?_ ?_ | refine wkR_agg ?_ | refine wkR_tup ?_))
                  case b59 =>
                   first | exact absurd hb59 (by decide) | (have hp59 := hb59; (try simp only [kb] at hp59); exfalso; omega)
                 case b57 =>
                  first | exact absurd hb57 (by decide) | (have hp57 := hb57; (try simp only [kb] at hp57); exfalso; omega)
                case b55 =>
                 first | exact absurd hb55 (by decide) | (have hp55 := hb55; (try simp only [kb] at hp55); exfalso; omega)
               case b54 =>
                first | exact absurd hb54 (by decide) | (have hp54 := hb54; (try simp only [kb] at hp54); exfalso; omega)
              case b53 =>
               first | exact absurd hb53 (by decide) | (have hp53 := hb53; (try simp only [kb] at hp53); exfalso; omega)
             case b52 =>
              first | exact absurd hb52 (by decide) | (have hp52 := hb52; (try simp only [kb] at hp52); exfalso; omega)
            case b51 =>
             first | exact absurd hb51 (by decide) | (have hp51 := hb51; (try simp only [kb] at hp51); exfalso; omega)
           case b50 =>
            first | exact absurd hb50 (by decide) | (have hp50 := hb50; (try simp only [kb] at hp50); exfalso; omega)
end Go.Proofs.Y
