/-
  What is proved, part by part: points of a series unpacked by the document's function, in plain words. what block.Points comes to. what slices.Grow[[]api.Point,api.Point] comes to. what slices.Concat[[]api.Point,api.Point] comes to. what block.Make comes to. what block.Merge comes to. what block.Copy comes to. what block.Same comes to. what slices.Equal[[]api.Point,api.Point] comes to. what rainbookref.PointsOf comes to. what slices.Clone[[]api.Point,api.Point] comes to. what rainbookref.BlockOf comes to. what rainbookref.Merged comes to. what rainbookref.SameBlock comes to. blocks: what the program's and the document's functions come to, in plain words. all series, as plain functions: points of a row, what is wrong with a shelf. what shelf.all comes to. what shelf.Check comes to. what shelf.All comes to. what query.Last comes to. what rainbookref.RowPoints comes to. what rainbookref.CheckShelf comes to. what rainbookref.Ranged comes to. all series, read: what the program's and the document's functions come to, in plain words. what query.Range$1 comes to. what slices.IndexFunc[[]api.Point,api.Point] comes to. what slices.DeleteFunc[[]api.Point,api.Point] comes to. what query.Range comes to. ranges: what the program's function comes to, in plain words. sums and buckets, as plain functions. what sum.Join comes to. what sum.Of comes to. what query.Buckets comes to. what rainbookref.SumOf comes to. what rainbookref.BucketsOf comes to. what slices.Equal[[]api.Bucket,api.Bucket] comes to. sums and buckets: what the program's and the document's functions come to, in plain words. buckets by the document's function, in plain words. what rainbooklaw.points comes to. what rainbookref.FreshShelf comes to. what rainbooklaw.small comes to. what rainbooklaw.asked comes to. what rainbooklaw.QuerySays comes to. QuerySays: what the law's body comes to is true. what a law is handed is no larger than memory. what a law is handed is no larger than memory: batches, records, numbers. what rainbooklaw.at comes to. what rainbooklaw.QueryEach comes to. QueryEach: what the law's body comes to is true. buckets: all together are the sum of all; twice as wide they are two each; they rise. Conditions: none.
-/
import Derived.Test.YtoihccclnkhmaaaKPA
import Derived.KernelRfl
set_option linter.unusedVariables false
set_option linter.unusedSimpArgs false
set_option linter.unnecessarySimpa false
set_option maxRecDepth 4000
namespace Go.Proofs.Y
open Go.Rb Go.Kx
theorem ztk (b : List Bool) : ztakeR b = ((zreadR b).1, (if (zreadR b).2.2 = 0 then bits1 b else []), (zreadR b).2.2) := rfl
theorem unpacked_eq (a : List Bool) (n : Int) (ha : a.length ≤ 140737488355200) : F_rainbookref_UnpackedOf a n = some (unpackR a n) := by
  unfold F_rainbookref_UnpackedOf unpackR
  rw [in_eq, bindO_some, ifB_not, ifB_dec]
  by_cases h0 : 0 ≤ n ∧ n ≤ 40
  · rw [if_pos h0, if_neg (show ¬ (n < 0 ∨ n > 40) by omega)]
    refine (loop_ind (G := fun (x : List Bool × Int × List Pt) => some (unpk (n - x.2.1).toNat x.2.1.toNat (x.2.2.getD (x.2.1.toNat + 1) default) ((x.2.2.getD (x.2.1.toNat + 1) default).1 - (x.2.2.getD x.2.1.toNat default).1) (x.2.2.drop 2) x.1))
      (P := fun (x : List Bool × Int × List Pt) => 0 ≤ x.2.1 ∧ x.2.1 ≤ n ∧ x.2.2.length = x.2.1.toNat + 2 ∧ PtIn (x.2.2.getD (x.2.1.toNat + 1) default) ∧ PtIn (x.2.2.getD x.2.1.toNat default) ∧ x.1.length ≤ 140737488355200)
      (μ := fun x => (n - x.2.1).toNat) ?_ maxR (a, 0, [(0, 0), (0, 0)]) ⟨Int.le_refl 0, by show 0 ≤ n; omega, rfl, zero_in, zero_in, ha⟩ (by show (n - 0).toNat < maxR; unfold maxR; omega)).trans (by simp)
    rintro ⟨b, i, out⟩ ⟨g0, g1, g2, g3, g4, g5⟩ K hk
    simp only at g0 g1 g2 g3 g4 g5
    obtain ⟨k, rfl⟩ : ∃ k : Nat, i = k := ⟨i.toNat, by omega⟩
    simp only [Int.toNat_natCast] at g2 g3 g4 ⊢
    rw [stepK_ifB, ifB_ltI]
    by_cases hi : (k : Int) < n
    · obtain ⟨f, hf⟩ : ∃ f, (n - (k : Int)).toNat = f + 1 := ⟨(n - (k : Int)).toNat - 1, by omega⟩
      have hzi := zreadR_in b
      have hw1 : wadd .i64 (k : Int) 1 = ((k + 1 : Nat) : Int) := wadd_nat (by omega)
      rw [if_pos hi, hf, decoded_eq b (by omega), ztk, bindO_some, stepK_ifB, stepK_map, ifB_neI]
      by_cases hz : (zreadR b).2.2 = 0
      · have hzj := zreadR_in (bits1 b)
        have hbl := bits1_len b
        simp only [if_pos hz]
        rw [decoded_eq (bits1 b) (by omega), ztk, bindO_some, stepK_ifB, stepK_map, ifB_neI]
        by_cases hy : (zreadR (bits1 b)).2.2 = 0
        · simp only [if_pos hy]
          rw [stepK_ifB, stepK_none, ifB_ltL, if_pos ⟨by omega, by omega⟩, natI_eq, Int.toNat_natCast, atN_nat (by omega), bindO_some]
          rw [stepK_ifB, stepK_none, hw1, ifB_ltL, if_pos ⟨by omega, by omega⟩, natI_eq, Int.toNat_natCast, atN_nat (by omega), bindO_some]
          generalize hX : out.getD k default = X at *
          generalize hY : out.getD (k + 1) default = Y at *
          unfold PtIn at g3 g4
          have hP : (wadd .i64 (wsub .i64 (wmul .i64 2 Y.1) X.1) (zreadR b).1, wadd .i64 Y.2 (zreadR (bits1 b)).1) = nxt Y (Y.1 - X.1) b := by
            rw [wmul_in (a := 2) (b := Y.1) ⟨by omega, by omega⟩, wsub_in ⟨by omega, by omega⟩, wadd_in (a := 2 * Y.1 - X.1) ⟨by omega, by omega⟩, wadd_in ⟨by omega, by omega⟩]
            show _ = ((Y.1 + (Y.1 - X.1) + (zreadR b).1, Y.2 + (zreadR (b.drop (zreadR b).2.1.toNat)).1) : Int × Int)
            rw [show 2 * Y.1 - X.1 + (zreadR b).1 = Y.1 + (Y.1 - X.1) + (zreadR b).1 by omega]; rfl
          have hp1 : wadd .i64 (wsub .i64 (wmul .i64 2 Y.1) X.1) (zreadR b).1 = (nxt Y (Y.1 - X.1) b).1 := congrArg Prod.fst hP
          have hp2 : wadd .i64 Y.2 (zreadR (bits1 b)).1 = (nxt Y (Y.1 - X.1) b).2 := congrArg Prod.snd hP
          simp only [hp1, hp2]
          generalize hp : nxt Y (Y.1 - X.1) b = p at *
          rw [show ((p.1, p.2) : Pt) = p from rfl, chkPoint_eq, stepK_bind, bindO_some, stepK_ifB, stepK_map, ifB_neI]
          have hor := stepE_or k Y p
          have hco := chkP_or p
          have bad : ∀ e, stepE k Y p = e → ¬ e = 0 → some (([] : List Pt), e) = some (unpk (f + 1) k Y (Y.1 - X.1) (out.drop 2) b) := by
            rintro e rfl he
            rw [un_c (f := f + 1) (by omega) hz hy (by rw [hp]; exact he), hp]
          have good : stepE k Y p = 0 → stepK (ifB (roomA 16 out [p]) (some (Sum.inl (bits1 (bits1 b), ((k + 1 : Nat) : Int), cat out [p]))) none) K = some (unpk (f + 1) k Y (Y.1 - X.1) (out.drop 2) b) := by
            intro hst
            have hpin : PtIn p := by rw [← hp]; exact nxt_in (by rw [hp]; exact hst)
            have hb2 := bits2_len b
            have hg1 : (out ++ [p]).getD (k + 1 + 1) default = p := by rw [← g2]; simp [List.getD]
            have hg2 : (out ++ [p]).getD (k + 1) default = Y := by rw [← hY]; simp [List.getD, List.getElem?_append_left (show k + 1 < out.length by omega)]
            rw [ifB_roomA, if_pos (by simp only [List.length_cons, List.length_nil]; omega), stepK_inl, cat_eq]
            rw [hk _ ⟨by show (0 : Int) ≤ ((k + 1 : Nat) : Int); omega, by show ((k + 1 : Nat) : Int) ≤ n; omega, by show (out ++ [p]).length = ((k + 1 : Nat) : Int).toNat + 2; simp only [List.length_append, List.length_cons, List.length_nil]; omega,
              by show PtIn ((out ++ [p]).getD (((k + 1 : Nat) : Int).toNat + 1) default); rw [Int.toNat_natCast, hg1]; exact hpin, by show PtIn ((out ++ [p]).getD ((k + 1 : Nat) : Int).toNat default); rw [Int.toNat_natCast, hg2]; unfold PtIn; exact g3, by show (bits2 b).length ≤ _; omega⟩ (by show (n - ((k + 1 : Nat) : Int)).toNat < (n - (k : Int)).toNat; omega)]
            simp only [Int.toNat_natCast, hg1, hg2]
            rw [show (n - ((k + 1 : Nat) : Int)).toNat = f by omega, un_d (f := f + 1) (by omega) hz hy (by rw [hp]; exact hst), hp, List.drop_append_of_le_length (by omega)]
            rfl
          have hb11 : bits1 (bits1 b) = bits1 (bits1 b) := rfl
          rcases hor with ⟨k1, k2⟩ | ⟨k1, k2, k3, k4⟩ | ⟨k1, k2, k3⟩
          · rcases hco with ⟨_, c2⟩ | ⟨c1, _⟩
            · rw [c2, if_neg (by decide)]; exact bad _ k2 (by decide)
            · exfalso; unfold badP at k1; unfold PtIn at c1; omega
          · rcases hco with ⟨c1, _⟩ | ⟨_, c2⟩
            · exfalso; unfold badP at c1; unfold PtIn at k1; omega
            · rw [c2, if_pos rfl, stepK_ifB, ifB_gtI, if_pos (by omega), stepK_ifB, stepK_map, ifB_leI, if_pos k3]
              exact bad _ k4 (by decide)
          · rcases hco with ⟨c1, _⟩ | ⟨_, c2⟩
            · exfalso; unfold badP at c1; unfold PtIn at k1; omega
            · rw [c2, if_pos rfl, stepK_ifB, ifB_gtI]
              by_cases hk0 : 0 < k
              · rw [if_pos (by omega), stepK_ifB, stepK_map, ifB_leI, if_neg (by omega)]
                exact good k3
              · rw [if_neg (by omega)]
                exact good k3
        · rw [if_neg hy, un_b (f := f + 1) (by omega) hz hy]
      · rw [if_neg hz, un_a (f := f + 1) (by omega) hz]
    · have hkn : (n - (k : Int)).toNat = 0 := by omega
      rw [if_neg hi, stepK_map, hkn, ifB_gtI, lenI_eq]
      by_cases hb : (0 : Int) < b.length
      · rw [if_pos hb, un_e (by omega)]
      · have hsub : subN out (addN 0 (natI 2)) (subNI (lenN out) 2) = out.drop 2 := by
          have : (out.drop 2).length ≤ out.length - 2 := by rw [List.length_drop]; omega
          exact List.take_of_length_le this
        rw [if_neg hb, un_f (by omega), ifB_in1, if_pos ⟨by omega, by omega⟩, ifB_inN, if_pos (by show 0 + 2 + (out.length - 2) ≤ out.length; omega), hsub]
  · rw [if_neg h0, if_pos (by omega)]
end Go.Proofs.Y
namespace Go.Proofs.Y
open Go.Rb Go.Kx
noncomputable def C_block_Points : Code := bodyOf Try.f52
noncomputable def G_block_Points : FuncId → Option GS := tabG [(45, R_line_Unpack)]
theorem g_block_Points : ΓOK Try.prog G_block_Points := ΓOK_cons (R_line_Unpack_ok) (ΓOK_nil)
def H_block_Points : HT := ⟨tabL [], tabH []⟩
abbrev is_block_Points : List IT := [.v (.cons (.int .i64) (.cons (.int .i64) (.cons (.int .i64) (.one (.sl 4 (.one .bool)))))) true]
abbrev os_block_Points : List OT := [⟨.one (.sl 34 (.cons (.int .i64) (.one (.int .i64)))), false, []⟩, ⟨.one (.int .i64), false, []⟩]
set_option maxRecDepth 100000
noncomputable def F_block_Points : Int × Int × Int × List Bool → Option (List (Int × Int) × Int) := fun (a : Int × Int × Int × List Bool) => bindO (F_line_Unpack a.2.2.2 a.1) fun (y : List (Int × Int) × Int) => ifB (neI y.2 0) (some ([], y.2)) (ifB (eqI (lenI y.1) 0) (some ([], 4)) (bindO (atI y.1 0) fun (y_1 : Int × Int) => ifB (neI y_1.1 a.2.1) (some ([], 4)) (bindO (atI y.1 (wsub .i64 (lenI y.1) 1)) fun (y_2 : Int × Int) => ifB (neI y_2.1 a.2.2.1) (some ([], 4)) (some (y.1, 0)))))
theorem F_block_Points_eq (x : PI is_block_Points) : F_block_Points x = fnE T G_block_Points H_block_Points C_block_Points (resOf Try.f52) is_block_Points os_block_Points x := by kernel_rfl
noncomputable abbrev R_block_Points : GS := mkSpec false is_block_Points os_block_Points fun x => F_block_Points x
theorem R_block_Points_ok : GSOK Try.prog 52 R_block_Points := spec_ok tok g_block_Points fmo (Ht := H_block_Points) (fn := Try.f52) (Try.func52) (c := C_block_Points) (by kernel_rfl) (by kernel_rfl) (by kernel_rfl) (by decide +kernel) (by decide) F_block_Points_eq
end Go.Proofs.Y
namespace Go.Proofs.Y
open Go.Rb Go.Kx
noncomputable def C_growP : Code := bodyOf Try.f123
noncomputable def G_growP : FuncId → Option GS := tabG []
theorem g_growP : ΓOK Try.prog G_growP := ΓOK_nil
def H_growP : HT := ⟨tabL [], tabH []⟩
noncomputable def I_growP : GS := inl T G_growP H_growP C_growP (resOf Try.f123) (Try.f123.ntmps)
theorem I_growP_ok : GSOK Try.prog 123 I_growP := inl_ok tok g_growP fmo (Ht := H_growP) (fn := Try.f123) (Try.func123) (c := C_growP) (by kernel_rfl) (by kernel_rfl) (by kernel_rfl)
end Go.Proofs.Y
namespace Go.Proofs.Y
open Go.Rb Go.Kx
noncomputable def C_concatP : Code := bodyOf Try.f91
noncomputable def G_concatP : FuncId → Option GS := tabG [(123, I_growP)]
theorem g_concatP : ΓOK Try.prog G_concatP := ΓOK_cons (I_growP_ok) (ΓOK_nil)
def H_concatP : HT := ⟨tabL [(3, .it [] (dyn [.t 3 (.int .i64), .t 11 (.int .i64)])), (11, .it [] (dyn [.a 6 34 (.cons (.int .i64) (.one (.int .i64))), .t 27 (.int .i64)]))], tabH [(10, [.trim 6])]⟩
abbrev is_concatP : List IT := [.v (.one (.sl 22 (.one (.sl 34 (.cons (.int .i64) (.one (.int .i64))))))) false]
abbrev os_concatP : List OT := [⟨.one (.sl 34 (.cons (.int .i64) (.one (.int .i64)))), false, []⟩]
set_option maxRecDepth 100000
noncomputable def F_concatP : List (List (Int × Int)) → Option (List (Int × Int)) := fun (a : List (List (Int × Int))) => loopN maxR (fun (x : Int × Int) => ifB (ltI x.2 (lenI a)) (bindO (atI a x.2) fun (y : List (Int × Int)) => ifB (ltI (wadd .i64 x.1 (lenI y)) 0) none (some (Sum.inl (wadd .i64 x.1 (lenI y), wadd .i64 x.2 1)))) (mapO Sum.inr (ifB (ltI x.1 0) none (ifB (gtI (wsub .i64 x.1 (wsub .i64 0 0)) 0) (ifB (roomZ 16 (wsub .i64 x.1 (wsub .i64 0 0))) (ifB (in1 (repI (wsub .i64 x.1 (wsub .i64 0 0)) (0, 0)) 0) (ifB (inN (repI (wsub .i64 x.1 (wsub .i64 0 0)) (0, 0)) 0 (natI 0)) (loopN maxR (fun (x : Int × List (Int × Int)) => ifB (ltI x.1 (lenI a)) (bindO (atI a x.1) fun (y : List (Int × Int)) => ifB (roomA 16 x.2 y) (some (Sum.inl (wadd .i64 x.1 1, cat x.2 y))) none) (mapO Sum.inr (some x.2))) (0, subN (repI (wsub .i64 x.1 (wsub .i64 0 0)) (0, 0)) 0 (natI 0))) none) none) none) (loopN maxR (fun (x : Int × List (Int × Int)) => ifB (ltI x.1 (lenI a)) (bindO (atI a x.1) fun (y : List (Int × Int)) => ifB (roomA 16 x.2 y) (some (Sum.inl (wadd .i64 x.1 1, cat x.2 y))) none) (mapO Sum.inr (some x.2))) (0, [])))))) (0, 0)
theorem F_concatP_eq (x : PI is_concatP) : F_concatP x = fnE T G_concatP H_concatP C_concatP (resOf Try.f91) is_concatP os_concatP x := by kernel_rfl
noncomputable abbrev R_concatP : GS := mkSpec false is_concatP os_concatP fun x => F_concatP x
theorem R_concatP_ok : GSOK Try.prog 91 R_concatP := spec_ok tok g_concatP fmo (Ht := H_concatP) (fn := Try.f91) (Try.func91) (c := C_concatP) (by kernel_rfl) (by kernel_rfl) (by kernel_rfl) (by decide +kernel) (by decide) F_concatP_eq
end Go.Proofs.Y
namespace Go.Proofs.Y
open Go.Rb Go.Kx
noncomputable def C_block_Make : Code := bodyOf Try.f51
noncomputable def G_block_Make : FuncId → Option GS := tabG [(44, R_line_Pack)]
theorem g_block_Make : ΓOK Try.prog G_block_Make := ΓOK_cons (R_line_Pack_ok) (ΓOK_nil)
def H_block_Make : HT := ⟨tabL [], tabH []⟩
abbrev is_block_Make : List IT := [.v (.one (.sl 34 (.cons (.int .i64) (.one (.int .i64))))) false]
abbrev os_block_Make : List OT := [⟨.cons (.int .i64) (.cons (.int .i64) (.cons (.int .i64) (.one (.sl 4 (.one .bool))))), true, []⟩, ⟨.one (.int .i64), false, []⟩]
set_option maxRecDepth 100000
noncomputable def F_block_Make : List (Int × Int) → Option ((Int × Int × Int × List Bool) × Int) := fun (a : List (Int × Int)) => bindO (F_line_Pack a) fun (y : List Bool × Int) => ifB (neI y.2 0) (some ((0, 0, 0, []), y.2)) (ifB (eqI (lenI a) 0) (some ((0, 0, 0, []), 4)) (bindO (atI a 0) fun (y_1 : Int × Int) => bindO (atI a (wsub .i64 (lenI a) 1)) fun (y_2 : Int × Int) => some ((lenI a, y_1.1, y_2.1, y.1), 0)))
theorem F_block_Make_eq (x : PI is_block_Make) : F_block_Make x = fnE T G_block_Make H_block_Make C_block_Make (resOf Try.f51) is_block_Make os_block_Make x := by kernel_rfl
noncomputable abbrev R_block_Make : GS := mkSpec false is_block_Make os_block_Make fun x => F_block_Make x
theorem R_block_Make_ok : GSOK Try.prog 51 R_block_Make := spec_ok tok g_block_Make fmo (Ht := H_block_Make) (fn := Try.f51) (Try.func51) (c := C_block_Make) (by kernel_rfl) (by kernel_rfl) (by kernel_rfl) (by decide +kernel) (by decide) F_block_Make_eq
end Go.Proofs.Y
namespace Go.Proofs.Y
open Go.Rb Go.Kx
noncomputable def C_block_Merge : Code := bodyOf Try.f53
noncomputable def G_block_Merge : FuncId → Option GS := tabG [(52, R_block_Points), (91, R_concatP), (51, R_block_Make)]
theorem g_block_Merge : ΓOK Try.prog G_block_Merge := ΓOK_cons (R_block_Points_ok) (ΓOK_cons (R_concatP_ok) (ΓOK_cons (R_block_Make_ok) (ΓOK_nil)))
def H_block_Merge : HT := ⟨tabL [], tabH []⟩
abbrev is_block_Merge : List IT := [.v (.cons (.int .i64) (.cons (.int .i64) (.cons (.int .i64) (.one (.sl 4 (.one .bool)))))) true, .v (.cons (.int .i64) (.cons (.int .i64) (.cons (.int .i64) (.one (.sl 4 (.one .bool)))))) true]
abbrev os_block_Merge : List OT := [⟨.cons (.int .i64) (.cons (.int .i64) (.cons (.int .i64) (.one (.sl 4 (.one .bool))))), true, []⟩, ⟨.one (.int .i64), false, []⟩]
set_option maxRecDepth 100000
noncomputable def F_block_Merge : Int × Int × Int × List Bool → Int × Int × Int × List Bool → Option ((Int × Int × Int × List Bool) × Int) := fun (a b : Int × Int × Int × List Bool) => bindO (F_block_Points (a.1, a.2.1, a.2.2.1, a.2.2.2)) fun (y : List (Int × Int) × Int) => ifB (neI y.2 0) (some ((0, 0, 0, []), y.2)) (bindO (F_block_Points (b.1, b.2.1, b.2.2.1, b.2.2.2)) fun (y_1 : List (Int × Int) × Int) => ifB (neI y_1.2 0) (some ((0, 0, 0, []), y_1.2)) (bindO (F_concatP [y.1, y_1.1]) fun (y : List (Int × Int)) => bindO (F_block_Make y) fun (y : (Int × Int × Int × List Bool) × Int) => some ((y.1.1, y.1.2.1, y.1.2.2.1, y.1.2.2.2), y.2)))
theorem F_block_Merge_eq (x : PI is_block_Merge) : F_block_Merge (x.1) (x.2) = fnE T G_block_Merge H_block_Merge C_block_Merge (resOf Try.f53) is_block_Merge os_block_Merge x := by kernel_rfl
noncomputable abbrev R_block_Merge : GS := mkSpec false is_block_Merge os_block_Merge fun x => F_block_Merge (x.1) (x.2)
theorem R_block_Merge_ok : GSOK Try.prog 53 R_block_Merge := spec_ok tok g_block_Merge fmo (Ht := H_block_Merge) (fn := Try.f53) (Try.func53) (c := C_block_Merge) (by kernel_rfl) (by kernel_rfl) (by kernel_rfl) (by decide +kernel) (by decide) F_block_Merge_eq
end Go.Proofs.Y
namespace Go.Proofs.Y
open Go.Rb Go.Kx
noncomputable def C_block_Copy : Code := bodyOf Try.f125
noncomputable def G_block_Copy : FuncId → Option GS := tabG [(93, R_cloneB)]
theorem g_block_Copy : ΓOK Try.prog G_block_Copy := ΓOK_cons (R_cloneB_ok) (ΓOK_nil)
def H_block_Copy : HT := ⟨tabL [], tabH []⟩
abbrev is_block_Copy : List IT := [.v (.cons (.int .i64) (.cons (.int .i64) (.cons (.int .i64) (.one (.sl 4 (.one .bool)))))) true]
abbrev os_block_Copy : List OT := [⟨.cons (.int .i64) (.cons (.int .i64) (.cons (.int .i64) (.one (.sl 4 (.one .bool))))), true, []⟩]
set_option maxRecDepth 100000
noncomputable def F_block_Copy : Int × Int × Int × List Bool → Option (Int × Int × Int × List Bool) := fun (a : Int × Int × Int × List Bool) => bindO (F_cloneB a.2.2.2) fun (y : List Bool) => some (a.1, a.2.1, a.2.2.1, y)
theorem F_block_Copy_eq (x : PI is_block_Copy) : F_block_Copy x = fnE T G_block_Copy H_block_Copy C_block_Copy (resOf Try.f125) is_block_Copy os_block_Copy x := by kernel_rfl
noncomputable abbrev R_block_Copy : GS := mkSpec false is_block_Copy os_block_Copy fun x => F_block_Copy x
theorem R_block_Copy_ok : GSOK Try.prog 125 R_block_Copy := spec_ok tok g_block_Copy fmo (Ht := H_block_Copy) (fn := Try.f125) (Try.func125) (c := C_block_Copy) (by kernel_rfl) (by kernel_rfl) (by kernel_rfl) (by decide +kernel) (by decide) F_block_Copy_eq
end Go.Proofs.Y
namespace Go.Proofs.Y
open Go.Rb Go.Kx
noncomputable def C_block_Same : Code := bodyOf Try.f58
noncomputable def G_block_Same : FuncId → Option GS := tabG [(37, R_equalB)]
theorem g_block_Same : ΓOK Try.prog G_block_Same := ΓOK_cons (R_equalB_ok) (ΓOK_nil)
def H_block_Same : HT := ⟨tabL [], tabH []⟩
abbrev is_block_Same : List IT := [.v (.cons (.int .i64) (.cons (.int .i64) (.cons (.int .i64) (.one (.sl 4 (.one .bool)))))) true, .v (.cons (.int .i64) (.cons (.int .i64) (.cons (.int .i64) (.one (.sl 4 (.one .bool)))))) true]
abbrev os_block_Same : List OT := [⟨.one .bool, false, []⟩]
set_option maxRecDepth 100000
noncomputable def F_block_Same : Int × Int × Int × List Bool → Int × Int × Int × List Bool → Option Bool := fun (a b : Int × Int × Int × List Bool) => ifB (eqI a.1 b.1) (ifB (eqI a.2.1 b.2.1) (ifB (eqI a.2.2.1 b.2.2.1) (bindO (F_equalB a.2.2.2 b.2.2.2) fun (y : Bool) => some y) (some false)) (some false)) (some false)
theorem F_block_Same_eq (x : PI is_block_Same) : F_block_Same (x.1) (x.2) = fnE T G_block_Same H_block_Same C_block_Same (resOf Try.f58) is_block_Same os_block_Same x := by kernel_rfl
noncomputable abbrev R_block_Same : GS := mkSpec false is_block_Same os_block_Same fun x => F_block_Same (x.1) (x.2)
theorem R_block_Same_ok : GSOK Try.prog 58 R_block_Same := spec_ok tok g_block_Same fmo (Ht := H_block_Same) (fn := Try.f58) (Try.func58) (c := C_block_Same) (by kernel_rfl) (by kernel_rfl) (by kernel_rfl) (by decide +kernel) (by decide) F_block_Same_eq
end Go.Proofs.Y
namespace Go.Proofs.Y
open Go.Rb Go.Kx
noncomputable def C_equalP : Code := bodyOf Try.f50
noncomputable def G_equalP : FuncId → Option GS := tabG []
theorem g_equalP : ΓOK Try.prog G_equalP := ΓOK_nil
def H_equalP : HT := ⟨tabL [(4, .it [] (dyn [.t 13 (.int .i64)]))], tabH []⟩
abbrev is_equalP : List IT := [.v (.one (.sl 34 (.cons (.int .i64) (.one (.int .i64))))) false, .v (.one (.sl 34 (.cons (.int .i64) (.one (.int .i64))))) false]
abbrev os_equalP : List OT := [⟨.one .bool, false, []⟩]
set_option maxRecDepth 100000
noncomputable def F_equalP : List (Int × Int) → List (Int × Int) → Option Bool := fun (a b : List (Int × Int)) => ifB (neI (lenI a) (lenI b)) (some false) (loopN maxR (fun (x : Int) => ifB (ltI x (lenI a)) (bindO (atI a x) fun (y : Int × Int) => bindO (atI b x) fun (y_1 : Int × Int) => ifB (notB (eqL [y.1, y.2] [y_1.1, y_1.2])) (mapO Sum.inr (some false)) (some (Sum.inl (wadd .i64 x 1)))) (mapO Sum.inr (some true))) 0)
theorem F_equalP_eq (x : PI is_equalP) : F_equalP (x.1) (x.2) = fnE T G_equalP H_equalP C_equalP (resOf Try.f50) is_equalP os_equalP x := by kernel_rfl
noncomputable abbrev R_equalP : GS := mkSpec false is_equalP os_equalP fun x => F_equalP (x.1) (x.2)
theorem R_equalP_ok : GSOK Try.prog 50 R_equalP := spec_ok tok g_equalP fmo (Ht := H_equalP) (fn := Try.f50) (Try.func50) (c := C_equalP) (by kernel_rfl) (by kernel_rfl) (by kernel_rfl) (by decide +kernel) (by decide) F_equalP_eq
end Go.Proofs.Y
namespace Go.Proofs.Y
open Go.Rb Go.Kx
noncomputable def C_rainbookref_PointsOf : Code := bodyOf Try.f55
noncomputable def G_rainbookref_PointsOf : FuncId → Option GS := tabG [(47, R_rainbookref_UnpackedOf)]
theorem g_rainbookref_PointsOf : ΓOK Try.prog G_rainbookref_PointsOf := ΓOK_cons (R_rainbookref_UnpackedOf_ok) (ΓOK_nil)
def H_rainbookref_PointsOf : HT := ⟨tabL [], tabH []⟩
abbrev is_rainbookref_PointsOf : List IT := [.v (.cons (.int .i64) (.cons (.int .i64) (.cons (.int .i64) (.one (.sl 4 (.one .bool)))))) true]
abbrev os_rainbookref_PointsOf : List OT := [⟨.one (.sl 34 (.cons (.int .i64) (.one (.int .i64)))), false, []⟩, ⟨.one (.int .i64), false, []⟩]
set_option maxRecDepth 100000
noncomputable def F_rainbookref_PointsOf : Int × Int × Int × List Bool → Option (List (Int × Int) × Int) := fun (a : Int × Int × Int × List Bool) => bindO (F_rainbookref_UnpackedOf a.2.2.2 a.1) fun (y : List (Int × Int) × Int) => ifB (eqI y.2 0) (ifB (eqI (lenI y.1) 0) (some ([], 4)) (bindO (atI y.1 0) fun (y_1 : Int × Int) => ifB (neI a.2.1 y_1.1) (some ([], 4)) (bindO (atI y.1 (wsub .i64 (lenI y.1) 1)) fun (y_2 : Int × Int) => ifB (neI a.2.2.1 y_2.1) (some ([], 4)) (ifB (neI y.2 0) (some ([], y.2)) (some (y.1, 0)))))) (ifB (neI y.2 0) (some ([], y.2)) (some (y.1, 0)))
theorem F_rainbookref_PointsOf_eq (x : PI is_rainbookref_PointsOf) : F_rainbookref_PointsOf x = fnE T G_rainbookref_PointsOf H_rainbookref_PointsOf C_rainbookref_PointsOf (resOf Try.f55) is_rainbookref_PointsOf os_rainbookref_PointsOf x := by kernel_rfl
noncomputable abbrev R_rainbookref_PointsOf : GS := mkSpec false is_rainbookref_PointsOf os_rainbookref_PointsOf fun x => F_rainbookref_PointsOf x
theorem R_rainbookref_PointsOf_ok : GSOK Try.prog 55 R_rainbookref_PointsOf := spec_ok tok g_rainbookref_PointsOf fmo (Ht := H_rainbookref_PointsOf) (fn := Try.f55) (Try.func55) (c := C_rainbookref_PointsOf) (by kernel_rfl) (by kernel_rfl) (by kernel_rfl) (by decide +kernel) (by decide) F_rainbookref_PointsOf_eq
end Go.Proofs.Y
namespace Go.Proofs.Y
open Go.Rb Go.Kx
noncomputable def C_cloneP : Code := bodyOf Try.f100
noncomputable def G_cloneP : FuncId → Option GS := tabG []
theorem g_cloneP : ΓOK Try.prog G_cloneP := ΓOK_nil
def H_cloneP : HT := ⟨tabL [], tabH []⟩
abbrev is_cloneP : List IT := [.v (.one (.sl 34 (.cons (.int .i64) (.one (.int .i64))))) false]
abbrev os_cloneP : List OT := [⟨.one (.sl 34 (.cons (.int .i64) (.one (.int .i64)))), false, [true]⟩]
set_option maxRecDepth 100000
noncomputable def F_cloneP : List (Int × Int) → Option (List (Int × Int)) := fun (a : List (Int × Int)) => ifB (isE a) (ambO (some []) (ifB (roomA 16 [] a) (some (cat [] a)) none)) (ifB (roomA 16 [] a) (some (cat [] a)) none)
theorem F_cloneP_eq (x : PI is_cloneP) : F_cloneP x = fnE T G_cloneP H_cloneP C_cloneP (resOf Try.f100) is_cloneP os_cloneP x := by kernel_rfl
noncomputable abbrev R_cloneP : GS := mkSpec false is_cloneP os_cloneP fun x => F_cloneP x
theorem R_cloneP_ok : GSOK Try.prog 100 R_cloneP := spec_ok tok g_cloneP fmo (Ht := H_cloneP) (fn := Try.f100) (Try.func100) (c := C_cloneP) (by kernel_rfl) (by kernel_rfl) (by kernel_rfl) (by decide +kernel) (by decide) F_cloneP_eq
end Go.Proofs.Y
namespace Go.Proofs.Y
open Go.Rb Go.Kx
noncomputable def C_rainbookref_BlockOf : Code := bodyOf Try.f54
noncomputable def G_rainbookref_BlockOf : FuncId → Option GS := tabG [(46, R_rainbookref_PackedOf)]
theorem g_rainbookref_BlockOf : ΓOK Try.prog G_rainbookref_BlockOf := ΓOK_cons (R_rainbookref_PackedOf_ok) (ΓOK_nil)
def H_rainbookref_BlockOf : HT := ⟨tabL [], tabH []⟩
abbrev is_rainbookref_BlockOf : List IT := [.v (.one (.sl 34 (.cons (.int .i64) (.one (.int .i64))))) false]
abbrev os_rainbookref_BlockOf : List OT := [⟨.cons (.int .i64) (.cons (.int .i64) (.cons (.int .i64) (.one (.sl 4 (.one .bool))))), true, []⟩, ⟨.one (.int .i64), false, []⟩]
set_option maxRecDepth 100000
noncomputable def F_rainbookref_BlockOf : List (Int × Int) → Option ((Int × Int × Int × List Bool) × Int) := fun (a : List (Int × Int)) => bindO (F_rainbookref_PackedOf a) fun (y : List Bool × Int) => ifB (eqI y.2 0) (ifB (eqI (lenI a) 0) (some ((0, 0, 0, []), 4)) (ifB (neI y.2 0) (some ((0, 0, 0, []), y.2)) (bindO (atI a 0) fun (y_1 : Int × Int) => bindO (atI a (wsub .i64 (lenI a) 1)) fun (y_2 : Int × Int) => some ((lenI a, y_1.1, y_2.1, y.1), 0)))) (ifB (neI y.2 0) (some ((0, 0, 0, []), y.2)) (bindO (atI a 0) fun (y_1 : Int × Int) => bindO (atI a (wsub .i64 (lenI a) 1)) fun (y_2 : Int × Int) => some ((lenI a, y_1.1, y_2.1, y.1), 0)))
theorem F_rainbookref_BlockOf_eq (x : PI is_rainbookref_BlockOf) : F_rainbookref_BlockOf x = fnE T G_rainbookref_BlockOf H_rainbookref_BlockOf C_rainbookref_BlockOf (resOf Try.f54) is_rainbookref_BlockOf os_rainbookref_BlockOf x := by kernel_rfl
noncomputable abbrev R_rainbookref_BlockOf : GS := mkSpec false is_rainbookref_BlockOf os_rainbookref_BlockOf fun x => F_rainbookref_BlockOf x
theorem R_rainbookref_BlockOf_ok : GSOK Try.prog 54 R_rainbookref_BlockOf := spec_ok tok g_rainbookref_BlockOf fmo (Ht := H_rainbookref_BlockOf) (fn := Try.f54) (Try.func54) (c := C_rainbookref_BlockOf) (by kernel_rfl) (by kernel_rfl) (by kernel_rfl) (by decide +kernel) (by decide) F_rainbookref_BlockOf_eq
end Go.Proofs.Y
namespace Go.Proofs.Y
open Go.Rb Go.Kx
noncomputable def C_rainbookref_Merged : Code := bodyOf Try.f56
noncomputable def G_rainbookref_Merged : FuncId → Option GS := tabG [(55, R_rainbookref_PointsOf), (100, R_cloneP), (54, R_rainbookref_BlockOf)]
theorem g_rainbookref_Merged : ΓOK Try.prog G_rainbookref_Merged := ΓOK_cons (R_rainbookref_PointsOf_ok) (ΓOK_cons (R_cloneP_ok) (ΓOK_cons (R_rainbookref_BlockOf_ok) (ΓOK_nil)))
def H_rainbookref_Merged : HT := ⟨tabL [], tabH []⟩
abbrev is_rainbookref_Merged : List IT := [.v (.cons (.int .i64) (.cons (.int .i64) (.cons (.int .i64) (.one (.sl 4 (.one .bool)))))) true, .v (.cons (.int .i64) (.cons (.int .i64) (.cons (.int .i64) (.one (.sl 4 (.one .bool)))))) true]
abbrev os_rainbookref_Merged : List OT := [⟨.cons (.int .i64) (.cons (.int .i64) (.cons (.int .i64) (.one (.sl 4 (.one .bool))))), true, []⟩, ⟨.one (.int .i64), false, []⟩]
set_option maxRecDepth 100000
noncomputable def F_rainbookref_Merged : Int × Int × Int × List Bool → Int × Int × Int × List Bool → Option ((Int × Int × Int × List Bool) × Int) := fun (a b : Int × Int × Int × List Bool) => bindO (F_rainbookref_PointsOf (a.1, a.2.1, a.2.2.1, a.2.2.2)) fun (y : List (Int × Int) × Int) => ifB (neI y.2 0) (some ((0, 0, 0, []), y.2)) (bindO (F_rainbookref_PointsOf (b.1, b.2.1, b.2.2.1, b.2.2.2)) fun (y_1 : List (Int × Int) × Int) => ifB (neI y_1.2 0) (some ((0, 0, 0, []), y_1.2)) (bindO (F_cloneP y.1) fun (y : List (Int × Int)) => ifB (roomA 16 y y_1.1) (bindO (F_rainbookref_BlockOf (cat y y_1.1)) fun (y : (Int × Int × Int × List Bool) × Int) => some ((y.1.1, y.1.2.1, y.1.2.2.1, y.1.2.2.2), y.2)) none))
theorem F_rainbookref_Merged_eq (x : PI is_rainbookref_Merged) : F_rainbookref_Merged (x.1) (x.2) = fnE T G_rainbookref_Merged H_rainbookref_Merged C_rainbookref_Merged (resOf Try.f56) is_rainbookref_Merged os_rainbookref_Merged x := by kernel_rfl
noncomputable abbrev R_rainbookref_Merged : GS := mkSpec false is_rainbookref_Merged os_rainbookref_Merged fun x => F_rainbookref_Merged (x.1) (x.2)
theorem R_rainbookref_Merged_ok : GSOK Try.prog 56 R_rainbookref_Merged := spec_ok tok g_rainbookref_Merged fmo (Ht := H_rainbookref_Merged) (fn := Try.f56) (Try.func56) (c := C_rainbookref_Merged) (by kernel_rfl) (by kernel_rfl) (by kernel_rfl) (by decide +kernel) (by decide) F_rainbookref_Merged_eq
end Go.Proofs.Y
namespace Go.Proofs.Y
open Go.Rb Go.Kx
noncomputable def C_rainbookref_SameBlock : Code := bodyOf Try.f59
noncomputable def G_rainbookref_SameBlock : FuncId → Option GS := tabG [(37, R_equalB)]
theorem g_rainbookref_SameBlock : ΓOK Try.prog G_rainbookref_SameBlock := ΓOK_cons (R_equalB_ok) (ΓOK_nil)
def H_rainbookref_SameBlock : HT := ⟨tabL [], tabH []⟩
abbrev is_rainbookref_SameBlock : List IT := [.v (.cons (.int .i64) (.cons (.int .i64) (.cons (.int .i64) (.one (.sl 4 (.one .bool)))))) true, .v (.cons (.int .i64) (.cons (.int .i64) (.cons (.int .i64) (.one (.sl 4 (.one .bool)))))) true]
abbrev os_rainbookref_SameBlock : List OT := [⟨.one .bool, false, []⟩]
set_option maxRecDepth 100000
noncomputable def F_rainbookref_SameBlock : Int × Int × Int × List Bool → Int × Int × Int × List Bool → Option Bool := fun (a b : Int × Int × Int × List Bool) => ifB (eqI a.1 b.1) (ifB (eqI a.2.1 b.2.1) (ifB (eqI a.2.2.1 b.2.2.1) (bindO (F_equalB a.2.2.2 b.2.2.2) fun (y : Bool) => some y) (some false)) (some false)) (some false)
theorem F_rainbookref_SameBlock_eq (x : PI is_rainbookref_SameBlock) : F_rainbookref_SameBlock (x.1) (x.2) = fnE T G_rainbookref_SameBlock H_rainbookref_SameBlock C_rainbookref_SameBlock (resOf Try.f59) is_rainbookref_SameBlock os_rainbookref_SameBlock x := by kernel_rfl
noncomputable abbrev R_rainbookref_SameBlock : GS := mkSpec false is_rainbookref_SameBlock os_rainbookref_SameBlock fun x => F_rainbookref_SameBlock (x.1) (x.2)
theorem R_rainbookref_SameBlock_ok : GSOK Try.prog 59 R_rainbookref_SameBlock := spec_ok tok g_rainbookref_SameBlock fmo (Ht := H_rainbookref_SameBlock) (fn := Try.f59) (Try.func59) (c := C_rainbookref_SameBlock) (by kernel_rfl) (by kernel_rfl) (by kernel_rfl) (by decide +kernel) (by decide) F_rainbookref_SameBlock_eq
end Go.Proofs.Y
namespace Go.Proofs.Y
open Go.Rb Go.Kx
theorem cloneP_eq {a : List Pt} (h : a.length ≤ 8796093022208) : F_cloneP a = some a := clone_gen 16 a (by omega) (by omega)
theorem eqP_dec (x y : Pt) : eqL [x.1, x.2] [y.1, y.2] = decide (x = y) := by
  obtain ⟨a, b⟩ := x; obtain ⟨c, d⟩ := y
  unfold eqL; exact decide_eq_decide.2 (by simp)
theorem equalP_eq {a b : List Pt} (h : a.length < 4611686018427387904) : F_equalP a b = some (decide (a = b))  := by
  have h9 := equal_gen (α := Int × Int) (fun x y => eqL [x.1, x.2] [y.1, y.2]) eqP_dec a b h
  exact h9
theorem concatP_eq {a : List (List Pt)} (h : a.length < 4611686018427387904) (h2 : a.flatten.length ≤ 8796093022208) : F_concatP a = some a.flatten := by
  have h3 : a.flatten.length * 16 ≤ 140737488355328 := by omega
  have h9 := concat_gen (α := Int × Int) 16 (0, 0) a h (by decide) h3 (by decide)
  exact h9
theorem lenPred {l : List Pt} (h0 : 0 < l.length) (h : l.length < 4611686018427387904) : wsub .i64 (lenI l) 1 = ((l.length - 1 : Nat) : Int) := by rw [lenI_eq, wsub_in ⟨by omega, by omega⟩]; omega
theorem at0 {l : List Pt} (h0 : 0 < l.length) : atI l 0 = some (l.getD 0 default) := atI_nat (j := 0) h0
theorem make_eq (l : List Pt) (hl : l.length < 4611686018427387904) : F_block_Make l = some (makeR l) := by
  unfold F_block_Make makeR
  rw [pack_eq l hl, bindO_some, ifB_neI, ifB_eqI, lenI_eq]
  by_cases h : (packP l).2 = 0
  · rw [if_pos h, if_neg (not_not_intro h)]
    by_cases h0 : l.length = 0
    · rw [if_pos (by omega), if_pos h0]; rfl
    · rw [if_neg (by omega), if_neg h0, at0 (by omega), bindO_some, ← lenI_eq, lenPred (by omega) hl, atI_nat (by omega), bindO_some]
  · rw [if_neg h, if_pos h]; rfl
theorem blockOf_eq (l : List Pt) (hl : l.length < 4611686018427387904) : F_rainbookref_BlockOf l = some (makeR l) := by
  unfold F_rainbookref_BlockOf makeR
  rw [packed_eq l hl, bindO_some]
  simp only [ifB_neI, ifB_eqI, lenI_eq]
  by_cases h : (packP l).2 = 0
  · rw [if_pos h, if_neg (not_not_intro h)]
    by_cases h0 : l.length = 0
    · rw [if_pos (by omega), if_pos h0]; rfl
    · rw [if_neg (by omega), if_neg h0, if_pos h, at0 (by omega), bindO_some, ← lenI_eq, lenPred (by omega) hl, atI_nat (by omega), bindO_some]
  · rw [if_neg h, if_pos h, if_neg h]; rfl
theorem points_eq (x : Bk) (hx : x.2.2.2.length ≤ 140737488355200) : F_block_Points x = some (ptsR x) := by
  unfold F_block_Points ptsR
  have hl := unpackR_len x.2.2.2 x.1
  rw [unpack_eq _ _ hx, bindO_some]
  generalize unpackR x.2.2.2 x.1 = u at *
  simp only [ifB_neI, ifB_eqI, lenI_eq]
  by_cases h : u.2 = 0
  · rw [if_pos h, if_neg (not_not_intro h)]
    by_cases h0 : u.1.length = 0
    · rw [if_pos (by omega), if_pos (.inl h0)]
    · rw [if_neg (by omega), at0 (by omega), bindO_some, ← lenI_eq, lenPred (by omega) (by omega), atI_nat (by omega), bindO_some]
      by_cases h1 : (u.1.getD 0 default).1 = x.2.1
      · rw [if_pos h1]
        by_cases h2 : (u.1.getD (u.1.length - 1) default).1 = x.2.2.1
        · rw [if_pos h2, if_neg (by simp only [h0, h1, h2, not_true_eq_false, or_self, not_false_eq_true])]
        · rw [if_neg h2, if_pos (.inr (.inr h2))]
      · rw [if_neg h1, if_pos (.inr (.inl h1))]
  · rw [if_neg h, if_pos h]
theorem pointsOf_eq (x : Bk) (hx : x.2.2.2.length ≤ 140737488355200) : F_rainbookref_PointsOf x = some (ptsR x) := by
  unfold F_rainbookref_PointsOf ptsR
  have hl := unpackR_len x.2.2.2 x.1
  rw [unpacked_eq _ _ hx, bindO_some]
  generalize unpackR x.2.2.2 x.1 = u at *
  simp only [ifB_neI, ifB_eqI, lenI_eq]
  by_cases h : u.2 = 0
  · rw [if_pos h, if_neg (not_not_intro h)]
    by_cases h0 : u.1.length = 0
    · rw [if_pos (by omega), if_pos (.inl h0)]
    · rw [if_neg (by omega), at0 (by omega), bindO_some, ← lenI_eq, lenPred (by omega) (by omega), atI_nat (by omega), bindO_some]
      by_cases h1 : (u.1.getD 0 default).1 = x.2.1
      · rw [if_pos h1.symm]
        by_cases h2 : (u.1.getD (u.1.length - 1) default).1 = x.2.2.1
        · rw [if_pos h2.symm, if_pos h, if_neg (by simp only [h0, h1, h2, not_true_eq_false, or_self, not_false_eq_true])]
        · rw [if_neg (fun e => h2 e.symm), if_pos (.inr (.inr h2))]
      · rw [if_neg (fun e => h1 e.symm), if_pos (.inr (.inl h1))]
  · rw [if_neg h, if_pos h, if_neg h]
theorem merge_eq (x y : Bk) (hx : x.2.2.2.length ≤ 140737488355200) (hy : y.2.2.2.length ≤ 140737488355200) : F_block_Merge x y = some (mergeR x y) := by
  unfold F_block_Merge mergeR
  have hlx := ptsR_len x
  have hly := ptsR_len y
  rw [show ((x.1, x.2.1, x.2.2.1, x.2.2.2) : Bk) = x from rfl, show ((y.1, y.2.1, y.2.2.1, y.2.2.2) : Bk) = y from rfl, points_eq x hx, points_eq y hy, bindO_some, bindO_some, ifB_neI, ifB_neI]
  by_cases h : (ptsR x).2 = 0
  · rw [if_pos h, if_neg (not_not_intro h)]
    by_cases h1 : (ptsR y).2 = 0
    · rw [if_pos h1, if_neg (not_not_intro h1), concatP_eq (by simp) (by rw [flatten2, List.length_append]; omega), flatten2, bindO_some, make_eq _ (by rw [List.length_append]; omega), bindO_some]
    · rw [if_neg h1, if_pos h1]; rfl
  · rw [if_neg h, if_pos h]; rfl
theorem merged_eq (x y : Bk) (hx : x.2.2.2.length ≤ 140737488355200) (hy : y.2.2.2.length ≤ 140737488355200) : F_rainbookref_Merged x y = some (mergeR x y) := by
  unfold F_rainbookref_Merged mergeR
  have hlx := ptsR_len x
  have hly := ptsR_len y
  rw [show ((x.1, x.2.1, x.2.2.1, x.2.2.2) : Bk) = x from rfl, show ((y.1, y.2.1, y.2.2.1, y.2.2.2) : Bk) = y from rfl, pointsOf_eq x hx, pointsOf_eq y hy, bindO_some, bindO_some, ifB_neI, ifB_neI]
  by_cases h : (ptsR x).2 = 0
  · rw [if_pos h, if_neg (not_not_intro h)]
    by_cases h1 : (ptsR y).2 = 0
    · rw [if_pos h1, if_neg (not_not_intro h1), cloneP_eq (by omega), bindO_some, ifB_roomA, if_pos (by omega), cat_eq, blockOf_eq _ (by rw [List.length_append]; omega), bindO_some]
    · rw [if_neg h1, if_pos h1]; rfl
  · rw [if_neg h, if_pos h]; rfl
theorem copy_eq (x : Bk) (hx : x.2.2.2.length ≤ 140737488355200) : F_block_Copy x = some x := by
  unfold F_block_Copy
  rw [cloneB_eq (by omega), bindO_some]
theorem same_eq (x y : Bk) (hx : x.2.2.2.length ≤ 140737488355200) : F_block_Same x y = some (decide (x = y)) := by
  unfold F_block_Same
  rw [equalB_eq (by omega), bindO_some]
  obtain ⟨a, b, c, d⟩ := x; obtain ⟨a', b', c', d'⟩ := y
  simp only [ifB_eqI]
  by_cases h1 : a = a' <;> by_cases h2 : b = b' <;> by_cases h3 : c = c' <;> simp [h1, h2, h3]
theorem sameBlock_eq (x y : Bk) (hx : x.2.2.2.length ≤ 140737488355200) : F_rainbookref_SameBlock x y = some (decide (x = y)) := by
  unfold F_rainbookref_SameBlock
  rw [equalB_eq (by omega), bindO_some]
  obtain ⟨a, b, c, d⟩ := x; obtain ⟨a', b', c', d'⟩ := y
  simp only [ifB_eqI]
  by_cases h1 : a = a' <;> by_cases h2 : b = b' <;> by_cases h3 : c = c' <;> simp [h1, h2, h3]
end Go.Proofs.Y
namespace Go.Rb
def rp : List Bk → List Pt → List Pt × Int
  | [], acc => (acc, 0)
  | b :: r, acc => if (ptsR b).2 = 0 then rp r (acc ++ (ptsR b).1) else ([], (ptsR b).2)
def allR (r : Rowd) : List Pt × Int := if r.1.length > 8 then ([], 2) else if (rp r.1 []).2 = 0 then ((rp r.1 []).1 ++ r.2, checkL ((rp r.1 []).1 ++ r.2)) else ([], (rp r.1 []).2)
def rowsE : List Rowd → Int
  | [] => 0
  | r :: rs => if (allR r).2 = 0 then rowsE rs else (allR r).2
def chkS (s : Shf) : Int := if s.length = 4 then rowsE s else 4
def allS (s : Shf) (i : Int) : List Pt × Int := if chkS s = 0 then (if i < 0 ∨ (s.length : Int) ≤ i then ([], 5) else allR (s.getD i.toNat default)) else ([], chkS s)
def okB (b : Bk) : Prop := b.2.2.2.length ≤ 140737488355200
def okR (r : Rowd) : Prop := (∀ b ∈ r.1, okB b) ∧ r.1.length < 4611686018427387904 ∧ r.2.length ≤ 8796093022100
def okS (s : Shf) : Prop := s.length < 4611686018427387904 ∧ ∀ r ∈ s, okR r

theorem rp_len : ∀ (l : List Bk) (acc : List Pt), (rp l acc).1.length ≤ acc.length + 40 * l.length
  | [], acc => by simp [rp]
  | b :: r, acc => by
    have h := ptsR_len b
    rw [rp]
    split
    · have := rp_len r (acc ++ (ptsR b).1)
      rw [List.length_append] at this
      rw [List.length_cons]; omega
    · simp
theorem rowsE_zero : ∀ {s : List Rowd}, rowsE s = 0 ↔ ∀ r ∈ s, (allR r).2 = 0
  | [] => by simp [rowsE]
  | r :: s => by
    rw [rowsE]
    split
    · rename_i h; rw [rowsE_zero]; simp [h]
    · rename_i h; simp [h]
theorem chkS_zero {s : Shf} : chkS s = 0 ↔ s.length = 4 ∧ ∀ r ∈ s, (allR r).2 = 0 := by
  unfold chkS
  split
  · rename_i h; rw [rowsE_zero]; simp [h]
  · rename_i h; simp [h]
theorem allR_ok {r : Rowd} (h : (allR r).2 = 0) : r.1.length ≤ 8 ∧ (rp r.1 []).2 = 0 ∧ (allR r).1 = (rp r.1 []).1 ++ r.2 ∧ checkL ((rp r.1 []).1 ++ r.2) = 0 := by
  unfold allR at h ⊢
  split at h
  · cases h
  · rename_i h8
    split at h
    · rename_i h0
      rw [if_neg h8, if_pos h0]
      exact ⟨by omega, h0, rfl, h⟩
    · rename_i h0; exact absurd h h0
theorem allR_chk {r : Rowd} (h : (allR r).2 = 0) : checkL (allR r).1 = 0 := by
  obtain ⟨_, _, h1, h2⟩ := allR_ok h
  rw [h1]; exact h2
theorem allS_ok {s : Shf} {i : Int} (h : (allS s i).2 = 0) : chkS s = 0 ∧ 0 ≤ i ∧ i < 4 ∧ (allS s i) = allR (s.getD i.toNat default) ∧ checkL (allS s i).1 = 0 := by
  unfold allS at h ⊢
  split at h
  · rename_i hc
    have h4 := (chkS_zero.1 hc).1
    split at h
    · cases h
    · rename_i hi
      rw [if_pos hc, if_neg hi]
      exact ⟨hc, by omega, by omega, rfl, allR_chk h⟩
  · rename_i hc; exact absurd h hc
theorem allS_of {s : Shf} {i : Int} (h : chkS s = 0) (h0 : 0 ≤ i) (h1 : i < 4) : (allS s i).2 = 0 := by
  obtain ⟨h4, hr⟩ := chkS_zero.1 h
  unfold allS
  rw [if_pos h, if_neg (by omega)]
  exact hr _ (getD_mem (by omega))

/-! ### Rising points -/
def Rise (l : List Pt) : Prop := l.Pairwise fun p q => p.1 < q.1
theorem chk_rise : ∀ {l : List Pt} {L : Int}, chk L l = 0 → Rise l ∧ ∀ p ∈ l, L < p.1
  | [], _, _ => ⟨.nil, by simp⟩
  | p :: l, L, h => by
    obtain ⟨h1, h2, h3⟩ := chk_cons h
    obtain ⟨h4, h5⟩ := chk_rise h3
    refine ⟨List.pairwise_cons.2 ⟨h5, h4⟩, fun q hq => ?_⟩
    rcases List.mem_cons.1 hq with rfl | hq
    · exact h2
    · have := h5 q hq; omega
theorem checkL_rise {l : List Pt} (h : checkL l = 0) : Rise l := (chk_rise (checkL_chk h)).1
def keepP (a b : Int) (p : Pt) : Bool := decide (a ≤ p.1) && decide (p.1 < b)
def rangeR (l : List Pt) (a b : Int) : List Pt := l.filter (keepP a b)
theorem range_len (l : List Pt) (a b : Int) : (rangeR l a b).length ≤ l.length := List.length_filter_le _ _
theorem rise_split : ∀ {l : List Pt} {a b c : Int}, Rise l → a ≤ b → b ≤ c → rangeR l a c = rangeR l a b ++ rangeR l b c
  | [], _, _, _, _, _, _ => rfl
  | p :: l, a, b, c, h, h1, h2 => by
    have ih := rise_split (l := l) (List.pairwise_cons.1 h).2 h1 h2
    have hlt := (List.pairwise_cons.1 h).1
    unfold rangeR at *
    rw [List.filter_cons, List.filter_cons, List.filter_cons]
    by_cases ha : a ≤ p.1
    · by_cases hb : p.1 < b
      · have hc : p.1 < c := by omega
        rw [if_pos (by simp [keepP, ha, hc]), if_pos (by simp [keepP, ha, hb]), if_neg (by simp [keepP]; omega), ih]; rfl
      · -- behind p nothing is ahead of b
        have he : l.filter (keepP a b) = [] := by
          rw [List.filter_eq_nil_iff]
          intro q hq
          have := hlt q hq
          simp [keepP]; omega
        rw [if_neg (show ¬ keepP a b p = true by simp [keepP]; omega), he, List.nil_append]
        rw [he, List.nil_append] at ih
        by_cases hc : p.1 < c
        · rw [if_pos (by simp [keepP, ha, hc]), if_pos (by simp [keepP, hc]; omega), ih]
        · rw [if_neg (by simp [keepP]; omega), if_neg (by simp [keepP]; omega), ih]
    · rw [if_neg (by simp [keepP]; omega), if_neg (by simp [keepP]; omega), if_neg (by simp [keepP]; omega), ih]
theorem range_self (l : List Pt) (a b a' b' : Int) (h1 : a ≤ a') (h2 : b' ≤ b) : rangeR (rangeR l a b) a' b' = rangeR l a' b' := by
  unfold rangeR
  rw [List.filter_filter]
  congr 1
  funext p
  simp only [keepP]
  by_cases h3 : a' ≤ p.1 <;> by_cases h4 : p.1 < b' <;> simp [h3, h4] <;> omega
theorem range_rise {l : List Pt} (h : Rise l) (a b : Int) : Rise (rangeR l a b) := List.Pairwise.filter _ h
theorem range_none {l : List Pt} {a b : Int} (h : b ≤ a) : rangeR l a b = [] := by
  unfold rangeR
  rw [List.filter_eq_nil_iff]
  intro q _
  simp [keepP]; omega
theorem range_all {l : List Pt} {a b : Int} (h : ∀ p ∈ l, a ≤ p.1 ∧ p.1 < b) : rangeR l a b = l := by
  unfold rangeR
  rw [List.filter_eq_self]
  intro p hp
  have := h p hp
  simp [keepP, this]
theorem range_mem {l : List Pt} {a b : Int} {p : Pt} (h : p ∈ rangeR l a b) : p ∈ l ∧ a ≤ p.1 ∧ p.1 < b := by
  unfold rangeR at h
  rw [List.mem_filter] at h
  simp [keepP] at h
  exact ⟨h.1, h.2⟩
end Go.Rb
namespace Go.Proofs.Y
open Go.Rb Go.Kx
noncomputable def C_shelf_all : Code := bodyOf Try.f104
noncomputable def G_shelf_all : FuncId → Option GS := tabG [(52, R_block_Points), (31, B_line_Check)]
theorem g_shelf_all : ΓOK Try.prog G_shelf_all := ΓOK_cons (R_block_Points_ok) (ΓOK_cons (B_line_Check_ok) (ΓOK_nil))
def H_shelf_all : HT := ⟨tabL [(5, .it [] (dyn [.a 4 34 (.cons (.int .i64) (.one (.int .i64))), .t 16 (.int .i64)]))], tabH []⟩
abbrev is_shelf_all : List IT := [.v (.cons (.sl 58 (.cons (.int .i64) (.cons (.int .i64) (.cons (.int .i64) (.one (.sl 4 (.one .bool))))))) (.one (.sl 34 (.cons (.int .i64) (.one (.int .i64)))))) true]
abbrev os_shelf_all : List OT := [⟨.one (.sl 34 (.cons (.int .i64) (.one (.int .i64)))), false, [true]⟩, ⟨.one (.int .i64), false, []⟩]
set_option maxRecDepth 100000
noncomputable def F_shelf_all : List (Int × Int × Int × List Bool) × List (Int × Int) → Option (List (Int × Int) × Int) := fun (a : List (Int × Int × Int × List Bool) × List (Int × Int)) => ifB (gtI (lenI a.1) 8) (some ([], 2)) (loopN maxR (fun (x : Int × List (Int × Int)) => ifB (ltI x.1 (lenI a.1)) (bindO (atI a.1 x.1) fun (y : Int × Int × Int × List Bool) => bindO (F_block_Points (y.1, y.2.1, y.2.2.1, y.2.2.2)) fun (y : List (Int × Int) × Int) => ifB (neI y.2 0) (mapO Sum.inr (some ([], y.2))) (ifB (roomA 16 x.2 y.1) (some (Sum.inl (wadd .i64 x.1 1, cat x.2 y.1))) none)) (mapO Sum.inr (ifB (roomA 16 x.2 a.2) (bindO (F_line_Check (cat x.2 a.2)) fun (y : Int) => some (cat x.2 a.2, y)) none))) (0, []))
theorem F_shelf_all_eq (x : PI is_shelf_all) : F_shelf_all x = fnE T G_shelf_all H_shelf_all C_shelf_all (resOf Try.f104) is_shelf_all os_shelf_all x := by kernel_rfl
noncomputable abbrev R_shelf_all : GS := mkSpec false is_shelf_all os_shelf_all fun x => F_shelf_all x
theorem R_shelf_all_ok : GSOK Try.prog 104 R_shelf_all := spec_ok tok g_shelf_all fmo (Ht := H_shelf_all) (fn := Try.f104) (Try.func104) (c := C_shelf_all) (by kernel_rfl) (by kernel_rfl) (by kernel_rfl) (by decide +kernel) (by decide) F_shelf_all_eq
noncomputable abbrev B_shelf_all : GS := mkSpec true is_shelf_all os_shelf_all fun x => F_shelf_all x
theorem B_shelf_all_ok : GSOK Try.prog 104 B_shelf_all := spec_ok tok g_shelf_all fmo (Ht := H_shelf_all) (fn := Try.f104) (Try.func104) (c := C_shelf_all) (by kernel_rfl) (by kernel_rfl) (by kernel_rfl) (by decide +kernel) (by decide) F_shelf_all_eq
end Go.Proofs.Y
namespace Go.Proofs.Y
open Go.Rb Go.Kx
noncomputable def C_shelf_Check : Code := bodyOf Try.f75
noncomputable def G_shelf_Check : FuncId → Option GS := tabG [(104, R_shelf_all)]
theorem g_shelf_Check : ΓOK Try.prog G_shelf_Check := ΓOK_cons (R_shelf_all_ok) (ΓOK_nil)
def H_shelf_Check : HT := ⟨tabL [(4, .it [] (dyn [.t 14 (.int .i64)]))], tabH []⟩
abbrev is_shelf_Check : List IT := [.v (.one (.sl 78 (.cons (.sl 58 (.cons (.int .i64) (.cons (.int .i64) (.cons (.int .i64) (.one (.sl 4 (.one .bool))))))) (.one (.sl 34 (.cons (.int .i64) (.one (.int .i64)))))))) true]
abbrev os_shelf_Check : List OT := [⟨.one (.int .i64), false, []⟩]
set_option maxRecDepth 100000
noncomputable def F_shelf_Check : List (List (Int × Int × Int × List Bool) × List (Int × Int)) → Option Int := fun (a : List (List (Int × Int × Int × List Bool) × List (Int × Int))) => ifB (neI (lenI a) 4) (some 4) (loopN maxR (fun (x : Int) => ifB (ltI x (lenI a)) (bindO (atI a x) fun (y : List (Int × Int × Int × List Bool) × List (Int × Int)) => bindO (F_shelf_all (y.1, y.2)) fun (y : List (Int × Int) × Int) => ifB (neI y.2 0) (mapO Sum.inr (some y.2)) (some (Sum.inl (wadd .i64 x 1)))) (mapO Sum.inr (some 0))) 0)
theorem F_shelf_Check_eq (x : PI is_shelf_Check) : F_shelf_Check x = fnE T G_shelf_Check H_shelf_Check C_shelf_Check (resOf Try.f75) is_shelf_Check os_shelf_Check x := by kernel_rfl
noncomputable abbrev R_shelf_Check : GS := mkSpec false is_shelf_Check os_shelf_Check fun x => F_shelf_Check x
theorem R_shelf_Check_ok : GSOK Try.prog 75 R_shelf_Check := spec_ok tok g_shelf_Check fmo (Ht := H_shelf_Check) (fn := Try.f75) (Try.func75) (c := C_shelf_Check) (by kernel_rfl) (by kernel_rfl) (by kernel_rfl) (by decide +kernel) (by decide) F_shelf_Check_eq
end Go.Proofs.Y
namespace Go.Proofs.Y
open Go.Rb Go.Kx
noncomputable def C_shelf_All : Code := bodyOf Try.f69
noncomputable def G_shelf_All : FuncId → Option GS := tabG [(75, R_shelf_Check), (104, R_shelf_all)]
theorem g_shelf_All : ΓOK Try.prog G_shelf_All := ΓOK_cons (R_shelf_Check_ok) (ΓOK_cons (R_shelf_all_ok) (ΓOK_nil))
def H_shelf_All : HT := ⟨tabL [], tabH []⟩
abbrev is_shelf_All : List IT := [.v (.one (.sl 78 (.cons (.sl 58 (.cons (.int .i64) (.cons (.int .i64) (.cons (.int .i64) (.one (.sl 4 (.one .bool))))))) (.one (.sl 34 (.cons (.int .i64) (.one (.int .i64)))))))) true, .v (.one (.int .i64)) false]
abbrev os_shelf_All : List OT := [⟨.one (.sl 34 (.cons (.int .i64) (.one (.int .i64)))), false, [true]⟩, ⟨.one (.int .i64), false, []⟩]
set_option maxRecDepth 100000
noncomputable def F_shelf_All : List (List (Int × Int × Int × List Bool) × List (Int × Int)) → Int → Option (List (Int × Int) × Int) := fun (a : List (List (Int × Int × Int × List Bool) × List (Int × Int))) (b : Int) => bindO (F_shelf_Check a) fun (y : Int) => ifB (neI y 0) (some ([], y)) (ifB (ltI b 0) (some ([], 5)) (ifB (geI b (lenI a)) (some ([], 5)) (bindO (atI a b) fun (y : List (Int × Int × Int × List Bool) × List (Int × Int)) => bindO (F_shelf_all (y.1, y.2)) fun (y : List (Int × Int) × Int) => some (y.1, y.2))))
theorem F_shelf_All_eq (x : PI is_shelf_All) : F_shelf_All (x.1) (x.2) = fnE T G_shelf_All H_shelf_All C_shelf_All (resOf Try.f69) is_shelf_All os_shelf_All x := by kernel_rfl
noncomputable abbrev R_shelf_All : GS := mkSpec false is_shelf_All os_shelf_All fun x => F_shelf_All (x.1) (x.2)
theorem R_shelf_All_ok : GSOK Try.prog 69 R_shelf_All := spec_ok tok g_shelf_All fmo (Ht := H_shelf_All) (fn := Try.f69) (Try.func69) (c := C_shelf_All) (by kernel_rfl) (by kernel_rfl) (by kernel_rfl) (by decide +kernel) (by decide) F_shelf_All_eq
end Go.Proofs.Y
namespace Go.Proofs.Y
open Go.Rb Go.Kx
noncomputable def C_query_Last : Code := bodyOf Try.f62
noncomputable def G_query_Last : FuncId → Option GS := tabG [(69, R_shelf_All)]
theorem g_query_Last : ΓOK Try.prog G_query_Last := ΓOK_cons (R_shelf_All_ok) (ΓOK_nil)
def H_query_Last : HT := ⟨tabL [], tabH []⟩
abbrev is_query_Last : List IT := [.v (.one (.sl 78 (.cons (.sl 58 (.cons (.int .i64) (.cons (.int .i64) (.cons (.int .i64) (.one (.sl 4 (.one .bool))))))) (.one (.sl 34 (.cons (.int .i64) (.one (.int .i64)))))))) true, .v (.one (.int .i64)) false]
abbrev os_query_Last : List OT := [⟨.cons (.int .i64) (.one (.int .i64)), true, []⟩, ⟨.one .bool, false, []⟩, ⟨.one (.int .i64), false, []⟩]
set_option maxRecDepth 100000
noncomputable def F_query_Last : List (List (Int × Int × Int × List Bool) × List (Int × Int)) → Int → Option ((Int × Int) × Bool × Int) := fun (a : List (List (Int × Int × Int × List Bool) × List (Int × Int))) (b : Int) => bindO (F_shelf_All a b) fun (y : List (Int × Int) × Int) => ifB (neI y.2 0) (some ((0, 0), false, y.2)) (ifB (eqI (lenI y.1) 0) (some ((0, 0), false, y.2)) (ifB (ltL (wsub .i64 (lenI y.1) 1) y.1) (bindO (atN y.1 (natI (wsub .i64 (lenI y.1) 1))) fun (y : Int × Int) => some ((y.1, y.2), true, 0)) none))
theorem F_query_Last_eq (x : PI is_query_Last) : F_query_Last (x.1) (x.2) = fnE T G_query_Last H_query_Last C_query_Last (resOf Try.f62) is_query_Last os_query_Last x := by kernel_rfl
noncomputable abbrev R_query_Last : GS := mkSpec false is_query_Last os_query_Last fun x => F_query_Last (x.1) (x.2)
theorem R_query_Last_ok : GSOK Try.prog 62 R_query_Last := spec_ok tok g_query_Last fmo (Ht := H_query_Last) (fn := Try.f62) (Try.func62) (c := C_query_Last) (by kernel_rfl) (by kernel_rfl) (by kernel_rfl) (by decide +kernel) (by decide) F_query_Last_eq
end Go.Proofs.Y
namespace Go.Proofs.Y
open Go.Rb Go.Kx
noncomputable def C_rainbookref_RowPoints : Code := bodyOf Try.f65
noncomputable def G_rainbookref_RowPoints : FuncId → Option GS := tabG [(55, R_rainbookref_PointsOf), (49, R_rainbookref_CheckPoints)]
theorem g_rainbookref_RowPoints : ΓOK Try.prog G_rainbookref_RowPoints := ΓOK_cons (R_rainbookref_PointsOf_ok) (ΓOK_cons (R_rainbookref_CheckPoints_ok) (ΓOK_nil))
def H_rainbookref_RowPoints : HT := ⟨tabL [(5, .it [] (dyn [.a 4 34 (.cons (.int .i64) (.one (.int .i64))), .t 17 (.int .i64)]))], tabH []⟩
abbrev is_rainbookref_RowPoints : List IT := [.v (.cons (.sl 58 (.cons (.int .i64) (.cons (.int .i64) (.cons (.int .i64) (.one (.sl 4 (.one .bool))))))) (.one (.sl 34 (.cons (.int .i64) (.one (.int .i64)))))) true]
abbrev os_rainbookref_RowPoints : List OT := [⟨.one (.sl 34 (.cons (.int .i64) (.one (.int .i64)))), false, []⟩, ⟨.one (.int .i64), false, []⟩]
set_option maxRecDepth 100000
noncomputable def F_rainbookref_RowPoints : List (Int × Int × Int × List Bool) × List (Int × Int) → Option (List (Int × Int) × Int) := fun (a : List (Int × Int × Int × List Bool) × List (Int × Int)) => ifB (gtI (lenI a.1) 8) (some ([], 2)) (loopN maxR (fun (x : Int × List (Int × Int)) => ifB (ltI x.1 (lenI a.1)) (bindO (atI a.1 x.1) fun (y : Int × Int × Int × List Bool) => bindO (F_rainbookref_PointsOf (y.1, y.2.1, y.2.2.1, y.2.2.2)) fun (y : List (Int × Int) × Int) => ifB (neI y.2 0) (mapO Sum.inr (some ([], y.2))) (ifB (roomA 16 x.2 y.1) (some (Sum.inl (wadd .i64 x.1 1, cat x.2 y.1))) none)) (mapO Sum.inr (ifB (roomA 16 x.2 a.2) (bindO (F_rainbookref_CheckPoints (cat x.2 a.2)) fun (y : Int) => ifB (neI y 0) (some ([], y)) (some (cat x.2 a.2, 0))) none))) (0, []))
theorem F_rainbookref_RowPoints_eq (x : PI is_rainbookref_RowPoints) : F_rainbookref_RowPoints x = fnE T G_rainbookref_RowPoints H_rainbookref_RowPoints C_rainbookref_RowPoints (resOf Try.f65) is_rainbookref_RowPoints os_rainbookref_RowPoints x := by kernel_rfl
noncomputable abbrev R_rainbookref_RowPoints : GS := mkSpec false is_rainbookref_RowPoints os_rainbookref_RowPoints fun x => F_rainbookref_RowPoints x
theorem R_rainbookref_RowPoints_ok : GSOK Try.prog 65 R_rainbookref_RowPoints := spec_ok tok g_rainbookref_RowPoints fmo (Ht := H_rainbookref_RowPoints) (fn := Try.f65) (Try.func65) (c := C_rainbookref_RowPoints) (by kernel_rfl) (by kernel_rfl) (by kernel_rfl) (by decide +kernel) (by decide) F_rainbookref_RowPoints_eq
end Go.Proofs.Y
namespace Go.Proofs.Y
open Go.Rb Go.Kx
noncomputable def C_rainbookref_CheckShelf : Code := bodyOf Try.f63
noncomputable def G_rainbookref_CheckShelf : FuncId → Option GS := tabG [(65, R_rainbookref_RowPoints)]
theorem g_rainbookref_CheckShelf : ΓOK Try.prog G_rainbookref_CheckShelf := ΓOK_cons (R_rainbookref_RowPoints_ok) (ΓOK_nil)
def H_rainbookref_CheckShelf : HT := ⟨tabL [(4, .it [] (dyn [.t 14 (.int .i64)]))], tabH []⟩
abbrev is_rainbookref_CheckShelf : List IT := [.v (.one (.sl 78 (.cons (.sl 58 (.cons (.int .i64) (.cons (.int .i64) (.cons (.int .i64) (.one (.sl 4 (.one .bool))))))) (.one (.sl 34 (.cons (.int .i64) (.one (.int .i64)))))))) true]
abbrev os_rainbookref_CheckShelf : List OT := [⟨.one (.int .i64), false, []⟩]
set_option maxRecDepth 100000
noncomputable def F_rainbookref_CheckShelf : List (List (Int × Int × Int × List Bool) × List (Int × Int)) → Option Int := fun (a : List (List (Int × Int × Int × List Bool) × List (Int × Int))) => ifB (neI (lenI a) 4) (some 4) (loopN maxR (fun (x : Int) => ifB (ltI x (lenI a)) (bindO (atI a x) fun (y : List (Int × Int × Int × List Bool) × List (Int × Int)) => bindO (F_rainbookref_RowPoints (y.1, y.2)) fun (y : List (Int × Int) × Int) => ifB (neI y.2 0) (mapO Sum.inr (some y.2)) (some (Sum.inl (wadd .i64 x 1)))) (mapO Sum.inr (some 0))) 0)
theorem F_rainbookref_CheckShelf_eq (x : PI is_rainbookref_CheckShelf) : F_rainbookref_CheckShelf x = fnE T G_rainbookref_CheckShelf H_rainbookref_CheckShelf C_rainbookref_CheckShelf (resOf Try.f63) is_rainbookref_CheckShelf os_rainbookref_CheckShelf x := by kernel_rfl
noncomputable abbrev R_rainbookref_CheckShelf : GS := mkSpec false is_rainbookref_CheckShelf os_rainbookref_CheckShelf fun x => F_rainbookref_CheckShelf x
theorem R_rainbookref_CheckShelf_ok : GSOK Try.prog 63 R_rainbookref_CheckShelf := spec_ok tok g_rainbookref_CheckShelf fmo (Ht := H_rainbookref_CheckShelf) (fn := Try.f63) (Try.func63) (c := C_rainbookref_CheckShelf) (by kernel_rfl) (by kernel_rfl) (by kernel_rfl) (by decide +kernel) (by decide) F_rainbookref_CheckShelf_eq
end Go.Proofs.Y
namespace Go.Proofs.Y
open Go.Rb Go.Kx
noncomputable def C_rainbookref_Ranged : Code := bodyOf Try.f67
noncomputable def G_rainbookref_Ranged : FuncId → Option GS := tabG []
theorem g_rainbookref_Ranged : ΓOK Try.prog G_rainbookref_Ranged := ΓOK_nil
def H_rainbookref_Ranged : HT := ⟨tabL [(3, .it [] (dyn [.a 7 34 (.cons (.int .i64) (.one (.int .i64))), .t 12 (.int .i64)]))], tabH []⟩
abbrev is_rainbookref_Ranged : List IT := [.v (.one (.sl 34 (.cons (.int .i64) (.one (.int .i64))))) false, .v (.one (.int .i64)) false, .v (.one (.int .i64)) false]
abbrev os_rainbookref_Ranged : List OT := [⟨.one (.sl 34 (.cons (.int .i64) (.one (.int .i64)))), false, []⟩]
set_option maxRecDepth 100000
noncomputable def F_rainbookref_Ranged : List (Int × Int) → Int → Int → Option (List (Int × Int)) := fun (a : List (Int × Int)) (b c : Int) => loopN maxR (fun (x : Int × List (Int × Int)) => ifB (ltI x.1 (lenI a)) (bindO (atI a x.1) fun (y : Int × Int) => ifB (leI b y.1) (ifB (ltI y.1 c) (ifB (roomA 16 x.2 [(y.1, y.2)]) (some (Sum.inl (wadd .i64 x.1 1, cat x.2 [(y.1, y.2)]))) none) (some (Sum.inl (wadd .i64 x.1 1, x.2)))) (some (Sum.inl (wadd .i64 x.1 1, x.2)))) (mapO Sum.inr (some x.2))) (0, [])
theorem F_rainbookref_Ranged_eq (x : PI is_rainbookref_Ranged) : F_rainbookref_Ranged (x.1) (x.2.1) (x.2.2) = fnE T G_rainbookref_Ranged H_rainbookref_Ranged C_rainbookref_Ranged (resOf Try.f67) is_rainbookref_Ranged os_rainbookref_Ranged x := by kernel_rfl
noncomputable abbrev R_rainbookref_Ranged : GS := mkSpec false is_rainbookref_Ranged os_rainbookref_Ranged fun x => F_rainbookref_Ranged (x.1) (x.2.1) (x.2.2)
theorem R_rainbookref_Ranged_ok : GSOK Try.prog 67 R_rainbookref_Ranged := spec_ok tok g_rainbookref_Ranged fmo (Ht := H_rainbookref_Ranged) (fn := Try.f67) (Try.func67) (c := C_rainbookref_Ranged) (by kernel_rfl) (by kernel_rfl) (by kernel_rfl) (by decide +kernel) (by decide) F_rainbookref_Ranged_eq
end Go.Proofs.Y
namespace Go.Proofs.Y
open Go.Rb Go.Kx
theorem okB_get {r : Rowd} (h : okR r) {i : Nat} (hi : i < r.1.length) : okB (r.1.getD i default) := h.1 _ (getD_mem hi)
theorem all_eq (r : Rowd) (hr : okR r) : F_shelf_all r = some (allR r) := by
  unfold F_shelf_all allR
  have hok := hr
  obtain ⟨h1, h2, h3⟩ := hr
  rw [ifB_gtI, lenI_eq]
  by_cases h8 : (8 : Int) < r.1.length
  · rw [if_pos h8, if_pos (by omega)]
  · rw [if_neg h8, if_neg (by omega)]
    refine loop_range r.1 (fun j (s : List Pt) => ((j : Int), s)) (G := fun rest s => some (if (rp rest s).2 = 0 then ((rp rest s).1 ++ r.2, checkL ((rp rest s).1 ++ r.2)) else ([], (rp rest s).2))) (P := fun j s => s.length ≤ 40 * j) ?_ ?_ (s0 := []) (by simp) (by omega)
    · rintro j s hj hp k hk
      have hb := okB_get hok hj
      have hat := atI_nat hj
      generalize r.1.getD j default = b at *
      have hpl := ptsR_len b
      simp only [stepK_none, stepK_inl, stepK_inr, stepK_map, stepK_if, stepK_bind, ifB_t, ifB_f, ifB_same, ifB_ltI, ifB_leI, ifB_gtI, ifB_geI, ifB_eqI, ifB_neI, ifB_not, ifB_and, ifB_eqB, ifB_isE, ifB_in1, ifB_in2, ifB_in1N, ifB_in2N, ifB_in1C, ifB_in2C, ifB_inN, ifB_ltL, ifB_ltN, ifB_roomA, ifB_roomI, ifB_roomZ, ifB_roomS, ifB_eqS, ifB_eqL, ifB_fits, bindO_some, bindO_none, mapO_some, mapO_none, lenI_eq, lenN_eq, cat_eq, takeI_eq, dropI_eq, sliI_eq, setN_eq, natI_eq, intN_eq]
      rw [if_pos (by omega), hat, bindO_some, show ((b.1, b.2.1, b.2.2.1, b.2.2.2) : Bk) = b from rfl, points_eq b hb, bindO_some, wadd_nat (by omega)]
      by_cases hz : (ptsR b).2 = 0
      · rw [if_pos hz, if_pos (by omega), hk _ (by simp only [List.length_append]; omega)]
        simp only [rp, if_pos hz]
      · rw [if_neg hz]
        simp only [rp, if_neg hz]
    · rintro s hp k
      simp only [stepK_none, stepK_inl, stepK_inr, stepK_map, stepK_if, stepK_bind, ifB_t, ifB_f, ifB_same, ifB_ltI, ifB_leI, ifB_gtI, ifB_geI, ifB_eqI, ifB_neI, ifB_not, ifB_and, ifB_eqB, ifB_isE, ifB_in1, ifB_in2, ifB_in1N, ifB_in2N, ifB_in1C, ifB_in2C, ifB_inN, ifB_ltL, ifB_ltN, ifB_roomA, ifB_roomI, ifB_roomZ, ifB_roomS, ifB_eqS, ifB_eqL, ifB_fits, bindO_some, bindO_none, mapO_some, mapO_none, lenI_eq, lenN_eq, cat_eq, takeI_eq, dropI_eq, sliI_eq, setN_eq, natI_eq, intN_eq]
      rw [if_neg (by omega), if_pos (by omega), check_eq _ (by simp only [List.length_append]; omega), bindO_some]
      simp [rp]
def safeQ (q : List Pt × Int) : List Pt × Int := if q.2 = 0 then q else ([], q.2)
theorem rowPoints_eq (r : Rowd) (hr : okR r) : F_rainbookref_RowPoints r = some (safeQ (allR r)) := by
  unfold F_rainbookref_RowPoints
  have hok := hr
  obtain ⟨h1, h2, h3⟩ := hr
  rw [ifB_gtI, lenI_eq]
  by_cases h8 : (8 : Int) < r.1.length
  · have : allR r = ([], 2) := by unfold allR; rw [if_pos (by omega)]
    rw [if_pos h8, this]; rfl
  · have : allR r = if (rp r.1 []).2 = 0 then ((rp r.1 []).1 ++ r.2, checkL ((rp r.1 []).1 ++ r.2)) else ([], (rp r.1 []).2) := by
      unfold allR; rw [if_neg (by omega)]
    rw [if_neg h8, this]
    refine loop_range r.1 (fun j (s : List Pt) => ((j : Int), s)) (G := fun rest s => some (safeQ (if (rp rest s).2 = 0 then ((rp rest s).1 ++ r.2, checkL ((rp rest s).1 ++ r.2)) else ([], (rp rest s).2)))) (P := fun j s => s.length ≤ 40 * j) ?_ ?_ (s0 := []) (by simp) (by omega)
    · rintro j s hj hp k hk
      have hb := okB_get hok hj
      have hat := atI_nat hj
      generalize r.1.getD j default = b at *
      have hpl := ptsR_len b
      simp only [stepK_none, stepK_inl, stepK_inr, stepK_map, stepK_if, stepK_bind, ifB_t, ifB_f, ifB_same, ifB_ltI, ifB_leI, ifB_gtI, ifB_geI, ifB_eqI, ifB_neI, ifB_not, ifB_and, ifB_eqB, ifB_isE, ifB_in1, ifB_in2, ifB_in1N, ifB_in2N, ifB_in1C, ifB_in2C, ifB_inN, ifB_ltL, ifB_ltN, ifB_roomA, ifB_roomI, ifB_roomZ, ifB_roomS, ifB_eqS, ifB_eqL, ifB_fits, bindO_some, bindO_none, mapO_some, mapO_none, lenI_eq, lenN_eq, cat_eq, takeI_eq, dropI_eq, sliI_eq, setN_eq, natI_eq, intN_eq]
      rw [if_pos (by omega), hat, bindO_some, show ((b.1, b.2.1, b.2.2.1, b.2.2.2) : Bk) = b from rfl, pointsOf_eq b hb, bindO_some, wadd_nat (by omega)]
      by_cases hz : (ptsR b).2 = 0
      · rw [if_pos hz, if_pos (by omega), hk _ (by simp only [List.length_append]; omega)]
        simp only [rp, if_pos hz]
      · rw [if_neg hz]
        simp only [rp, if_neg hz, safeQ]
    · rintro s hp k
      simp only [stepK_none, stepK_inl, stepK_inr, stepK_map, stepK_if, stepK_bind, ifB_t, ifB_f, ifB_same, ifB_ltI, ifB_leI, ifB_gtI, ifB_geI, ifB_eqI, ifB_neI, ifB_not, ifB_and, ifB_eqB, ifB_isE, ifB_in1, ifB_in2, ifB_in1N, ifB_in2N, ifB_in1C, ifB_in2C, ifB_inN, ifB_ltL, ifB_ltN, ifB_roomA, ifB_roomI, ifB_roomZ, ifB_roomS, ifB_eqS, ifB_eqL, ifB_fits, bindO_some, bindO_none, mapO_some, mapO_none, lenI_eq, lenN_eq, cat_eq, takeI_eq, dropI_eq, sliI_eq, setN_eq, natI_eq, intN_eq]
      rw [if_neg (by omega), if_pos (by omega), checks_eq _ (by simp only [List.length_append]; omega), bindO_some]
      simp only [rp, if_true, safeQ]
      split
      · rename_i h; rw [h]
      · rfl
theorem checkS_eq (s : Shf) (hs : okS s) : F_shelf_Check s = some (chkS s) := by
  unfold F_shelf_Check chkS
  obtain ⟨h1, h2⟩ := hs
  rw [ifB_neI, lenI_eq]
  by_cases h4 : (s.length : Int) = 4
  · rw [if_pos h4, if_pos (by omega)]
    refine loop_range s (fun j (_ : Unit) => (j : Int)) (G := fun rest _ => some (rowsE rest)) (P := fun _ _ => True) ?_ ?_ (s0 := ()) trivial (by omega)
    · rintro j _ hj _ k hk
      have hr := h2 _ (getD_mem hj)
      have hat := atI_nat hj
      generalize s.getD j default = r at *
      simp only [stepK_none, stepK_inl, stepK_inr, stepK_map, stepK_if, stepK_bind, ifB_t, ifB_f, ifB_same, ifB_ltI, ifB_leI, ifB_gtI, ifB_geI, ifB_eqI, ifB_neI, ifB_not, ifB_and, ifB_eqB, ifB_isE, ifB_in1, ifB_in2, ifB_in1N, ifB_in2N, ifB_in1C, ifB_in2C, ifB_inN, ifB_ltL, ifB_ltN, ifB_roomA, ifB_roomI, ifB_roomZ, ifB_roomS, ifB_eqS, ifB_eqL, ifB_fits, bindO_some, bindO_none, mapO_some, mapO_none, lenI_eq, lenN_eq, cat_eq, takeI_eq, dropI_eq, sliI_eq, setN_eq, natI_eq, intN_eq]
      rw [if_pos (by omega), hat, bindO_some, show ((r.1, r.2) : Rowd) = r from rfl, all_eq r hr, bindO_some, wadd_nat (by omega), hk () trivial, rowsE]
      split <;> rfl
    · rintro _ _ k
      simp only [stepK_none, stepK_inl, stepK_inr, stepK_map, stepK_if, stepK_bind, ifB_t, ifB_f, ifB_same, ifB_ltI, ifB_leI, ifB_gtI, ifB_geI, ifB_eqI, ifB_neI, ifB_not, ifB_and, ifB_eqB, ifB_isE, ifB_in1, ifB_in2, ifB_in1N, ifB_in2N, ifB_in1C, ifB_in2C, ifB_inN, ifB_ltL, ifB_ltN, ifB_roomA, ifB_roomI, ifB_roomZ, ifB_roomS, ifB_eqS, ifB_eqL, ifB_fits, bindO_some, bindO_none, mapO_some, mapO_none, lenI_eq, lenN_eq, cat_eq, takeI_eq, dropI_eq, sliI_eq, setN_eq, natI_eq, intN_eq]
      rw [if_neg (by omega)]; rfl
  · rw [if_neg h4, if_neg (by omega)]
theorem checkShelf_eq (s : Shf) (hs : okS s) : F_rainbookref_CheckShelf s = some (chkS s) := by
  unfold F_rainbookref_CheckShelf chkS
  obtain ⟨h1, h2⟩ := hs
  rw [ifB_neI, lenI_eq]
  by_cases h4 : (s.length : Int) = 4
  · rw [if_pos h4, if_pos (by omega)]
    refine loop_range s (fun j (_ : Unit) => (j : Int)) (G := fun rest _ => some (rowsE rest)) (P := fun _ _ => True) ?_ ?_ (s0 := ()) trivial (by omega)
    · rintro j _ hj _ k hk
      have hr := h2 _ (getD_mem hj)
      have hat := atI_nat hj
      generalize s.getD j default = r at *
      simp only [stepK_none, stepK_inl, stepK_inr, stepK_map, stepK_if, stepK_bind, ifB_t, ifB_f, ifB_same, ifB_ltI, ifB_leI, ifB_gtI, ifB_geI, ifB_eqI, ifB_neI, ifB_not, ifB_and, ifB_eqB, ifB_isE, ifB_in1, ifB_in2, ifB_in1N, ifB_in2N, ifB_in1C, ifB_in2C, ifB_inN, ifB_ltL, ifB_ltN, ifB_roomA, ifB_roomI, ifB_roomZ, ifB_roomS, ifB_eqS, ifB_eqL, ifB_fits, bindO_some, bindO_none, mapO_some, mapO_none, lenI_eq, lenN_eq, cat_eq, takeI_eq, dropI_eq, sliI_eq, setN_eq, natI_eq, intN_eq]
      rw [if_pos (by omega), hat, bindO_some, show ((r.1, r.2) : Rowd) = r from rfl, rowPoints_eq r hr, bindO_some, wadd_nat (by omega), hk () trivial, rowsE]
      unfold safeQ
      by_cases hz : (allR r).2 = 0
      · rw [if_pos hz, if_pos hz, if_pos hz]
      · rw [if_neg hz, if_neg hz, if_neg hz]
    · rintro _ _ k
      simp only [stepK_none, stepK_inl, stepK_inr, stepK_map, stepK_if, stepK_bind, ifB_t, ifB_f, ifB_same, ifB_ltI, ifB_leI, ifB_gtI, ifB_geI, ifB_eqI, ifB_neI, ifB_not, ifB_and, ifB_eqB, ifB_isE, ifB_in1, ifB_in2, ifB_in1N, ifB_in2N, ifB_in1C, ifB_in2C, ifB_inN, ifB_ltL, ifB_ltN, ifB_roomA, ifB_roomI, ifB_roomZ, ifB_roomS, ifB_eqS, ifB_eqL, ifB_fits, bindO_some, bindO_none, mapO_some, mapO_none, lenI_eq, lenN_eq, cat_eq, takeI_eq, dropI_eq, sliI_eq, setN_eq, natI_eq, intN_eq]
      rw [if_neg (by omega)]; rfl
  · rw [if_neg h4, if_neg (by omega)]
theorem allS_eq (s : Shf) (i : Int) (hs : okS s) : F_shelf_All s i = some (allS s i) := by
  unfold F_shelf_All allS
  rw [checkS_eq s hs, bindO_some, ifB_neI, ifB_ltI, ifB_geI, lenI_eq]
  by_cases hc : chkS s = 0
  · rw [if_pos hc, if_pos hc]
    by_cases h0 : i < 0
    · rw [if_pos h0, if_pos (.inl h0)]
    · rw [if_neg h0]
      by_cases h1 : (s.length : Int) ≤ i
      · rw [if_pos h1, if_pos (.inr h1)]
      · have hr := hs.2 _ (getD_mem (l := s) (i := i.toNat) (by omega))
        rw [if_neg h1, if_neg (by omega), atI_int (by omega) (by omega), bindO_some]
        generalize s.getD i.toNat default = r at *
        rw [show ((r.1, r.2) : Rowd) = r from rfl, all_eq r hr, bindO_some]
  · rw [if_neg hc, if_neg hc]
theorem allS_len {s : Shf} {i : Int} (h : (allS s i).2 = 0) : (allS s i).1.length ≤ 40 := checkL_len (allS_ok h).2.2.2.2
def lastR (l : List Pt) : Pt × Bool := if l.length = 0 then ((0, 0), false) else (l.getD (l.length - 1) default, true)
theorem last_eq (s : Shf) (i : Int) (hs : okS s) : F_query_Last s i = some (if (allS s i).2 = 0 then ((lastR (allS s i).1).1, (lastR (allS s i).1).2, 0) else ((0, 0), false, (allS s i).2)) := by
  unfold F_query_Last
  rw [allS_eq s i hs, bindO_some, ifB_neI, ifB_eqI]
  by_cases h : (allS s i).2 = 0
  · have hl := allS_len h
    rw [if_pos h, if_pos h]
    generalize allS s i = q at *
    unfold lastR
    rw [lenI_eq]
    by_cases h0 : q.1.length = 0
    · rw [if_pos (by omega), if_pos h0, h]
    · rw [if_neg (by omega), if_neg h0, ← lenI_eq, lenPred (by omega) (by omega), ifB_ltL, if_pos ⟨by omega, by omega⟩, natI_eq, Int.toNat_natCast, atN_nat (by omega), bindO_some]
  · rw [if_neg h, if_neg h]
theorem ranged_eq (l : List Pt) (a b : Int) (hl : l.length ≤ 8796093022100) : F_rainbookref_Ranged l a b = some (rangeR l a b) := by
  unfold F_rainbookref_Ranged rangeR
  refine (loop_range l (fun j (s : List Pt) => ((j : Int), s)) (G := fun rest s => some (s ++ rest.filter (keepP a b))) (P := fun j s => s.length ≤ j) ?_ ?_ (s0 := []) (by simp) (by omega)).trans (by simp)
  · rintro j s hj hp k hk
    generalize hx : l.getD j default = p
    simp only [stepK_none, stepK_inl, stepK_inr, stepK_map, stepK_if, stepK_bind, ifB_t, ifB_f, ifB_same, ifB_ltI, ifB_leI, ifB_gtI, ifB_geI, ifB_eqI, ifB_neI, ifB_not, ifB_and, ifB_eqB, ifB_isE, ifB_in1, ifB_in2, ifB_in1N, ifB_in2N, ifB_in1C, ifB_in2C, ifB_inN, ifB_ltL, ifB_ltN, ifB_roomA, ifB_roomI, ifB_roomZ, ifB_roomS, ifB_eqS, ifB_eqL, ifB_fits, bindO_some, bindO_none, mapO_some, mapO_none, lenI_eq, lenN_eq, cat_eq, takeI_eq, dropI_eq, sliI_eq, setN_eq, natI_eq, intN_eq]
    rw [if_pos (by omega), atI_nat hj, bindO_some, hx, wadd_nat (by omega), List.filter_cons]
    simp only [List.length_cons, List.length_nil]
    by_cases h1 : a ≤ p.1
    · rw [if_pos h1]
      by_cases h2 : p.1 < b
      · rw [if_pos h2, if_pos (by omega), hk _ (by simp only [List.length_append, List.length_cons, List.length_nil]; omega), if_pos (by simp [keepP, h1, h2])]
        simp
      · rw [if_neg h2, hk _ (by omega), if_neg (by simp [keepP]; omega)]
    · rw [if_neg h1, hk _ (by omega), if_neg (by simp [keepP]; omega)]
  · rintro s hp k
    simp only [stepK_none, stepK_inl, stepK_inr, stepK_map, stepK_if, stepK_bind, ifB_t, ifB_f, ifB_same, ifB_ltI, ifB_leI, ifB_gtI, ifB_geI, ifB_eqI, ifB_neI, ifB_not, ifB_and, ifB_eqB, ifB_isE, ifB_in1, ifB_in2, ifB_in1N, ifB_in2N, ifB_in1C, ifB_in2C, ifB_inN, ifB_ltL, ifB_ltN, ifB_roomA, ifB_roomI, ifB_roomZ, ifB_roomS, ifB_eqS, ifB_eqL, ifB_fits, bindO_some, bindO_none, mapO_some, mapO_none, lenI_eq, lenN_eq, cat_eq, takeI_eq, dropI_eq, sliI_eq, setN_eq, natI_eq, intN_eq]
    rw [if_neg (by omega)]; simp
end Go.Proofs.Y
namespace Go.Proofs.Y
open Go.Rb Go.Kx
noncomputable def C_query_Range_1 : Code := bodyOf Try.f102
noncomputable def G_query_Range_1 : FuncId → Option GS := tabG []
theorem g_query_Range_1 : ΓOK Try.prog G_query_Range_1 := ΓOK_nil
def H_query_Range_1 : HT := ⟨tabL [], tabH []⟩
noncomputable def I_query_Range_1 : GS := inl T G_query_Range_1 H_query_Range_1 C_query_Range_1 (resOf Try.f102) (Try.f102.ntmps)
theorem I_query_Range_1_ok : GSOK Try.prog 102 I_query_Range_1 := inl_ok tok g_query_Range_1 fmo (Ht := H_query_Range_1) (fn := Try.f102) (Try.func102) (c := C_query_Range_1) (by kernel_rfl) (by kernel_rfl) (by kernel_rfl)
end Go.Proofs.Y
namespace Go.Proofs.Y
open Go.Rb Go.Kx
noncomputable def C_indexFuncP : Code := bodyOf Try.f124
noncomputable def G_indexFuncP : FuncId → Option GS := tabG [(102, I_query_Range_1)]
theorem g_indexFuncP : ΓOK Try.prog G_indexFuncP := ΓOK_cons (I_query_Range_1_ok) (ΓOK_nil)
def H_indexFuncP : HT := ⟨tabL [(2, .it [] (dyn [.t 8 (.int .i64)]))], tabH []⟩
noncomputable def I_indexFuncP : GS := inl T G_indexFuncP H_indexFuncP C_indexFuncP (resOf Try.f124) (Try.f124.ntmps)
theorem I_indexFuncP_ok : GSOK Try.prog 124 I_indexFuncP := inl_ok tok g_indexFuncP fmo (Ht := H_indexFuncP) (fn := Try.f124) (Try.func124) (c := C_indexFuncP) (by kernel_rfl) (by kernel_rfl) (by kernel_rfl)
end Go.Proofs.Y
namespace Go.Proofs.Y
open Go.Rb Go.Kx
noncomputable def C_deleteFuncP : Code := bodyOf Try.f101
noncomputable def G_deleteFuncP : FuncId → Option GS := tabG [(124, I_indexFuncP), (102, I_query_Range_1)]
theorem g_deleteFuncP : ΓOK Try.prog G_deleteFuncP := ΓOK_cons (I_indexFuncP_ok) (ΓOK_cons (I_query_Range_1_ok) (ΓOK_nil))
def H_deleteFuncP : HT := ⟨tabL [(5, .it [] (dyn [.t 5 (.int .i64), .t 6 (.int .i64), .a 0 34 (.cons (.int .i64) (.one (.int .i64)))]))], tabH [(5, [.touch 0])]⟩
noncomputable def I_deleteFuncP : GS := inl T G_deleteFuncP H_deleteFuncP C_deleteFuncP (resOf Try.f101) (Try.f101.ntmps)
theorem I_deleteFuncP_ok : GSOK Try.prog 101 I_deleteFuncP := inl_ok tok g_deleteFuncP fmo (Ht := H_deleteFuncP) (fn := Try.f101) (Try.func101) (c := C_deleteFuncP) (by kernel_rfl) (by kernel_rfl) (by kernel_rfl)
end Go.Proofs.Y
namespace Go.Proofs.Y
open Go.Rb Go.Kx
noncomputable def C_query_Range : Code := bodyOf Try.f60
noncomputable def G_query_Range : FuncId → Option GS := tabG [(69, R_shelf_All), (102, I_query_Range_1), (101, I_deleteFuncP)]
theorem g_query_Range : ΓOK Try.prog G_query_Range := ΓOK_cons (R_shelf_All_ok) (ΓOK_cons (I_query_Range_1_ok) (ΓOK_cons (I_deleteFuncP_ok) (ΓOK_nil)))
def H_query_Range : HT := ⟨tabL [], tabH []⟩
abbrev is_query_Range : List IT := [.v (.one (.sl 78 (.cons (.sl 58 (.cons (.int .i64) (.cons (.int .i64) (.cons (.int .i64) (.one (.sl 4 (.one .bool))))))) (.one (.sl 34 (.cons (.int .i64) (.one (.int .i64)))))))) true, .v (.one (.int .i64)) false, .v (.one (.int .i64)) false, .v (.one (.int .i64)) false]
abbrev os_query_Range : List OT := [⟨.one (.sl 34 (.cons (.int .i64) (.one (.int .i64)))), false, []⟩, ⟨.one (.int .i64), false, []⟩]
set_option maxRecDepth 100000
noncomputable def F_query_Range : List (List (Int × Int × Int × List Bool) × List (Int × Int)) → Int → Int → Int → Option (List (Int × Int) × Int) := fun (a : List (List (Int × Int × Int × List Bool) × List (Int × Int))) (b c d : Int) => bindO (F_shelf_All a b) fun (y : List (Int × Int) × Int) => ifB (neI y.2 0) (some ([], y.2)) (loopN maxR (fun (x : Int) => ifB (ltI x (lenI y.1)) (ifB (ltL x y.1) (bindO (atN y.1 (natI x)) fun (y_1 : Int × Int) => ifB (ltI y_1.1 c) (mapO Sum.inr (ifB (eqI x (-1)) (some (y.1, 0)) (loopN maxR (fun (x : Int × Int × List (Int × Int)) => ifB (ltI x.2.1 (lenI x.2.2)) (ifB (ltL x.2.1 x.2.2) (bindO (atN x.2.2 (natI x.2.1)) fun (y : Int × Int) => ifB (ltI y.1 c) (some (Sum.inl (x.1, wadd .i64 x.2.1 1, x.2.2))) (ifB (notB (geI y.1 d)) (ifB (ltL x.1 x.2.2) (bindO (atN x.2.2 (natI x.1)) fun (y_2 : Int × Int) => some (Sum.inl (wadd .i64 x.1 1, wadd .i64 x.2.1 1, setN x.2.2 (natI x.1) (y.1, y.2)))) none) (some (Sum.inl (x.1, wadd .i64 x.2.1 1, x.2.2))))) none) (mapO Sum.inr (ifB (in1 x.2.2 x.1) (ifB (inN x.2.2 (addN 0 (natI x.1)) (subNI (lenN x.2.2) x.1)) (ifB (in1 (overN x.2.2 (addN 0 (natI x.1)) (repN (subNI (lenN x.2.2) x.1) (0, 0))) x.1) (ifB (inN (overN x.2.2 (addN 0 (natI x.1)) (repN (subNI (lenN x.2.2) x.1) (0, 0))) 0 (natI x.1)) (some (subN (overN x.2.2 (addN 0 (natI x.1)) (repN (subNI (lenN x.2.2) x.1) (0, 0))) 0 (natI x.1), 0)) none) none) none) none))) (x, wadd .i64 x 1, y.1)))) (ifB (geI y_1.1 d) (mapO Sum.inr (ifB (eqI x (-1)) (some (y.1, 0)) (loopN maxR (fun (x : Int × Int × List (Int × Int)) => ifB (ltI x.2.1 (lenI x.2.2)) (ifB (ltL x.2.1 x.2.2) (bindO (atN x.2.2 (natI x.2.1)) fun (y : Int × Int) => ifB (ltI y.1 c) (some (Sum.inl (x.1, wadd .i64 x.2.1 1, x.2.2))) (ifB (notB (geI y.1 d)) (ifB (ltL x.1 x.2.2) (bindO (atN x.2.2 (natI x.1)) fun (y_2 : Int × Int) => some (Sum.inl (wadd .i64 x.1 1, wadd .i64 x.2.1 1, setN x.2.2 (natI x.1) (y.1, y.2)))) none) (some (Sum.inl (x.1, wadd .i64 x.2.1 1, x.2.2))))) none) (mapO Sum.inr (ifB (in1 x.2.2 x.1) (ifB (inN x.2.2 (addN 0 (natI x.1)) (subNI (lenN x.2.2) x.1)) (ifB (in1 (overN x.2.2 (addN 0 (natI x.1)) (repN (subNI (lenN x.2.2) x.1) (0, 0))) x.1) (ifB (inN (overN x.2.2 (addN 0 (natI x.1)) (repN (subNI (lenN x.2.2) x.1) (0, 0))) 0 (natI x.1)) (some (subN (overN x.2.2 (addN 0 (natI x.1)) (repN (subNI (lenN x.2.2) x.1) (0, 0))) 0 (natI x.1), 0)) none) none) none) none))) (x, wadd .i64 x 1, y.1)))) (some (Sum.inl (wadd .i64 x 1))))) none) (mapO Sum.inr (some (y.1, 0)))) 0)
theorem F_query_Range_eq (x : PI is_query_Range) : F_query_Range (x.1) (x.2.1) (x.2.2.1) (x.2.2.2) = fnE T G_query_Range H_query_Range C_query_Range (resOf Try.f60) is_query_Range os_query_Range x := by kernel_rfl
noncomputable abbrev R_query_Range : GS := mkSpec false is_query_Range os_query_Range fun x => F_query_Range (x.1) (x.2.1) (x.2.2.1) (x.2.2.2)
theorem R_query_Range_ok : GSOK Try.prog 60 R_query_Range := spec_ok tok g_query_Range fmo (Ht := H_query_Range) (fn := Try.f60) (Try.func60) (c := C_query_Range) (by kernel_rfl) (by kernel_rfl) (by kernel_rfl) (by decide +kernel) (by decide) F_query_Range_eq
end Go.Proofs.Y
namespace Go.Proofs.Y
open Go.Rb Go.Kx
theorem set_take {α : Type} {l : List α} {i : Nat} {x : α} (h : i < l.length) : (l.set i x).take (i + 1) = l.take i ++ [x] := by
  have hl : (l.take i).length = i := by rw [List.length_take]; omega
  rw [List.set_eq_take_append_cons_drop, if_pos h, List.take_append, hl, List.take_of_length_le (by omega), Nat.add_sub_cancel_left]
  rfl
theorem set_drop {α : Type} {l : List α} {i j : Nat} {x : α} (h : i < j) : (l.set i x).drop j = l.drop j := by
  rw [List.drop_set, if_pos h]
theorem getD_drop {α : Type} [Inhabited α] {a b : List α} {j : Nat} (h : a.drop j = b.drop j) (ha : j < a.length) (hb : j < b.length) : a.getD j default = b.getD j default := by
  rw [drop_cons ha, drop_cons hb] at h
  exact (List.cons.inj h).1
theorem drop_succ_of {α : Type} {a b : List α} {j : Nat} (h : a.drop j = b.drop j) : a.drop (j + 1) = b.drop (j + 1) := by
  rw [← List.drop_drop, ← List.drop_drop, h]
theorem filter_take {α : Type} [Inhabited α] (f : α → Bool) {l : List α} {j : Nat} (h : j < l.length) : (l.take (j + 1)).filter f = (l.take j).filter f ++ (if f (l.getD j default) = true then [l.getD j default] else []) := by
  rw [take_next h, List.filter_append]
  congr 1
  rw [List.filter_cons, List.filter_nil]
/-- What stands behind the end is cleared. -/
theorem clear_end {α : Type} (rows : List α) (i : Nat) (z : α) (h : i ≤ rows.length) {β : Type} (e : List α → Option β) :
    ifB (in1 rows (i : Int)) (ifB (inN rows (addN 0 (natI (i : Int))) (subNI (lenN rows) (i : Int))) (ifB (in1 (overN rows (addN 0 (natI (i : Int))) (repN (subNI (lenN rows) (i : Int)) z)) (i : Int))
      (ifB (inN (overN rows (addN 0 (natI (i : Int))) (repN (subNI (lenN rows) (i : Int)) z)) 0 (natI (i : Int))) (e (subN (overN rows (addN 0 (natI (i : Int))) (repN (subNI (lenN rows) (i : Int)) z)) 0 (natI (i : Int)))) none) none) none) none = e (rows.take i) := by
  have e1 : addN 0 (natI (i : Int)) = i := by simp [addN, natI]
  have e2 : subNI (lenN rows) (i : Int) = rows.length - i := by simp [subNI, lenN]
  have e3 : natI (i : Int) = i := rfl
  rw [e1, e2, e3]
  have hl : (overN rows i (repN (rows.length - i) z)).length = rows.length := by simp [overN, repN]; omega
  have hs : subN (overN rows i (repN (rows.length - i) z)) 0 i = rows.take i := by
    unfold subN overN
    rw [List.drop_zero, List.append_assoc, List.take_append_of_le_length (by simp; omega), List.take_take, Nat.min_self]
  rw [ifB_in1, if_pos ⟨by omega, by omega⟩, ifB_inN, if_pos (by omega), ifB_in1, if_pos ⟨by omega, by omega⟩, ifB_inN, if_pos (by omega), hs]
/-- What is to go is written over by what is behind. -/
theorem compact_eq (l : List Pt) (c d : Int) (x : Nat) (hx : x < l.length) (hl : l.length < 4611686018427387904) (hpre : ∀ p ∈ l.take x, keepP c d p = true) (hnot : keepP c d (l.getD x default) = false) :
    loopN maxR (fun (x : Int × Int × List (Int × Int)) => ifB (ltI (Prod.fst (Prod.snd x)) (lenI (Prod.snd (Prod.snd x)))) (ifB (ltL (Prod.fst (Prod.snd x)) (Prod.snd (Prod.snd x)))
        (bindO (atN (Prod.snd (Prod.snd x)) (natI (Prod.fst (Prod.snd x)))) fun (y : Int × Int) => ifB (ltI (Prod.fst y) c) (some (Sum.inl (Prod.fst x, wadd IntKind.i64 (Prod.fst (Prod.snd x)) 1, Prod.snd (Prod.snd x))))
          (ifB (notB (geI (Prod.fst y) d)) (ifB (ltL (Prod.fst x) (Prod.snd (Prod.snd x))) (bindO (atN (Prod.snd (Prod.snd x)) (natI (Prod.fst x))) fun (y_2 : Int × Int) =>
              some (Sum.inl (wadd IntKind.i64 (Prod.fst x) 1, wadd IntKind.i64 (Prod.fst (Prod.snd x)) 1, setN (Prod.snd (Prod.snd x)) (natI (Prod.fst x)) (Prod.fst y, Prod.snd y)))) none)
            (some (Sum.inl (Prod.fst x, wadd IntKind.i64 (Prod.fst (Prod.snd x)) 1, Prod.snd (Prod.snd x)))))) none)
      (mapO Sum.inr (ifB (in1 (Prod.snd (Prod.snd x)) (Prod.fst x)) (ifB (inN (Prod.snd (Prod.snd x)) (addN 0 (natI (Prod.fst x))) (subNI (lenN (Prod.snd (Prod.snd x))) (Prod.fst x)))
        (ifB (in1 (overN (Prod.snd (Prod.snd x)) (addN 0 (natI (Prod.fst x))) (repN (subNI (lenN (Prod.snd (Prod.snd x))) (Prod.fst x)) (0, 0))) (Prod.fst x))
          (ifB (inN (overN (Prod.snd (Prod.snd x)) (addN 0 (natI (Prod.fst x))) (repN (subNI (lenN (Prod.snd (Prod.snd x))) (Prod.fst x)) (0, 0))) 0 (natI (Prod.fst x)))
            (some (subN (overN (Prod.snd (Prod.snd x)) (addN 0 (natI (Prod.fst x))) (repN (subNI (lenN (Prod.snd (Prod.snd x))) (Prod.fst x)) (0, 0))) 0 (natI (Prod.fst x)), (0 : Int))) none) none) none) none)))
      ((x : Int), wadd IntKind.i64 (x : Int) 1, l) = some (rangeR l c d, 0) := by
  rw [wadd_nat (by omega)]
  have hst : (l.take (x + 1)).filter (keepP c d) = l.take x := by
    rw [filter_take _ hx, hnot, List.filter_eq_self.2 hpre]; simp
  refine loop_ind (G := fun _ => some (rangeR l c d, (0 : Int))) (P := fun (y : Int × Int × List Pt) => 0 ≤ y.1 ∧ y.1 < y.2.1 ∧ y.2.1 ≤ l.length ∧ y.2.2.length = l.length ∧ y.2.2.take y.1.toNat = (l.take y.2.1.toNat).filter (keepP c d) ∧ y.2.2.drop y.2.1.toNat = l.drop y.2.1.toNat) (μ := fun y => l.length - y.2.1.toNat) ?_ maxR _ ⟨by show (0 : Int) ≤ x; omega, by show (x : Int) < ((x + 1 : Nat) : Int); omega, by show ((x + 1 : Nat) : Int) ≤ l.length; omega, rfl, hst.symm, rfl⟩ (by show l.length - ((x + 1 : Nat) : Int).toNat < maxR; unfold maxR; omega)
  rintro ⟨i0, j0, rows⟩ ⟨g0, g1, g2, g3, g4, g5⟩ K hk
  simp only at g0 g1 g2 g3 g4 g5
  obtain ⟨i, rfl⟩ : ∃ i : Nat, i0 = i := ⟨i0.toNat, by omega⟩
  obtain ⟨j, rfl⟩ : ∃ j : Nat, j0 = j := ⟨j0.toNat, by omega⟩
  simp only [Int.toNat_natCast] at g4 g5
  rw [stepK_ifB, stepK_map, ifB_ltI, lenI_eq]
  by_cases hj : (j : Int) < rows.length
  · rw [if_pos hj]
    simp only [stepK_ifB, stepK_bind, stepK_inl, stepK_none]
    rw [ifB_ltL, if_pos ⟨by omega, hj⟩, natI_eq, Int.toNat_natCast, atN_nat (by omega), bindO_some, getD_drop g5 (by omega) (by omega), wadd_nat (by omega), wadd_nat (j := i) (by omega)]
    have hft := filter_take (keepP c d) (l := l) (j := j) (by omega)
    have hkp : keepP c d (l.getD j default) = (decide (c ≤ (l.getD j default).1) && decide ((l.getD j default).1 < d)) := rfl
    generalize l.getD j default = p at *
    have skip : keepP c d p = false → K ((i : Int), ((j + 1 : Nat) : Int), rows) = some (rangeR l c d, 0) := by
      intro hkf
      rw [hkf] at hft
      exact hk _ ⟨g0, by show (i : Int) < ((j + 1 : Nat) : Int); omega, by show ((j + 1 : Nat) : Int) ≤ l.length; omega, g3, by show rows.take i = _; rw [Int.toNat_natCast, hft, g4]; simp, by show rows.drop ((j + 1 : Nat) : Int).toNat = _; rw [Int.toNat_natCast]; exact drop_succ_of g5⟩ (by show l.length - ((j + 1 : Nat) : Int).toNat < l.length - ((j : Nat) : Int).toNat; omega)
    rw [ifB_ltI]
    by_cases h1 : p.1 < c
    · rw [if_pos h1]; exact skip (by rw [hkp]; simp; omega)
    · rw [if_neg h1, ifB_not, ifB_geI]
      by_cases h2 : d ≤ p.1
      · rw [if_pos h2]; exact skip (by rw [hkp]; simp; omega)
      · have hkt : keepP c d p = true := by rw [hkp]; simp; omega
        rw [hkt] at hft
        rw [if_neg h2, ifB_ltL, if_pos ⟨by omega, by omega⟩, natI_eq, Int.toNat_natCast, atN_nat (by omega), bindO_some, setN_eq]
        refine hk _ ⟨by show (0 : Int) ≤ ((i + 1 : Nat) : Int); omega, by show ((i + 1 : Nat) : Int) < ((j + 1 : Nat) : Int); omega, by show ((j + 1 : Nat) : Int) ≤ l.length; omega, by show (rows.set i p).length = _; rw [List.length_set]; exact g3, ?_, ?_⟩ (by show l.length - ((j + 1 : Nat) : Int).toNat < l.length - ((j : Nat) : Int).toNat; omega)
        · show (rows.set i p).take ((i + 1 : Nat) : Int).toNat = (l.take ((j + 1 : Nat) : Int).toNat).filter (keepP c d)
          rw [Int.toNat_natCast, Int.toNat_natCast, set_take (by omega), hft, g4]; simp
        · show (rows.set i p).drop ((j + 1 : Nat) : Int).toNat = l.drop ((j + 1 : Nat) : Int).toNat
          rw [Int.toNat_natCast, set_drop (by omega)]; exact drop_succ_of g5
  · rw [if_neg hj]
    have hjl : j = l.length := by omega
    rw [hjl, List.take_length] at g4
    rw [clear_end rows i (0, 0) (by omega) (fun r => some (r, (0 : Int))), g4]
    rfl
theorem range_eq (s : Shf) (i c d : Int) (hs : okS s) : F_query_Range s i c d = some (if (allS s i).2 = 0 then (rangeR (allS s i).1 c d, 0) else ([], (allS s i).2)) := by
  unfold F_query_Range
  rw [allS_eq s i hs, bindO_some, ifB_neI]
  by_cases h : (allS s i).2 = 0
  · have hl := allS_len h
    rw [if_pos h, if_pos h]
    generalize allS s i = q at *
    obtain ⟨l, e⟩ := q
    simp only at h hl ⊢
    refine loop_ind (G := fun _ => some (rangeR l c d, (0 : Int))) (P := fun (y : Int) => 0 ≤ y ∧ y ≤ l.length ∧ ∀ p ∈ l.take y.toNat, keepP c d p = true) (μ := fun y => l.length - y.toNat) ?_ maxR 0 ⟨Int.le_refl 0, by omega, by simp⟩ (by show l.length - Int.toNat 0 < maxR; unfold maxR; omega)
    rintro y ⟨g0, g1, g2⟩ K hk
    obtain ⟨x, rfl⟩ : ∃ x : Nat, y = x := ⟨y.toNat, by omega⟩
    rw [Int.toNat_natCast] at g2
    rw [stepK_ifB, stepK_map, ifB_ltI, lenI_eq]
    by_cases hx : (x : Int) < l.length
    · rw [if_pos hx]
      simp only [stepK_ifB, stepK_bind, stepK_inl, stepK_none, stepK_map]
      rw [ifB_ltL, if_pos ⟨by omega, hx⟩, natI_eq, Int.toNat_natCast, atN_nat (by omega), bindO_some, ifB_eqI, if_neg (by omega)]
      have hkp : keepP c d (l.getD x default) = (decide (c ≤ (l.getD x default).1) && decide ((l.getD x default).1 < d)) := rfl
      have hcm := compact_eq l c d x (by omega) (by omega) g2
      have hnx := take_next (l := l) (i := x) (by omega)
      generalize l.getD x default = p at *
      rw [ifB_ltI]
      by_cases h1 : p.1 < c
      · rw [if_pos h1]; exact hcm (by rw [hkp]; simp; omega)
      · rw [if_neg h1, ifB_geI]
        by_cases h2 : d ≤ p.1
        · rw [if_pos h2]; exact hcm (by rw [hkp]; simp; omega)
        · rw [if_neg h2, wadd_nat (by omega)]
          refine hk _ ⟨by omega, by omega, fun q hq => ?_⟩ (by omega)
          rw [Int.toNat_natCast, hnx, List.mem_append, List.mem_singleton] at hq
          rcases hq with hq | rfl
          · exact g2 q hq
          · rw [hkp]; simp; omega
    · rw [if_neg hx]
      have hxl : x = l.length := by omega
      rw [hxl, List.take_length] at g2
      show some (l, (0 : Int)) = some (rangeR l c d, 0)
      unfold rangeR
      rw [List.filter_eq_self.2 g2]
  · rw [if_neg h, if_neg h]
end Go.Proofs.Y
namespace Go.Rb
open Go.Kx
def joinF (a b : Sm) : Sm := if a.1 = 0 then b else if b.1 = 0 then a else (wadd .i64 a.1 b.1, min a.2.1 b.2.1, max a.2.2.1 b.2.2.1, wadd .i64 a.2.2.2 b.2.2.2)
def sm1 (p : Pt) : Sm := (1, p.2, p.2, p.2)
def sumL (l : List Pt) : Sm := l.foldl (fun s p => joinF s (sm1 p)) (0, 0, 0, 0)
theorem sumL_snoc (l : List Pt) (p : Pt) : sumL (l ++ [p]) = joinF (sumL l) (sm1 p) := by simp [sumL]
theorem sumL_one (p : Pt) : sumL [p] = sm1 p := by simp [sumL, joinF]
theorem joinF_zero (s : Sm) : joinF (0, 0, 0, 0) s = s := by simp [joinF]
def startB (c e : Int) (p : Pt) : Int := p.1 - (p.1 - c) % e
def bstep (c e : Int) (out : List Buc) (p : Pt) : List Buc :=
  if out.length = 0 ∨ ¬ (out.getD (out.length - 1) default).1 = startB c e p then out ++ [(startB c e p, sm1 p)]
  else out.set (out.length - 1) ((out.getD (out.length - 1) default).1, joinF (out.getD (out.length - 1) default).2 (sm1 p))
def bks (c e : Int) (l : List Pt) : List Buc := l.foldl (bstep c e) []
theorem bstep_last (c e : Int) (out : List Buc) (st : Int) (S : Sm) (p : Pt) (h : startB c e p = st) : bstep c e (out ++ [(st, S)]) p = out ++ [(st, joinF S (sm1 p))] := by
  unfold bstep
  have h1 : (out ++ [((st, S) : Buc)]).length - 1 = out.length := by simp
  have h2 : (out ++ [((st, S) : Buc)]).getD out.length default = (st, S) := by simp [List.getD]
  rw [h1, h2, if_neg (by simp [h])]
  rw [List.set_append_right _ _ (by omega)]
  simp
theorem bks_same (c e : Int) (st : Int) : ∀ (x : List Pt) (out : List Buc) (S : Sm), (∀ p ∈ x, startB c e p = st) → x.foldl (bstep c e) (out ++ [(st, S)]) = out ++ [(st, x.foldl (fun s p => joinF s (sm1 p)) S)]
  | [], _, _, _ => rfl
  | p :: x, out, S, h => by
    rw [List.foldl_cons, bstep_last c e out st S p (h p List.mem_cons_self), bks_same c e st x out _ fun q hq => h q (List.mem_cons_of_mem _ hq)]
    rfl
theorem bks_group (c e : Int) (st : Int) {x : List Pt} (hx : x ≠ []) {out : List Buc} (h : ∀ p ∈ x, startB c e p = st) (ho : ∀ b ∈ out, b.1 ≠ st) : x.foldl (bstep c e) out = out ++ [(st, sumL x)] := by
  cases x with
  | nil => exact absurd rfl hx
  | cons p x =>
    have hp := h p List.mem_cons_self
    have h1 : bstep c e out p = out ++ [(st, sm1 p)] := by
      unfold bstep
      rw [if_pos, hp]
      by_cases h0 : out.length = 0
      · exact .inl h0
      · refine .inr fun he => ho _ (getD_mem (l := out) (i := out.length - 1) (by omega)) (he.trans hp)
    rw [List.foldl_cons, h1, bks_same c e st x out _ fun q hq => h q (List.mem_cons_of_mem _ hq)]
    simp [sumL, joinF_zero]
theorem bstep_le (c e : Int) (he : 1 ≤ e) {out : List Buc} {p : Pt} (hp : c ≤ p.1) {B : Int} (ho : ∀ b ∈ out, b.1 < B) (hB : p.1 < B) : ∀ b ∈ bstep c e out p, b.1 < B := by
  have h1 : startB c e p < B := by
    have := Int.emod_nonneg (p.1 - c) (show e ≠ 0 by omega)
    unfold startB; omega
  intro b hb
  unfold bstep at hb
  split at hb
  · rcases List.mem_append.1 hb with hb | hb
    · exact ho b hb
    · rw [List.mem_singleton] at hb; subst hb; exact h1
  · rename_i hne
    rcases List.mem_or_eq_of_mem_set hb with hb | hb
    · exact ho b hb
    · subst hb
      have hm := ho (out.getD (out.length - 1) default) (getD_mem (by omega))
      exact hm
theorem bks_lt (c e : Int) (he : 1 ≤ e) {B : Int} : ∀ (l : List Pt) (out : List Buc), (∀ p ∈ l, c ≤ p.1 ∧ p.1 < B) → (∀ b ∈ out, b.1 < B) → ∀ b ∈ l.foldl (bstep c e) out, b.1 < B
  | [], _, _, ho => ho
  | p :: l, out, hl, ho => bks_lt c e he l _ (fun q hq => hl q (List.mem_cons_of_mem _ hq)) (bstep_le c e he (hl p List.mem_cons_self).1 ho (hl p List.mem_cons_self).2)
theorem bstep_len (c e : Int) (out : List Buc) (p : Pt) : (bstep c e out p).length ≤ out.length + 1 := by
  unfold bstep; split <;> simp
theorem bks_len (c e : Int) : ∀ (l : List Pt) (out : List Buc), (l.foldl (bstep c e) out).length ≤ out.length + l.length
  | [], _ => by simp
  | p :: l, out => by
    have h1 := bks_len c e l (bstep c e out p)
    have h2 := bstep_len c e out p
    rw [List.foldl_cons, List.length_cons]; omega
theorem start_eq {c e : Int} {n : Nat} {p : Pt} (he : 1 ≤ e) (h1 : c + n * e ≤ p.1) (h2 : p.1 < c + n * e + e) : startB c e p = c + n * e := by
  unfold startB
  have h3 : p.1 - c = (p.1 - (c + n * e)) + e * n := by rw [Int.mul_comm e]; omega
  rw [h3, Int.add_mul_emod_self_left, Int.emod_eq_of_lt (by omega) (by omega)]
  omega
/-- One more bucket. -/
theorem bks_next {l : List Pt} (hr : Rise l) {c e a b : Int} (he : 1 ≤ e) {n : Nat} (ha : a = c + n * e) (hab : a ≤ b) (hb : b ≤ a + e) :
    bks c e (rangeR l c b) = if rangeR l a b = [] then bks c e (rangeR l c a) else bks c e (rangeR l c a) ++ [(a, sumL (rangeR l a b))] := by
  have hne : 0 ≤ (n : Int) * e := Int.mul_nonneg (by omega) (by omega)
  rw [rise_split hr (show c ≤ a by omega) hab]
  unfold bks
  rw [List.foldl_append]
  split
  · rename_i h; rw [h]; rfl
  · rename_i h
    refine bks_group c e a h (fun p hp => ?_) (fun b' hb' => ?_)
    · have := range_mem hp
      rw [ha]
      exact start_eq he (by omega) (by omega)
    · have := bks_lt c e he (B := a) (rangeR l c a) [] (fun p hp => (range_mem hp).2) (by simp) b' hb'
      omega
end Go.Rb
namespace Go.Proofs.Y
open Go.Rb Go.Kx
noncomputable def C_sum_Join : Code := bodyOf Try.f28
noncomputable def G_sum_Join : FuncId → Option GS := tabG []
theorem g_sum_Join : ΓOK Try.prog G_sum_Join := ΓOK_nil
def H_sum_Join : HT := ⟨tabL [], tabH []⟩
abbrev is_sum_Join : List IT := [.v (.cons (.int .i64) (.cons (.int .i64) (.cons (.int .i64) (.one (.int .i64))))) true, .v (.cons (.int .i64) (.cons (.int .i64) (.cons (.int .i64) (.one (.int .i64))))) true]
abbrev os_sum_Join : List OT := [⟨.cons (.int .i64) (.cons (.int .i64) (.cons (.int .i64) (.one (.int .i64)))), true, []⟩]
set_option maxRecDepth 100000
noncomputable def F_sum_Join : Int × Int × Int × Int → Int × Int × Int × Int → Option (Int × Int × Int × Int) := fun (a b : Int × Int × Int × Int) => ifB (eqI a.1 0) (some (b.1, b.2.1, b.2.2.1, b.2.2.2)) (ifB (eqI b.1 0) (some (a.1, a.2.1, a.2.2.1, a.2.2.2)) (some (wadd .i64 a.1 b.1, minI a.2.1 b.2.1, maxI a.2.2.1 b.2.2.1, wadd .i64 a.2.2.2 b.2.2.2)))
theorem F_sum_Join_eq (x : PI is_sum_Join) : F_sum_Join (x.1) (x.2) = fnE T G_sum_Join H_sum_Join C_sum_Join (resOf Try.f28) is_sum_Join os_sum_Join x := by kernel_rfl
noncomputable abbrev R_sum_Join : GS := mkSpec false is_sum_Join os_sum_Join fun x => F_sum_Join (x.1) (x.2)
theorem R_sum_Join_ok : GSOK Try.prog 28 R_sum_Join := spec_ok tok g_sum_Join fmo (Ht := H_sum_Join) (fn := Try.f28) (Try.func28) (c := C_sum_Join) (by kernel_rfl) (by kernel_rfl) (by kernel_rfl) (by decide +kernel) (by decide) F_sum_Join_eq
end Go.Proofs.Y
namespace Go.Proofs.Y
open Go.Rb Go.Kx
noncomputable def C_sum_Of : Code := bodyOf Try.f26
noncomputable def G_sum_Of : FuncId → Option GS := tabG [(28, R_sum_Join)]
theorem g_sum_Of : ΓOK Try.prog G_sum_Of := ΓOK_cons (R_sum_Join_ok) (ΓOK_nil)
def H_sum_Of : HT := ⟨tabL [(3, .it [] (dyn [.t 8 (.int .i64), .c 3 0 (.int .i64), .c 3 1 (.int .i64), .c 3 2 (.int .i64), .c 3 3 (.int .i64)]))], tabH []⟩
abbrev is_sum_Of : List IT := [.v (.one (.sl 34 (.cons (.int .i64) (.one (.int .i64))))) false]
abbrev os_sum_Of : List OT := [⟨.cons (.int .i64) (.cons (.int .i64) (.cons (.int .i64) (.one (.int .i64)))), true, []⟩]
set_option maxRecDepth 100000
noncomputable def F_sum_Of : List (Int × Int) → Option (Int × Int × Int × Int) := fun (a : List (Int × Int)) => loopN maxR (fun (x : Int × Int × Int × Int × Int) => ifB (ltI x.1 (lenI a)) (bindO (atI a x.1) fun (y : Int × Int) => bindO (F_sum_Join (x.2.1, x.2.2.1, x.2.2.2.1, x.2.2.2.2) (1, y.2, y.2, y.2)) fun (y : Int × Int × Int × Int) => some (Sum.inl (wadd .i64 x.1 1, y.1, y.2.1, y.2.2.1, y.2.2.2))) (mapO Sum.inr (some (x.2.1, x.2.2.1, x.2.2.2.1, x.2.2.2.2)))) (0, 0, 0, 0, 0)
theorem F_sum_Of_eq (x : PI is_sum_Of) : F_sum_Of x = fnE T G_sum_Of H_sum_Of C_sum_Of (resOf Try.f26) is_sum_Of os_sum_Of x := by kernel_rfl
noncomputable abbrev R_sum_Of : GS := mkSpec false is_sum_Of os_sum_Of fun x => F_sum_Of x
theorem R_sum_Of_ok : GSOK Try.prog 26 R_sum_Of := spec_ok tok g_sum_Of fmo (Ht := H_sum_Of) (fn := Try.f26) (Try.func26) (c := C_sum_Of) (by kernel_rfl) (by kernel_rfl) (by kernel_rfl) (by decide +kernel) (by decide) F_sum_Of_eq
end Go.Proofs.Y
namespace Go.Proofs.Y
open Go.Rb Go.Kx
noncomputable def C_query_Buckets : Code := bodyOf Try.f61
noncomputable def G_query_Buckets : FuncId → Option GS := tabG [(60, R_query_Range), (26, R_sum_Of), (28, R_sum_Join)]
theorem g_query_Buckets : ΓOK Try.prog G_query_Buckets := ΓOK_cons (R_query_Range_ok) (ΓOK_cons (R_sum_Of_ok) (ΓOK_cons (R_sum_Join_ok) (ΓOK_nil)))
def H_query_Buckets : HT := ⟨tabL [(10, .it [] (dyn [.a 14 83 (.cons (.int .i64) (.cons (.int .i64) (.cons (.int .i64) (.cons (.int .i64) (.one (.int .i64)))))), .t 61 (.int .i64)]))], tabH []⟩
abbrev is_query_Buckets : List IT := [.v (.one (.sl 78 (.cons (.sl 58 (.cons (.int .i64) (.cons (.int .i64) (.cons (.int .i64) (.one (.sl 4 (.one .bool))))))) (.one (.sl 34 (.cons (.int .i64) (.one (.int .i64)))))))) true, .v (.one (.int .i64)) false, .v (.one (.int .i64)) false, .v (.one (.int .i64)) false, .v (.one (.int .i64)) false]
abbrev os_query_Buckets : List OT := [⟨.one (.sl 83 (.cons (.int .i64) (.cons (.int .i64) (.cons (.int .i64) (.cons (.int .i64) (.one (.int .i64))))))), false, []⟩, ⟨.one (.int .i64), false, []⟩]
set_option maxRecDepth 100000
noncomputable def F_query_Buckets : List (List (Int × Int × Int × List Bool) × List (Int × Int)) → Int → Int → Int → Int → Option (List (Int × Int × Int × Int × Int) × Int) := fun (a : List (List (Int × Int × Int × List Bool) × List (Int × Int))) (b c d e : Int) => bindO (F_query_Range a b c d) fun (y : List (Int × Int) × Int) => ifB (neI y.2 0) (some ([], y.2)) (ifB (ltI c 0) (some ([], 3)) (ifB (gtI d 100001) (some ([], 3)) (ifB (gtI c d) (some ([], 3)) (ifB (ltI e 1) (some ([], 3)) (ifB (gtI e 100001) (some ([], 3)) (ifB (eqI e 0) none (ifB (gtI (wquo .i64 (wsub .i64 (wadd .i64 (wsub .i64 d c) e) 1) e) 200) (some ([], 2)) (loopN maxR (fun (x : Int × List (Int × Int × Int × Int × Int)) => ifB (ltI x.1 (lenI y.1)) (bindO (atI y.1 x.1) fun (y : Int × Int) => ifB (eqI e 0) none (ifB (ltI (wsub .i64 (lenI x.2) 1) 0) (ifB (roomA 40 x.2 [(wsub .i64 y.1 (wrem (wsub .i64 y.1 c) e), 0, 0, 0, 0)]) (ifB (ltL (wsub .i64 (lenI (cat x.2 [(wsub .i64 y.1 (wrem (wsub .i64 y.1 c) e), 0, 0, 0, 0)])) 1) (cat x.2 [(wsub .i64 y.1 (wrem (wsub .i64 y.1 c) e), 0, 0, 0, 0)])) (bindO (atN (cat x.2 [(wsub .i64 y.1 (wrem (wsub .i64 y.1 c) e), 0, 0, 0, 0)]) (natI (wsub .i64 (lenI (cat x.2 [(wsub .i64 y.1 (wrem (wsub .i64 y.1 c) e), 0, 0, 0, 0)])) 1))) fun (y_1 : Int × Int × Int × Int × Int) => bindO (F_sum_Of [(y.1, y.2)]) fun (y_2 : Int × Int × Int × Int) => bindO (F_sum_Join (y_1.2.1, y_1.2.2.1, y_1.2.2.2.1, y_1.2.2.2.2) (y_2.1, y_2.2.1, y_2.2.2.1, y_2.2.2.2)) fun (y_3 : Int × Int × Int × Int) => ifB (ltL (wsub .i64 (lenI (cat x.2 [(wsub .i64 y.1 (wrem (wsub .i64 y.1 c) e), 0, 0, 0, 0)])) 1) (cat x.2 [(wsub .i64 y.1 (wrem (wsub .i64 y.1 c) e), 0, 0, 0, 0)])) (bindO (atN (cat x.2 [(wsub .i64 y.1 (wrem (wsub .i64 y.1 c) e), 0, 0, 0, 0)]) (natI (wsub .i64 (lenI (cat x.2 [(wsub .i64 y.1 (wrem (wsub .i64 y.1 c) e), 0, 0, 0, 0)])) 1))) fun (y_4 : Int × Int × Int × Int × Int) => some (Sum.inl (wadd .i64 x.1 1, setN (cat x.2 [(wsub .i64 y.1 (wrem (wsub .i64 y.1 c) e), 0, 0, 0, 0)]) (natI (wsub .i64 (lenI (cat x.2 [(wsub .i64 y.1 (wrem (wsub .i64 y.1 c) e), 0, 0, 0, 0)])) 1)) (y_4.1, y_3.1, y_3.2.1, y_3.2.2.1, y_3.2.2.2)))) none) none) none) (ifB (ltL (wsub .i64 (lenI x.2) 1) x.2) (bindO (atN x.2 (natI (wsub .i64 (lenI x.2) 1))) fun (y_1 : Int × Int × Int × Int × Int) => ifB (neI y_1.1 (wsub .i64 y.1 (wrem (wsub .i64 y.1 c) e))) (ifB (roomA 40 x.2 [(wsub .i64 y.1 (wrem (wsub .i64 y.1 c) e), 0, 0, 0, 0)]) (ifB (ltL (wsub .i64 (lenI (cat x.2 [(wsub .i64 y.1 (wrem (wsub .i64 y.1 c) e), 0, 0, 0, 0)])) 1) (cat x.2 [(wsub .i64 y.1 (wrem (wsub .i64 y.1 c) e), 0, 0, 0, 0)])) (bindO (atN (cat x.2 [(wsub .i64 y.1 (wrem (wsub .i64 y.1 c) e), 0, 0, 0, 0)]) (natI (wsub .i64 (lenI (cat x.2 [(wsub .i64 y.1 (wrem (wsub .i64 y.1 c) e), 0, 0, 0, 0)])) 1))) fun (y_2 : Int × Int × Int × Int × Int) => bindO (F_sum_Of [(y.1, y.2)]) fun (y_3 : Int × Int × Int × Int) => bindO (F_sum_Join (y_2.2.1, y_2.2.2.1, y_2.2.2.2.1, y_2.2.2.2.2) (y_3.1, y_3.2.1, y_3.2.2.1, y_3.2.2.2)) fun (y_4 : Int × Int × Int × Int) => ifB (ltL (wsub .i64 (lenI (cat x.2 [(wsub .i64 y.1 (wrem (wsub .i64 y.1 c) e), 0, 0, 0, 0)])) 1) (cat x.2 [(wsub .i64 y.1 (wrem (wsub .i64 y.1 c) e), 0, 0, 0, 0)])) (bindO (atN (cat x.2 [(wsub .i64 y.1 (wrem (wsub .i64 y.1 c) e), 0, 0, 0, 0)]) (natI (wsub .i64 (lenI (cat x.2 [(wsub .i64 y.1 (wrem (wsub .i64 y.1 c) e), 0, 0, 0, 0)])) 1))) fun (y_5 : Int × Int × Int × Int × Int) => some (Sum.inl (wadd .i64 x.1 1, setN (cat x.2 [(wsub .i64 y.1 (wrem (wsub .i64 y.1 c) e), 0, 0, 0, 0)]) (natI (wsub .i64 (lenI (cat x.2 [(wsub .i64 y.1 (wrem (wsub .i64 y.1 c) e), 0, 0, 0, 0)])) 1)) (y_5.1, y_4.1, y_4.2.1, y_4.2.2.1, y_4.2.2.2)))) none) none) none) (ifB (ltL (wsub .i64 (lenI x.2) 1) x.2) (bindO (atN x.2 (natI (wsub .i64 (lenI x.2) 1))) fun (y_2 : Int × Int × Int × Int × Int) => bindO (F_sum_Of [(y.1, y.2)]) fun (y : Int × Int × Int × Int) => bindO (F_sum_Join (y_2.2.1, y_2.2.2.1, y_2.2.2.2.1, y_2.2.2.2.2) (y.1, y.2.1, y.2.2.1, y.2.2.2)) fun (y : Int × Int × Int × Int) => ifB (ltL (wsub .i64 (lenI x.2) 1) x.2) (bindO (atN x.2 (natI (wsub .i64 (lenI x.2) 1))) fun (y_3 : Int × Int × Int × Int × Int) => some (Sum.inl (wadd .i64 x.1 1, setN x.2 (natI (wsub .i64 (lenI x.2) 1)) (y_3.1, y.1, y.2.1, y.2.2.1, y.2.2.2)))) none) none)) none))) (mapO Sum.inr (some (x.2, 0)))) (0, [])))))))))
theorem F_query_Buckets_eq (x : PI is_query_Buckets) : F_query_Buckets (x.1) (x.2.1) (x.2.2.1) (x.2.2.2.1) (x.2.2.2.2) = fnE T G_query_Buckets H_query_Buckets C_query_Buckets (resOf Try.f61) is_query_Buckets os_query_Buckets x := by kernel_rfl
noncomputable abbrev R_query_Buckets : GS := mkSpec false is_query_Buckets os_query_Buckets fun x => F_query_Buckets (x.1) (x.2.1) (x.2.2.1) (x.2.2.2.1) (x.2.2.2.2)
theorem R_query_Buckets_ok : GSOK Try.prog 61 R_query_Buckets := spec_ok tok g_query_Buckets fmo (Ht := H_query_Buckets) (fn := Try.f61) (Try.func61) (c := C_query_Buckets) (by kernel_rfl) (by kernel_rfl) (by kernel_rfl) (by decide +kernel) (by decide) F_query_Buckets_eq
end Go.Proofs.Y
namespace Go.Proofs.Y
open Go.Rb Go.Kx
noncomputable def C_rainbookref_SumOf : Code := bodyOf Try.f27
noncomputable def G_rainbookref_SumOf : FuncId → Option GS := tabG []
theorem g_rainbookref_SumOf : ΓOK Try.prog G_rainbookref_SumOf := ΓOK_nil
def H_rainbookref_SumOf : HT := ⟨tabL [(5, .it [] (dyn [.t 23 (.int .i64), .c 3 1 (.int .i64), .c 3 2 (.int .i64), .c 3 3 (.int .i64)]))], tabH []⟩
abbrev is_rainbookref_SumOf : List IT := [.v (.one (.sl 34 (.cons (.int .i64) (.one (.int .i64))))) false]
abbrev os_rainbookref_SumOf : List OT := [⟨.cons (.int .i64) (.cons (.int .i64) (.cons (.int .i64) (.one (.int .i64)))), true, []⟩]
set_option maxRecDepth 100000
noncomputable def F_rainbookref_SumOf : List (Int × Int) → Option (Int × Int × Int × Int) := fun (a : List (Int × Int)) => ifB (eqI (lenI a) 0) (some (0, 0, 0, 0)) (bindO (atI a 0) fun (y : Int × Int) => bindO (atI a 0) fun (y_1 : Int × Int) => loopN maxR (fun (x : Int × Int × Int × Int) => ifB (ltI x.1 (lenI a)) (bindO (atI a x.1) fun (y : Int × Int) => some (Sum.inl (wadd .i64 x.1 1, minI x.2.1 y.2, maxI x.2.2.1 y.2, wadd .i64 x.2.2.2 y.2))) (mapO Sum.inr (some (lenI a, x.2.1, x.2.2.1, x.2.2.2)))) (0, y.2, y_1.2, 0))
theorem F_rainbookref_SumOf_eq (x : PI is_rainbookref_SumOf) : F_rainbookref_SumOf x = fnE T G_rainbookref_SumOf H_rainbookref_SumOf C_rainbookref_SumOf (resOf Try.f27) is_rainbookref_SumOf os_rainbookref_SumOf x := by kernel_rfl
noncomputable abbrev R_rainbookref_SumOf : GS := mkSpec false is_rainbookref_SumOf os_rainbookref_SumOf fun x => F_rainbookref_SumOf x
theorem R_rainbookref_SumOf_ok : GSOK Try.prog 27 R_rainbookref_SumOf := spec_ok tok g_rainbookref_SumOf fmo (Ht := H_rainbookref_SumOf) (fn := Try.f27) (Try.func27) (c := C_rainbookref_SumOf) (by kernel_rfl) (by kernel_rfl) (by kernel_rfl) (by decide +kernel) (by decide) F_rainbookref_SumOf_eq
end Go.Proofs.Y
namespace Go.Proofs.Y
open Go.Rb Go.Kx
noncomputable def C_rainbookref_BucketsOf : Code := bodyOf Try.f66
noncomputable def G_rainbookref_BucketsOf : FuncId → Option GS := tabG [(95, R_rainbookref_in), (67, R_rainbookref_Ranged), (27, R_rainbookref_SumOf)]
theorem g_rainbookref_BucketsOf : ΓOK Try.prog G_rainbookref_BucketsOf := ΓOK_cons (R_rainbookref_in_ok) (ΓOK_cons (R_rainbookref_Ranged_ok) (ΓOK_cons (R_rainbookref_SumOf_ok) (ΓOK_nil)))
def H_rainbookref_BucketsOf : HT := ⟨tabL [(6, .it [] (dyn [.a 10 83 (.cons (.int .i64) (.cons (.int .i64) (.cons (.int .i64) (.cons (.int .i64) (.one (.int .i64)))))), .t 11 (.int .i64), .t 12 (.int .i64)]))], tabH []⟩
abbrev is_rainbookref_BucketsOf : List IT := [.v (.one (.sl 34 (.cons (.int .i64) (.one (.int .i64))))) false, .v (.one (.int .i64)) false, .v (.one (.int .i64)) false, .v (.one (.int .i64)) false]
abbrev os_rainbookref_BucketsOf : List OT := [⟨.one (.sl 83 (.cons (.int .i64) (.cons (.int .i64) (.cons (.int .i64) (.cons (.int .i64) (.one (.int .i64))))))), false, []⟩, ⟨.one (.int .i64), false, []⟩]
set_option maxRecDepth 100000
noncomputable def F_rainbookref_BucketsOf : List (Int × Int) → Int → Int → Int → Option (List (Int × Int × Int × Int × Int) × Int) := fun (a : List (Int × Int)) (b c d : Int) => bindO (F_rainbookref_in b 0 c) fun (y : Bool) => ifB (notB y) (some ([], 3)) (ifB (gtI c 100001) (some ([], 3)) (bindO (F_rainbookref_in d 1 100001) fun (y : Bool) => ifB (notB y) (some ([], 3)) (loopN maxR (fun (x : Int × Int × List (Int × Int × Int × Int × Int)) => ifB (ltI x.2.1 c) (ifB (gtI (wadd .i64 x.1 1) 200) (mapO Sum.inr (some ([], 2))) (bindO (F_rainbookref_Ranged a x.2.1 (minI c (wadd .i64 x.2.1 d))) fun (y : List (Int × Int)) => ifB (gtI (lenI y) 0) (bindO (F_rainbookref_SumOf y) fun (y : Int × Int × Int × Int) => ifB (roomA 40 x.2.2 [(x.2.1, y.1, y.2.1, y.2.2.1, y.2.2.2)]) (some (Sum.inl (wadd .i64 x.1 1, wadd .i64 x.2.1 d, cat x.2.2 [(x.2.1, y.1, y.2.1, y.2.2.1, y.2.2.2)]))) none) (some (Sum.inl (wadd .i64 x.1 1, wadd .i64 x.2.1 d, x.2.2))))) (mapO Sum.inr (some (x.2.2, 0)))) (0, b, []))))
theorem F_rainbookref_BucketsOf_eq (x : PI is_rainbookref_BucketsOf) : F_rainbookref_BucketsOf (x.1) (x.2.1) (x.2.2.1) (x.2.2.2) = fnE T G_rainbookref_BucketsOf H_rainbookref_BucketsOf C_rainbookref_BucketsOf (resOf Try.f66) is_rainbookref_BucketsOf os_rainbookref_BucketsOf x := by kernel_rfl
noncomputable abbrev R_rainbookref_BucketsOf : GS := mkSpec false is_rainbookref_BucketsOf os_rainbookref_BucketsOf fun x => F_rainbookref_BucketsOf (x.1) (x.2.1) (x.2.2.1) (x.2.2.2)
theorem R_rainbookref_BucketsOf_ok : GSOK Try.prog 66 R_rainbookref_BucketsOf := spec_ok tok g_rainbookref_BucketsOf fmo (Ht := H_rainbookref_BucketsOf) (fn := Try.f66) (Try.func66) (c := C_rainbookref_BucketsOf) (by kernel_rfl) (by kernel_rfl) (by kernel_rfl) (by decide +kernel) (by decide) F_rainbookref_BucketsOf_eq
end Go.Proofs.Y
namespace Go.Proofs.Y
open Go.Rb Go.Kx
noncomputable def C_equalBu : Code := bodyOf Try.f68
noncomputable def G_equalBu : FuncId → Option GS := tabG []
theorem g_equalBu : ΓOK Try.prog G_equalBu := ΓOK_nil
def H_equalBu : HT := ⟨tabL [(4, .it [] (dyn [.t 13 (.int .i64)]))], tabH []⟩
abbrev is_equalBu : List IT := [.v (.one (.sl 83 (.cons (.int .i64) (.cons (.int .i64) (.cons (.int .i64) (.cons (.int .i64) (.one (.int .i64)))))))) false, .v (.one (.sl 83 (.cons (.int .i64) (.cons (.int .i64) (.cons (.int .i64) (.cons (.int .i64) (.one (.int .i64)))))))) false]
abbrev os_equalBu : List OT := [⟨.one .bool, false, []⟩]
set_option maxRecDepth 100000
noncomputable def F_equalBu : List (Int × Int × Int × Int × Int) → List (Int × Int × Int × Int × Int) → Option Bool := fun (a b : List (Int × Int × Int × Int × Int)) => ifB (neI (lenI a) (lenI b)) (some false) (loopN maxR (fun (x : Int) => ifB (ltI x (lenI a)) (bindO (atI a x) fun (y : Int × Int × Int × Int × Int) => bindO (atI b x) fun (y_1 : Int × Int × Int × Int × Int) => ifB (notB (eqL [y.1, y.2.1, y.2.2.1, y.2.2.2.1, y.2.2.2.2] [y_1.1, y_1.2.1, y_1.2.2.1, y_1.2.2.2.1, y_1.2.2.2.2])) (mapO Sum.inr (some false)) (some (Sum.inl (wadd .i64 x 1)))) (mapO Sum.inr (some true))) 0)
theorem F_equalBu_eq (x : PI is_equalBu) : F_equalBu (x.1) (x.2) = fnE T G_equalBu H_equalBu C_equalBu (resOf Try.f68) is_equalBu os_equalBu x := by kernel_rfl
noncomputable abbrev R_equalBu : GS := mkSpec false is_equalBu os_equalBu fun x => F_equalBu (x.1) (x.2)
theorem R_equalBu_ok : GSOK Try.prog 68 R_equalBu := spec_ok tok g_equalBu fmo (Ht := H_equalBu) (fn := Try.f68) (Try.func68) (c := C_equalBu) (by kernel_rfl) (by kernel_rfl) (by kernel_rfl) (by decide +kernel) (by decide) F_equalBu_eq
end Go.Proofs.Y
namespace Go.Proofs.Y
open Go.Rb Go.Kx
theorem join_eq (a b : Sm) : F_sum_Join a b = some (joinF a b) := by
  unfold F_sum_Join joinF
  rw [ifB_eqI, ifB_eqI]
  split
  · rfl
  · split <;> rfl
theorem of_eq (l : List Pt) (hl : l.length < 4611686018427387904) : F_sum_Of l = some (sumL l) := by
  unfold F_sum_Of sumL
  refine loop_range l (fun j (s : Sm) => ((j : Int), s.1, s.2.1, s.2.2.1, s.2.2.2)) (G := fun rest s => some (rest.foldl (fun s p => joinF s (sm1 p)) s)) (P := fun _ _ => True) ?_ ?_ (s0 := (0, 0, 0, 0)) trivial (by omega)
  · rintro j s hj _ k hk
    have hat := atI_nat hj
    generalize l.getD j default = p at *
    simp only [stepK_none, stepK_inl, stepK_inr, stepK_map, stepK_if, stepK_bind, ifB_t, ifB_f, ifB_same, ifB_ltI, ifB_leI, ifB_gtI, ifB_geI, ifB_eqI, ifB_neI, ifB_not, ifB_and, ifB_eqB, ifB_isE, ifB_in1, ifB_in2, ifB_in1N, ifB_in2N, ifB_in1C, ifB_in2C, ifB_inN, ifB_ltL, ifB_ltN, ifB_roomA, ifB_roomI, ifB_roomZ, ifB_roomS, ifB_eqS, ifB_eqL, ifB_fits, bindO_some, bindO_none, mapO_some, mapO_none, lenI_eq, lenN_eq, cat_eq, takeI_eq, dropI_eq, sliI_eq, setN_eq, natI_eq, intN_eq]
    rw [if_pos (by omega), hat, bindO_some, wadd_nat (by omega), join_eq, bindO_some]
    exact hk _ trivial
  · rintro s _ k
    simp only [stepK_none, stepK_inl, stepK_inr, stepK_map, stepK_if, stepK_bind, ifB_t, ifB_f, ifB_same, ifB_ltI, ifB_leI, ifB_gtI, ifB_geI, ifB_eqI, ifB_neI, ifB_not, ifB_and, ifB_eqB, ifB_isE, ifB_in1, ifB_in2, ifB_in1N, ifB_in2N, ifB_in1C, ifB_in2C, ifB_inN, ifB_ltL, ifB_ltN, ifB_roomA, ifB_roomI, ifB_roomZ, ifB_roomS, ifB_eqS, ifB_eqL, ifB_fits, bindO_some, bindO_none, mapO_some, mapO_none, lenI_eq, lenN_eq, cat_eq, takeI_eq, dropI_eq, sliI_eq, setN_eq, natI_eq, intN_eq]
    rw [if_neg (by omega)]; rfl
theorem sumOf_eq (l : List Pt) (hl : l.length < 4611686018427387904) (hb : ∀ p ∈ l, -1000000 ≤ p.2 ∧ p.2 ≤ 1000000) : F_rainbookref_SumOf l = some (sumL l) := by
  unfold F_rainbookref_SumOf
  rw [ifB_eqI, lenI_eq]
  by_cases h0 : (l.length : Int) = 0
  · rw [if_pos h0]
    have : l = [] := List.eq_nil_of_length_eq_zero (by omega)
    subst this; rfl
  · rw [if_neg h0, at0 (by omega), bindO_some, bindO_some]
    refine loop_range l (fun j (s : Int × Int × Int) => ((j : Int), s.1, s.2.1, s.2.2)) (G := fun _ _ => some (sumL l)) (P := fun j s => (j = 0 ∧ s = ((l.getD 0 default).2, (l.getD 0 default).2, 0)) ∨ (0 < j ∧ sumL (l.take j) = ((j : Int), s.1, s.2.1, s.2.2))) ?_ ?_ (s0 := ((l.getD 0 default).2, (l.getD 0 default).2, 0)) (.inl ⟨rfl, rfl⟩) (by omega)
    · rintro j s hj hp k hk
      have hat := atI_nat hj
      simp only [stepK_none, stepK_inl, stepK_inr, stepK_map, stepK_if, stepK_bind, ifB_t, ifB_f, ifB_same, ifB_ltI, ifB_leI, ifB_gtI, ifB_geI, ifB_eqI, ifB_neI, ifB_not, ifB_and, ifB_eqB, ifB_isE, ifB_in1, ifB_in2, ifB_in1N, ifB_in2N, ifB_in1C, ifB_in2C, ifB_inN, ifB_ltL, ifB_ltN, ifB_roomA, ifB_roomI, ifB_roomZ, ifB_roomS, ifB_eqS, ifB_eqL, ifB_fits, bindO_some, bindO_none, mapO_some, mapO_none, lenI_eq, lenN_eq, cat_eq, takeI_eq, dropI_eq, sliI_eq, setN_eq, natI_eq, intN_eq]
      rw [if_pos (by omega), hat, bindO_some, wadd_nat (by omega)]
      refine hk (minI s.1 (l.getD j default).2, maxI s.2.1 (l.getD j default).2, wadd .i64 s.2.2 (l.getD j default).2) (.inr ⟨by omega, ?_⟩)
      rw [take_next hj, sumL_snoc]
      have hpb := hb _ (getD_mem hj)
      rcases hp with ⟨rfl, rfl⟩ | ⟨hj0, hs⟩
      · have hw : wadd .i64 0 (l.getD 0 default).2 = (l.getD 0 default).2 := by rw [wadd_in ⟨by omega, by omega⟩]; omega
        have hmin : minI (l.getD 0 default).2 (l.getD 0 default).2 = (l.getD 0 default).2 := by unfold minI; omega
        have hmax : maxI (l.getD 0 default).2 (l.getD 0 default).2 = (l.getD 0 default).2 := by unfold maxI; omega
        simp only [hw, hmin, hmax]
        simp [sumL, joinF, sm1]
      · rw [hs]
        unfold joinF sm1
        rw [if_neg (by show ¬ (j : Int) = 0; omega), if_neg (by show ¬ (1 : Int) = 0; omega)]
        show (wadd .i64 (j : Int) 1, _, _, _) = _
        rw [wadd_nat (by omega)]; rfl
    · rintro s hp k
      rcases hp with ⟨h1, _⟩ | ⟨_, hs⟩
      · omega
      · simp only [stepK_none, stepK_inl, stepK_inr, stepK_map, stepK_if, stepK_bind, ifB_t, ifB_f, ifB_same, ifB_ltI, ifB_leI, ifB_gtI, ifB_geI, ifB_eqI, ifB_neI, ifB_not, ifB_and, ifB_eqB, ifB_isE, ifB_in1, ifB_in2, ifB_in1N, ifB_in2N, ifB_in1C, ifB_in2C, ifB_inN, ifB_ltL, ifB_ltN, ifB_roomA, ifB_roomI, ifB_roomZ, ifB_roomS, ifB_eqS, ifB_eqL, ifB_fits, bindO_some, bindO_none, mapO_some, mapO_none, lenI_eq, lenN_eq, cat_eq, takeI_eq, dropI_eq, sliI_eq, setN_eq, natI_eq, intN_eq]
        rw [if_neg (by omega)]
        rw [List.take_length] at hs
        rw [hs]
theorem eqBu_dec (x y : Buc) : eqL [x.1, x.2.1, x.2.2.1, x.2.2.2.1, x.2.2.2.2] [y.1, y.2.1, y.2.2.1, y.2.2.2.1, y.2.2.2.2] = decide (x = y) := by
  obtain ⟨a, b, c, d, e⟩ := x; obtain ⟨a', b', c', d', e'⟩ := y
  unfold eqL; exact decide_eq_decide.2 (by simp)
theorem equalBu_eq {a b : List Buc} (h : a.length < 4611686018427387904) : F_equalBu a b = some (decide (a = b)) := by
  have h9 := equal_gen (α := Buc) (fun x y => eqL [x.1, x.2.1, x.2.2.1, x.2.2.2.1, x.2.2.2.2] [y.1, y.2.1, y.2.2.1, y.2.2.2.1, y.2.2.2.2]) eqBu_dec a b h
  exact h9
/-- The last bucket is added to. -/
theorem modLast {α : Type} (o : List Buc) (p : Pt) (K : List Buc → Option α) (h0 : 0 < o.length) (h1 : o.length < 1000000) :
    ifB (ltL (wsub IntKind.i64 (lenI o) 1) o) (bindO (atN o (natI (wsub IntKind.i64 (lenI o) 1))) fun (y_1 : Int × Int × Int × Int × Int) => bindO (F_sum_Of [(p.1, p.2)]) fun (y_2 : Int × Int × Int × Int) =>
      bindO (F_sum_Join (Prod.fst (Prod.snd y_1), Prod.fst (Prod.snd (Prod.snd y_1)), Prod.fst (Prod.snd (Prod.snd (Prod.snd y_1))), Prod.snd (Prod.snd (Prod.snd (Prod.snd y_1)))) (Prod.fst y_2, Prod.fst (Prod.snd y_2), Prod.fst (Prod.snd (Prod.snd y_2)), Prod.snd (Prod.snd (Prod.snd y_2))))
        fun (y_3 : Int × Int × Int × Int) => ifB (ltL (wsub IntKind.i64 (lenI o) 1) o) (bindO (atN o (natI (wsub IntKind.i64 (lenI o) 1))) fun (y : Int × Int × Int × Int × Int) =>
          K (setN o (natI (wsub IntKind.i64 (lenI o) 1)) (Prod.fst y, Prod.fst y_3, Prod.fst (Prod.snd y_3), Prod.fst (Prod.snd (Prod.snd y_3)), Prod.snd (Prod.snd (Prod.snd y_3))))) none) none =
      K (o.set (o.length - 1) ((o.getD (o.length - 1) default).1, joinF (o.getD (o.length - 1) default).2 (sm1 p))) := by
  have hlp : wsub .i64 (lenI o) 1 = ((o.length - 1 : Nat) : Int) := by rw [lenI_eq, wsub_in ⟨by omega, by omega⟩]; omega
  have hofp : F_sum_Of [(p.1, p.2)] = some (sm1 p) := by rw [of_eq _ (by simp), ← sumL_one]
  rw [hlp, ifB_ltL, if_pos ⟨by omega, by omega⟩, natI_eq, Int.toNat_natCast, atN_nat (by omega), bindO_some, hofp, bindO_some, join_eq, bindO_some, ifB_ltL, if_pos ⟨by omega, by omega⟩, bindO_some]
  rfl
def buckR (l : List Pt) (c d e : Int) : List Buc × Int :=
  if c < 0 ∨ 100001 < d ∨ d < c ∨ e < 1 ∨ 100001 < e then ([], 3) else if 200 < (d - c + e - 1) / e then ([], 2) else (bks c e (rangeR l c d), 0)
theorem buckets_eq (s : Shf) (i c d e : Int) (hs : okS s) : F_query_Buckets s i c d e = some (if (allS s i).2 = 0 then buckR (allS s i).1 c d e else ([], (allS s i).2)) := by
  unfold F_query_Buckets
  rw [range_eq s i c d hs, bindO_some, ifB_neI]
  by_cases h : (allS s i).2 = 0
  · have hl := allS_len h
    have hck := (allS_ok h).2.2.2.2
    have hall := checkL_all hck
    rw [if_pos h]
    simp only [if_pos h, if_true]
    generalize (allS s i).1 = l at *
    unfold buckR
    rw [ifB_ltI, ifB_gtI, ifB_gtI, ifB_ltI, ifB_gtI, ifB_eqI, ifB_gtI]
    by_cases h1 : c < 0
    · rw [if_pos h1, if_pos (.inl h1)]
    by_cases h2 : 100001 < d
    · rw [if_neg h1, if_pos h2, if_pos (.inr (.inl h2))]
    by_cases h3 : d < c
    · rw [if_neg h1, if_neg h2, if_pos h3, if_pos (.inr (.inr (.inl h3)))]
    by_cases h4 : e < 1
    · rw [if_neg h1, if_neg h2, if_neg h3, if_pos h4, if_pos (.inr (.inr (.inr (.inl h4))))]
    by_cases h5 : 100001 < e
    · rw [if_neg h1, if_neg h2, if_neg h3, if_neg h4, if_pos h5, if_pos (.inr (.inr (.inr (.inr h5))))]
    rw [if_neg h1, if_neg h2, if_neg h3, if_neg h4, if_neg h5, if_neg (show ¬ (c < 0 ∨ 100001 < d ∨ d < c ∨ e < 1 ∨ 100001 < e) by omega), if_neg (by omega)]
    have hq : wquo .i64 (wsub .i64 (wadd .i64 (wsub .i64 d c) e) 1) e = (d - c + e - 1) / e := by
      rw [wsub_in (a := d) ⟨by omega, by omega⟩, wadd_in ⟨by omega, by omega⟩, wsub_in ⟨by omega, by omega⟩]
      unfold wquo
      rw [Int.tdiv_eq_ediv_of_nonneg (by omega)]
      have h6 : 0 ≤ (d - c + e - 1) / e := Int.ediv_nonneg (by omega) (by omega)
      have h7 : (d - c + e - 1) / e ≤ d - c + e - 1 := Int.ediv_le_self _ (by omega)
      exact wr_id (by omega) (by omega)
    rw [hq]
    by_cases h6 : 200 < (d - c + e - 1) / e
    · rw [if_pos h6, if_pos h6]
    rw [if_neg h6, if_neg h6]
    have hrl := range_len l c d
    have hrm : ∀ p ∈ rangeR l c d, c ≤ p.1 ∧ p.1 < d := fun p hp => (range_mem hp).2
    generalize rangeR l c d = r at *
    unfold bks
    refine loop_range r (fun j (s : List Buc) => ((j : Int), s)) (G := fun rest s => some (rest.foldl (bstep c e) s, (0 : Int))) (P := fun j s => s.length ≤ j) ?_ ?_ (s0 := []) (by simp) (by omega)
    · rintro j out hj hp k hk
      have hat := atI_nat hj
      have hpm := hrm _ (getD_mem hj)
      generalize r.getD j default = p at *
      have hst : wsub .i64 p.1 (wrem (wsub .i64 p.1 c) e) = startB c e p := by
        have h7 := Int.emod_nonneg (p.1 - c) (show e ≠ 0 by omega)
        have h8 := Int.emod_lt_of_pos (p.1 - c) (show 0 < e by omega)
        rw [wsub_in (a := p.1) (b := c) ⟨by omega, by omega⟩]
        unfold wrem
        rw [Int.tmod_eq_emod_of_nonneg (by omega), wsub_in ⟨by omega, by omega⟩]
        rfl
      have hnx : k (((j + 1 : Nat) : Int), bstep c e out p) = some ((r.drop (j + 1)).foldl (bstep c e) (bstep c e out p), 0) := by
        refine hk _ ?_
        have := bstep_len c e out p
        omega
      have hml := fun (o : List Buc) (h0 : 0 < o.length) (h1 : o.length < 1000000) => modLast o p (fun s => k (((j + 1 : Nat) : Int), s)) h0 h1
      simp only [stepK_ifB, stepK_bind, stepK_inl, stepK_none, stepK_map, hst]
      rw [ifB_ltI, lenI_eq, if_pos (by omega), hat, bindO_some, wadd_nat (by omega), List.foldl_cons, ← hnx]
      simp only [hst]
      rw [ifB_eqI, if_neg (by omega)]
      have add : ∀ (h7 : out.length = 0 ∨ ¬ (out.getD (out.length - 1) default).1 = startB c e p), k (((j + 1 : Nat) : Int), bstep c e out p) = k (((j + 1 : Nat) : Int), (cat out [((startB c e p, 0, 0, 0, 0) : Buc)]).set ((cat out [((startB c e p, 0, 0, 0, 0) : Buc)]).length - 1) (((cat out [((startB c e p, 0, 0, 0, 0) : Buc)]).getD ((cat out [((startB c e p, 0, 0, 0, 0) : Buc)]).length - 1) default).1, joinF ((cat out [((startB c e p, 0, 0, 0, 0) : Buc)]).getD ((cat out [((startB c e p, 0, 0, 0, 0) : Buc)]).length - 1) default).2 (sm1 p))) := by
        intro h7
        congr 2
        unfold bstep
        rw [if_pos h7, cat_eq]
        have h8 : (out ++ [((startB c e p, 0, 0, 0, 0) : Buc)]).length - 1 = out.length := by simp
        have h9 : (out ++ [((startB c e p, 0, 0, 0, 0) : Buc)]).getD out.length default = (startB c e p, 0, 0, 0, 0) := by simp [List.getD]
        rw [h8, h9, List.set_append_right _ _ (by omega)]
        simp [joinF_zero]
      have hcl : (cat out [((startB c e p, 0, 0, 0, 0) : Buc)]).length = out.length + 1 := by rw [cat_eq]; simp
      by_cases h7 : out.length = 0
      · rw [ifB_ltI, if_pos (by rw [lenI_eq, wsub_in ⟨by omega, by omega⟩]; omega), ifB_roomA, if_pos (by simp only [List.length_cons, List.length_nil]; omega), hml _ (by omega) (by omega), add (.inl h7)]
      · have hlp : wsub .i64 (lenI out) 1 = ((out.length - 1 : Nat) : Int) := by rw [lenI_eq, wsub_in ⟨by omega, by omega⟩]; omega
        rw [ifB_ltI, if_neg (by rw [hlp]; omega)]
        rw [show ∀ X Y : Option (List Buc × Int), ifB (ltL (wsub .i64 (lenI out) 1) out) X Y = X from fun X Y => by rw [hlp, ifB_ltL, if_pos ⟨by omega, by omega⟩]]
        rw [show natI (wsub .i64 (lenI out) 1) = out.length - 1 from by rw [hlp]; rfl, atN_nat (by omega), bindO_some, ifB_neI]
        by_cases h8 : (out.getD (out.length - 1) default).1 = startB c e p
        · rw [if_pos h8]
          have := hml out (by omega) (by omega)
          rw [show natI (wsub .i64 (lenI out) 1) = out.length - 1 from by rw [hlp]; rfl, atN_nat (by omega)] at this
          rw [show ∀ X Y : Option (List Buc × Int), ifB (ltL (wsub .i64 (lenI out) 1) out) X Y = X from fun X Y => by rw [hlp, ifB_ltL, if_pos ⟨by omega, by omega⟩]] at this ⊢
          rw [this]
          congr 2
          unfold bstep
          rw [if_neg (by omega)]
        · rw [if_neg h8, ifB_roomA, if_pos (by simp only [List.length_cons, List.length_nil]; omega), hml _ (by omega) (by omega), add (.inr h8)]
    · rintro s hp k
      simp only [stepK_none, stepK_inl, stepK_inr, stepK_map, stepK_if, stepK_bind, ifB_t, ifB_f, ifB_same, ifB_ltI, ifB_leI, ifB_gtI, ifB_geI, ifB_eqI, ifB_neI, ifB_not, ifB_and, ifB_eqB, ifB_isE, ifB_in1, ifB_in2, ifB_in1N, ifB_in2N, ifB_in1C, ifB_in2C, ifB_inN, ifB_ltL, ifB_ltN, ifB_roomA, ifB_roomI, ifB_roomZ, ifB_roomS, ifB_eqS, ifB_eqL, ifB_fits, bindO_some, bindO_none, mapO_some, mapO_none, lenI_eq, lenN_eq, cat_eq, takeI_eq, dropI_eq, sliI_eq, setN_eq, natI_eq, intN_eq]
      rw [if_neg (by omega)]; rfl
  · rw [if_neg h]
    simp only [if_neg h]
end Go.Proofs.Y
namespace Go.Proofs.Y
open Go.Rb Go.Kx
theorem ceil_le {a e : Int} {n : Nat} (he : 1 ≤ e) (h : a ≤ n * e) : (a + e - 1) / e ≤ n := by
  have h1 : (a + e - 1) / e < n + 1 := by
    rw [Int.ediv_lt_iff_lt_mul (by omega), Int.add_mul, Int.one_mul]; omega
  omega
theorem ceil_gt {a e : Int} {n : Nat} (he : 1 ≤ e) (h : n * e < a) : (n : Int) < (a + e - 1) / e := by
  have h1 : (n : Int) + 1 ≤ (a + e - 1) / e := by
    rw [Int.le_ediv_iff_mul_le (by omega), Int.add_mul, Int.one_mul]; omega
  omega
theorem bucketsOf_eq (l : List Pt) (c d e : Int) (hc : checkL l = 0) : F_rainbookref_BucketsOf l c d e = some (buckR l c d e) := by
  have hl := checkL_len hc
  have hall := checkL_all hc
  have hrise := checkL_rise hc
  unfold F_rainbookref_BucketsOf buckR
  rw [in_eq, in_eq, bindO_some, bindO_some, ifB_not, ifB_not, ifB_gtI, ifB_dec, ifB_dec]
  by_cases h1 : 0 ≤ c ∧ c ≤ d
  case neg => rw [if_neg h1, if_pos (by omega)]
  by_cases h2 : 100001 < d
  · rw [if_pos h1, if_pos h2, if_pos (by omega)]
  by_cases h3 : 1 ≤ e ∧ e ≤ 100001
  case neg => rw [if_pos h1, if_neg h2, if_neg h3, if_pos (by omega)]
  rw [if_pos h1, if_neg h2, if_pos h3, if_neg (show ¬ (c < 0 ∨ 100001 < d ∨ d < c ∨ e < 1 ∨ 100001 < e) by omega)]
  refine loop_ind (G := fun _ => some (if 200 < (d - c + e - 1) / e then ([], 2) else (bks c e (rangeR l c d), (0 : Int)))) (P := fun (x : Int × Int × List Buc) => 0 ≤ x.1 ∧ x.1 ≤ 200 ∧ x.2.1 = c + x.1 * e ∧ x.2.2 = bks c e (rangeR l c (min d x.2.1))) (μ := fun x => (d - x.2.1).toNat) ?_ maxR (0, c, []) ⟨Int.le_refl 0, by show (0 : Int) ≤ 200; omega, by show c = c + 0 * e; omega, ?_⟩ (by show (d - c).toNat < maxR; unfold maxR; omega)
  · rintro ⟨n0, st, out⟩ ⟨g0, g1, g2, g3⟩ K hk
    simp only at g0 g1 g2 g3
    obtain ⟨n, rfl⟩ : ∃ n : Nat, n0 = n := ⟨n0.toNat, by omega⟩
    have hne : 0 ≤ (n : Int) * e := Int.mul_nonneg (by omega) (by omega)
    rw [stepK_ifB, stepK_map, ifB_ltI]
    by_cases hst : st < d
    · rw [if_pos hst, stepK_ifB, stepK_map, wadd_nat (by omega), ifB_gtI]
      by_cases h200 : (200 : Int) < ((n + 1 : Nat) : Int)
      · have hn : n = 200 := by omega
        have := ceil_gt (a := d - c) (n := n) (e := e) (by omega) (by omega)
        rw [if_pos h200, if_pos (by omega)]
      · have hmin : minI d (wadd .i64 st e) = min d (st + e) := by rw [wadd_in ⟨by omega, by omega⟩]; rfl
        have hrl := range_len l st (min d (st + e))
        have hin : ∀ p ∈ rangeR l st (min d (st + e)), -1000000 ≤ p.2 ∧ p.2 ≤ 1000000 := fun p hp => by
          have := hall p (range_mem hp).1
          unfold PtIn at this; omega
        have hmd : min d st = st := by omega
        have hnx := bks_next hrise (c := c) (e := e) (a := st) (b := min d (st + e)) (by omega) (n := n) g2 (by omega) (by omega)
        rw [hmd] at g3
        have hol : out.length ≤ 40 := by
          have h1 := bks_len c e (rangeR l c st) []
          have h2 := range_len l c st
          rw [g3]; unfold bks; simp at h1; omega
        have next : ∀ o' : List Buc, o' = bks c e (rangeR l c (min d (st + e))) → K (((n + 1 : Nat) : Int), wadd .i64 st e, o') = some (if 200 < (d - c + e - 1) / e then ([], 2) else (bks c e (rangeR l c d), 0)) := by
          intro o' ho
          rw [wadd_in ⟨by omega, by omega⟩]
          refine hk _ ⟨by show (0 : Int) ≤ ((n + 1 : Nat) : Int); omega, by show ((n + 1 : Nat) : Int) ≤ 200; omega, ?_, ho⟩ (by show (d - (st + e)).toNat < (d - st).toNat; omega)
          show st + e = c + ((n + 1 : Nat) : Int) * e
          push_cast
          rw [Int.add_mul, Int.one_mul]; omega
        rw [if_neg h200, hmin, ranged_eq _ _ _ (by omega), stepK_bind, bindO_some, stepK_ifB, ifB_gtI, lenI_eq]
        by_cases hx : rangeR l st (min d (st + e)) = []
        · rw [if_pos hx] at hnx
          rw [hx, if_neg (by simp), stepK_inl]
          exact next _ (by rw [g3, hnx])
        · rw [if_neg hx] at hnx
          have hx0 : 0 < (rangeR l st (min d (st + e))).length := List.length_pos_iff.2 hx
          rw [if_pos (show (0 : Int) < ((rangeR l st (min d (st + e))).length : Int) by omega), sumOf_eq _ (by omega) hin, stepK_bind, bindO_some, stepK_ifB, stepK_none, stepK_inl, ifB_roomA, if_pos (by simp only [List.length_cons, List.length_nil]; omega), cat_eq]
          exact next _ (by rw [hnx, g3])
    · have hmd : min d st = d := by omega
      rw [hmd] at g3
      have := ceil_le (a := d - c) (n := n) (e := e) (by omega) (by omega)
      rw [if_neg hst, if_neg (by omega), g3]
  · show ([] : List Buc) = bks c e (rangeR l c (min d c))
    rw [range_none (by omega)]; rfl
end Go.Proofs.Y
namespace Go.Proofs.Y
open Go.Rb Go.Kx
noncomputable def C_rainbooklaw_points : Code := bodyOf Try.f92
noncomputable def G_rainbooklaw_points : FuncId → Option GS := tabG []
theorem g_rainbooklaw_points : ΓOK Try.prog G_rainbooklaw_points := ΓOK_nil
def H_rainbooklaw_points : HT := ⟨tabL [], tabH []⟩
abbrev is_rainbooklaw_points : List IT := []
abbrev os_rainbooklaw_points : List OT := [⟨.one (.sl 34 (.cons (.int .i64) (.one (.int .i64)))), false, []⟩]
set_option maxRecDepth 100000
noncomputable def F_rainbooklaw_points : Option (List (Int × Int)) := some [(10, 5), (20, 5), (30, 7)]
theorem F_rainbooklaw_points_eq (x : PI is_rainbooklaw_points) : F_rainbooklaw_points  = fnE T G_rainbooklaw_points H_rainbooklaw_points C_rainbooklaw_points (resOf Try.f92) is_rainbooklaw_points os_rainbooklaw_points x := by kernel_rfl
noncomputable abbrev R_rainbooklaw_points : GS := mkSpec false is_rainbooklaw_points os_rainbooklaw_points fun x => F_rainbooklaw_points 
theorem R_rainbooklaw_points_ok : GSOK Try.prog 92 R_rainbooklaw_points := spec_ok tok g_rainbooklaw_points fmo (Ht := H_rainbooklaw_points) (fn := Try.f92) (Try.func92) (c := C_rainbooklaw_points) (by kernel_rfl) (by kernel_rfl) (by kernel_rfl) (by decide +kernel) (by decide) F_rainbooklaw_points_eq
end Go.Proofs.Y
namespace Go.Proofs.Y
open Go.Rb Go.Kx
noncomputable def C_rainbookref_FreshShelf : Code := bodyOf Try.f79
noncomputable def G_rainbookref_FreshShelf : FuncId → Option GS := tabG []
theorem g_rainbookref_FreshShelf : ΓOK Try.prog G_rainbookref_FreshShelf := ΓOK_nil
def H_rainbookref_FreshShelf : HT := ⟨tabL [], tabH []⟩
abbrev is_rainbookref_FreshShelf : List IT := []
abbrev os_rainbookref_FreshShelf : List OT := [⟨.one (.sl 78 (.cons (.sl 58 (.cons (.int .i64) (.cons (.int .i64) (.cons (.int .i64) (.one (.sl 4 (.one .bool))))))) (.one (.sl 34 (.cons (.int .i64) (.one (.int .i64))))))), true, [true]⟩]
set_option maxRecDepth 100000
noncomputable def F_rainbookref_FreshShelf : Option (List (List (Int × Int × Int × List Bool) × List (Int × Int))) := ifB (roomI 48 4) (some (repI 4 ([], []))) none
theorem F_rainbookref_FreshShelf_eq (x : PI is_rainbookref_FreshShelf) : F_rainbookref_FreshShelf  = fnE T G_rainbookref_FreshShelf H_rainbookref_FreshShelf C_rainbookref_FreshShelf (resOf Try.f79) is_rainbookref_FreshShelf os_rainbookref_FreshShelf x := by kernel_rfl
noncomputable abbrev R_rainbookref_FreshShelf : GS := mkSpec false is_rainbookref_FreshShelf os_rainbookref_FreshShelf fun x => F_rainbookref_FreshShelf 
theorem R_rainbookref_FreshShelf_ok : GSOK Try.prog 79 R_rainbookref_FreshShelf := spec_ok tok g_rainbookref_FreshShelf fmo (Ht := H_rainbookref_FreshShelf) (fn := Try.f79) (Try.func79) (c := C_rainbookref_FreshShelf) (by kernel_rfl) (by kernel_rfl) (by kernel_rfl) (by decide +kernel) (by decide) F_rainbookref_FreshShelf_eq
end Go.Proofs.Y
namespace Go.Proofs.Y
open Go.Rb Go.Kx
noncomputable def C_rainbooklaw_small : Code := bodyOf Try.f103
noncomputable def G_rainbooklaw_small : FuncId → Option GS := tabG [(92, R_rainbooklaw_points), (54, R_rainbookref_BlockOf), (79, R_rainbookref_FreshShelf)]
theorem g_rainbooklaw_small : ΓOK Try.prog G_rainbooklaw_small := ΓOK_cons (R_rainbooklaw_points_ok) (ΓOK_cons (R_rainbookref_BlockOf_ok) (ΓOK_cons (R_rainbookref_FreshShelf_ok) (ΓOK_nil)))
def H_rainbooklaw_small : HT := ⟨tabL [], tabH []⟩
abbrev is_rainbooklaw_small : List IT := []
abbrev os_rainbooklaw_small : List OT := [⟨.one (.sl 78 (.cons (.sl 58 (.cons (.int .i64) (.cons (.int .i64) (.cons (.int .i64) (.one (.sl 4 (.one .bool))))))) (.one (.sl 34 (.cons (.int .i64) (.one (.int .i64))))))), true, []⟩]
set_option maxRecDepth 100000
noncomputable def F_rainbooklaw_small : Option (List (List (Int × Int × Int × List Bool) × List (Int × Int))) :=  bindO F_rainbooklaw_points fun (y : List (Int × Int)) => ifB (in1 y 2) (bindO (F_rainbookref_BlockOf (takeI y 2)) fun (y : (Int × Int × Int × List Bool) × Int) => bindO F_rainbookref_FreshShelf fun (y_1 : List (List (Int × Int × Int × List Bool) × List (Int × Int))) => bindO F_rainbooklaw_points fun (y_2 : List (Int × Int)) => ifB (in1 y_2 2) (ifB (ltL 1 y_1) (bindO (atN y_1 (natI 1)) fun (y_3 : List (Int × Int × Int × List Bool) × List (Int × Int)) => some (setN y_1 (natI 1) ([(y.1.1, y.1.2.1, y.1.2.2.1, y.1.2.2.2)], dropI y_2 2))) none) none) none
theorem F_rainbooklaw_small_eq (x : PI is_rainbooklaw_small) : F_rainbooklaw_small  = fnE T G_rainbooklaw_small H_rainbooklaw_small C_rainbooklaw_small (resOf Try.f103) is_rainbooklaw_small os_rainbooklaw_small x := by kernel_rfl
noncomputable abbrev R_rainbooklaw_small : GS := mkSpec false is_rainbooklaw_small os_rainbooklaw_small fun x => F_rainbooklaw_small 
theorem R_rainbooklaw_small_ok : GSOK Try.prog 103 R_rainbooklaw_small := spec_ok tok g_rainbooklaw_small fmo (Ht := H_rainbooklaw_small) (fn := Try.f103) (Try.func103) (c := C_rainbooklaw_small) (by kernel_rfl) (by kernel_rfl) (by kernel_rfl) (by decide +kernel) (by decide) F_rainbooklaw_small_eq
end Go.Proofs.Y
namespace Go.Proofs.Y
open Go.Rb Go.Kx
noncomputable def C_rainbooklaw_asked : Code := bodyOf Try.f64
noncomputable def G_rainbooklaw_asked : FuncId → Option GS := tabG [(103, R_rainbooklaw_small), (60, R_query_Range), (61, R_query_Buckets), (62, R_query_Last), (92, R_rainbooklaw_points), (50, R_equalP), (68, R_equalBu)]
theorem g_rainbooklaw_asked : ΓOK Try.prog G_rainbooklaw_asked := ΓOK_cons (R_rainbooklaw_small_ok) (ΓOK_cons (R_query_Range_ok) (ΓOK_cons (R_query_Buckets_ok) (ΓOK_cons (R_query_Last_ok) (ΓOK_cons (R_rainbooklaw_points_ok) (ΓOK_cons (R_equalP_ok) (ΓOK_cons (R_equalBu_ok) (ΓOK_nil)))))))
def H_rainbooklaw_asked : HT := ⟨tabL [], tabH []⟩
abbrev is_rainbooklaw_asked : List IT := []
abbrev os_rainbooklaw_asked : List OT := [⟨.one .bool, false, []⟩]
set_option maxRecDepth 100000
noncomputable def F_rainbooklaw_asked : Option Bool :=  bindO F_rainbooklaw_small fun (y : List (List (Int × Int × Int × List Bool) × List (Int × Int))) => bindO (F_query_Range y 1 10 30) fun (y : List (Int × Int) × Int) => bindO F_rainbooklaw_small fun (y_1 : List (List (Int × Int × Int × List Bool) × List (Int × Int))) => bindO (F_query_Buckets y_1 1 5 35 20) fun (y_2 : List (Int × Int × Int × Int × Int) × Int) => bindO F_rainbooklaw_small fun (y_3 : List (List (Int × Int × Int × List Bool) × List (Int × Int))) => bindO (F_query_Last y_3 1) fun (y_4 : (Int × Int) × Bool × Int) => bindO F_rainbooklaw_small fun (y_5 : List (List (Int × Int × Int × List Bool) × List (Int × Int))) => bindO (F_query_Last y_5 0) fun (y_6 : (Int × Int) × Bool × Int) => bindO F_rainbooklaw_small fun (y_7 : List (List (Int × Int × Int × List Bool) × List (Int × Int))) => bindO (F_query_Buckets y_7 1 0 1000 1) fun (y_8 : List (Int × Int × Int × Int × Int) × Int) => ifB (eqI y.2 0) (ifB (eqI y_2.2 0) (ifB (eqI y_4.2.2 0) (ifB (eqI y_6.2.2 0) (ifB (eqI y_8.2 2) (ifB y_4.2.1 (ifB (notB y_6.2.1) (bindO F_rainbooklaw_points fun (y_9 : List (Int × Int)) => ifB (in1 y_9 2) (bindO (F_equalP y.1 (takeI y_9 2)) fun (y : Bool) => ifB y (bindO F_rainbooklaw_points fun (y : List (Int × Int)) => bindO (atI y 2) fun (y : Int × Int) => ifB (eqL [y_4.1.1, y_4.1.2] [y.1, y.2]) (bindO (F_equalBu y_2.1 [(5, 2, 5, 5, 10), (25, 1, 7, 7, 7)]) fun (y : Bool) => some y) (some false)) (some false)) none) (some false)) (some false)) (some false)) (some false)) (some false)) (some false)) (some false)
theorem F_rainbooklaw_asked_eq (x : PI is_rainbooklaw_asked) : F_rainbooklaw_asked  = fnE T G_rainbooklaw_asked H_rainbooklaw_asked C_rainbooklaw_asked (resOf Try.f64) is_rainbooklaw_asked os_rainbooklaw_asked x := by kernel_rfl
noncomputable abbrev R_rainbooklaw_asked : GS := mkSpec false is_rainbooklaw_asked os_rainbooklaw_asked fun x => F_rainbooklaw_asked 
theorem R_rainbooklaw_asked_ok : GSOK Try.prog 64 R_rainbooklaw_asked := spec_ok tok g_rainbooklaw_asked fmo (Ht := H_rainbooklaw_asked) (fn := Try.f64) (Try.func64) (c := C_rainbooklaw_asked) (by kernel_rfl) (by kernel_rfl) (by kernel_rfl) (by decide +kernel) (by decide) F_rainbooklaw_asked_eq
end Go.Proofs.Y
namespace Go.Proofs.Y
open Go.Rb Go.Kx
noncomputable def C_rainbooklaw_QuerySays : Code := bodyOf Try.f16
noncomputable def G_rainbooklaw_QuerySays : FuncId → Option GS := tabG [(60, R_query_Range), (61, R_query_Buckets), (62, R_query_Last), (63, R_rainbookref_CheckShelf), (64, R_rainbooklaw_asked), (65, R_rainbookref_RowPoints), (66, R_rainbookref_BucketsOf), (67, R_rainbookref_Ranged), (50, R_equalP), (68, R_equalBu)]
theorem g_rainbooklaw_QuerySays : ΓOK Try.prog G_rainbooklaw_QuerySays := ΓOK_cons (R_query_Range_ok) (ΓOK_cons (R_query_Buckets_ok) (ΓOK_cons (R_query_Last_ok) (ΓOK_cons (R_rainbookref_CheckShelf_ok) (ΓOK_cons (R_rainbooklaw_asked_ok) (ΓOK_cons (R_rainbookref_RowPoints_ok) (ΓOK_cons (R_rainbookref_BucketsOf_ok) (ΓOK_cons (R_rainbookref_Ranged_ok) (ΓOK_cons (R_equalP_ok) (ΓOK_cons (R_equalBu_ok) (ΓOK_nil))))))))))
def H_rainbooklaw_QuerySays : HT := ⟨tabL [], tabH []⟩
abbrev is_rainbooklaw_QuerySays : List IT := [.v (.one (.sl 78 (.cons (.sl 58 (.cons (.int .i64) (.cons (.int .i64) (.cons (.int .i64) (.one (.sl 4 (.one .bool))))))) (.one (.sl 34 (.cons (.int .i64) (.one (.int .i64)))))))) true, .v (.one (.int .i64)) false, .v (.one (.int .i64)) false, .v (.one (.int .i64)) false, .v (.one (.int .i64)) false]
abbrev os_rainbooklaw_QuerySays : List OT := [⟨.one .bool, false, []⟩]
set_option maxRecDepth 100000
noncomputable def F_rainbooklaw_QuerySays : List (List (Int × Int × Int × List Bool) × List (Int × Int)) → Int → Int → Int → Int → Option Bool := fun (a : List (List (Int × Int × Int × List Bool) × List (Int × Int))) (b c d e : Int) => bindO (F_query_Range a b c d) fun (y : List (Int × Int) × Int) => bindO (F_query_Buckets a b c d e) fun (y_1 : List (Int × Int × Int × Int × Int) × Int) => bindO (F_query_Last a b) fun (y_2 : (Int × Int) × Bool × Int) => bindO (F_rainbookref_CheckShelf a) fun (y_3 : Int) => ifB (eqI y_3 0) (ifB (ltI b 0) (bindO F_rainbooklaw_asked fun (y_4 : Bool) => ifB (notB y_4) (bindO F_rainbooklaw_asked fun (y_5 : Bool) => ifB y_5 (ifB (eqI y.2 5) (ifB (eqI y_1.2 5) (ifB (eqI y_2.2.2 5) (ifB (eqI (wadd .i64 (lenI y.1) (lenI y_1.1)) 0) (ifB (eqL [y_2.1.1, y_2.1.2] [0, 0]) (some (notB y_2.2.1)) (some false)) (some false)) (some false)) (some false)) (some false)) (some false)) (bindO F_rainbooklaw_asked fun (y_5 : Bool) => ifB y_5 (ifB (eqI y.2 5) (ifB (eqI y_1.2 5) (ifB (eqI y_2.2.2 5) (ifB (eqI (wadd .i64 (lenI y.1) (lenI y_1.1)) 0) (ifB (eqL [y_2.1.1, y_2.1.2] [0, 0]) (some (notB y_2.2.1)) (some false)) (some false)) (some false)) (some false)) (some false)) (some false))) (ifB (gtI b 3) (bindO F_rainbooklaw_asked fun (y_4 : Bool) => ifB (notB y_4) (bindO F_rainbooklaw_asked fun (y_5 : Bool) => ifB y_5 (ifB (eqI y.2 5) (ifB (eqI y_1.2 5) (ifB (eqI y_2.2.2 5) (ifB (eqI (wadd .i64 (lenI y.1) (lenI y_1.1)) 0) (ifB (eqL [y_2.1.1, y_2.1.2] [0, 0]) (some (notB y_2.2.1)) (some false)) (some false)) (some false)) (some false)) (some false)) (some false)) (bindO F_rainbooklaw_asked fun (y_5 : Bool) => ifB y_5 (ifB (eqI y.2 5) (ifB (eqI y_1.2 5) (ifB (eqI y_2.2.2 5) (ifB (eqI (wadd .i64 (lenI y.1) (lenI y_1.1)) 0) (ifB (eqL [y_2.1.1, y_2.1.2] [0, 0]) (some (notB y_2.2.1)) (some false)) (some false)) (some false)) (some false)) (some false)) (some false))) (bindO F_rainbooklaw_asked fun (y_4 : Bool) => ifB (notB y_4) (bindO F_rainbooklaw_asked fun (y_5 : Bool) => ifB y_5 (ifB (eqI y.2 y_3) (ifB (eqI y_1.2 y_3) (ifB (eqI y_2.2.2 y_3) (ifB (eqI (wadd .i64 (lenI y.1) (lenI y_1.1)) 0) (ifB (eqL [y_2.1.1, y_2.1.2] [0, 0]) (some (notB y_2.2.1)) (some false)) (some false)) (some false)) (some false)) (some false)) (some false)) (ifB (neI y_3 0) (bindO F_rainbooklaw_asked fun (y_5 : Bool) => ifB y_5 (ifB (eqI y.2 y_3) (ifB (eqI y_1.2 y_3) (ifB (eqI y_2.2.2 y_3) (ifB (eqI (wadd .i64 (lenI y.1) (lenI y_1.1)) 0) (ifB (eqL [y_2.1.1, y_2.1.2] [0, 0]) (some (notB y_2.2.1)) (some false)) (some false)) (some false)) (some false)) (some false)) (some false)) (bindO (atI a b) fun (y_5 : List (Int × Int × Int × List Bool) × List (Int × Int)) => bindO (F_rainbookref_RowPoints (y_5.1, y_5.2)) fun (y_6 : List (Int × Int) × Int) => bindO (F_rainbookref_BucketsOf y_6.1 c d e) fun (y_7 : List (Int × Int × Int × Int × Int) × Int) => ifB (neI y.2 0) (some false) (bindO (F_rainbookref_Ranged y_6.1 c d) fun (y_8 : List (Int × Int)) => bindO (F_equalP y.1 y_8) fun (y : Bool) => ifB (notB y) (some false) (ifB (neI y_1.2 y_7.2) (some false) (bindO (F_equalBu y_1.1 y_7.1) fun (y : Bool) => ifB (notB y) (some false) (ifB (neI y_2.2.2 0) (some false) (ifB (eqI (lenI y_6.1) 0) (ifB (notB y_2.2.1) (some (eqL [y_2.1.1, y_2.1.2] [0, 0])) (some false)) (ifB y_2.2.1 (bindO (atI y_6.1 (wsub .i64 (lenI y_6.1) 1)) fun (y : Int × Int) => some (eqL [y_2.1.1, y_2.1.2] [y.1, y.2])) (some false)))))))))))) (bindO F_rainbooklaw_asked fun (y_4 : Bool) => ifB (notB y_4) (bindO F_rainbooklaw_asked fun (y_5 : Bool) => ifB y_5 (ifB (eqI y.2 y_3) (ifB (eqI y_1.2 y_3) (ifB (eqI y_2.2.2 y_3) (ifB (eqI (wadd .i64 (lenI y.1) (lenI y_1.1)) 0) (ifB (eqL [y_2.1.1, y_2.1.2] [0, 0]) (some (notB y_2.2.1)) (some false)) (some false)) (some false)) (some false)) (some false)) (some false)) (ifB (neI y_3 0) (bindO F_rainbooklaw_asked fun (y_5 : Bool) => ifB y_5 (ifB (eqI y.2 y_3) (ifB (eqI y_1.2 y_3) (ifB (eqI y_2.2.2 y_3) (ifB (eqI (wadd .i64 (lenI y.1) (lenI y_1.1)) 0) (ifB (eqL [y_2.1.1, y_2.1.2] [0, 0]) (some (notB y_2.2.1)) (some false)) (some false)) (some false)) (some false)) (some false)) (some false)) (bindO (atI a b) fun (y_5 : List (Int × Int × Int × List Bool) × List (Int × Int)) => bindO (F_rainbookref_RowPoints (y_5.1, y_5.2)) fun (y_6 : List (Int × Int) × Int) => bindO (F_rainbookref_BucketsOf y_6.1 c d e) fun (y_7 : List (Int × Int × Int × Int × Int) × Int) => ifB (neI y.2 0) (some false) (bindO (F_rainbookref_Ranged y_6.1 c d) fun (y_8 : List (Int × Int)) => bindO (F_equalP y.1 y_8) fun (y : Bool) => ifB (notB y) (some false) (ifB (neI y_1.2 y_7.2) (some false) (bindO (F_equalBu y_1.1 y_7.1) fun (y : Bool) => ifB (notB y) (some false) (ifB (neI y_2.2.2 0) (some false) (ifB (eqI (lenI y_6.1) 0) (ifB (notB y_2.2.1) (some (eqL [y_2.1.1, y_2.1.2] [0, 0])) (some false)) (ifB y_2.2.1 (bindO (atI y_6.1 (wsub .i64 (lenI y_6.1) 1)) fun (y : Int × Int) => some (eqL [y_2.1.1, y_2.1.2] [y.1, y.2])) (some false))))))))))
theorem F_rainbooklaw_QuerySays_eq (x : PI is_rainbooklaw_QuerySays) : F_rainbooklaw_QuerySays (x.1) (x.2.1) (x.2.2.1) (x.2.2.2.1) (x.2.2.2.2) = fnE T G_rainbooklaw_QuerySays H_rainbooklaw_QuerySays C_rainbooklaw_QuerySays (resOf Try.f16) is_rainbooklaw_QuerySays os_rainbooklaw_QuerySays x := by kernel_rfl
noncomputable abbrev R_rainbooklaw_QuerySays : GS := mkSpec false is_rainbooklaw_QuerySays os_rainbooklaw_QuerySays fun x => F_rainbooklaw_QuerySays (x.1) (x.2.1) (x.2.2.1) (x.2.2.2.1) (x.2.2.2.2)
theorem R_rainbooklaw_QuerySays_ok : GSOK Try.prog 16 R_rainbooklaw_QuerySays := spec_ok tok g_rainbooklaw_QuerySays fmo (Ht := H_rainbooklaw_QuerySays) (fn := Try.f16) (Try.func16) (c := C_rainbooklaw_QuerySays) (by kernel_rfl) (by kernel_rfl) (by kernel_rfl) (by decide +kernel) (by decide) F_rainbooklaw_QuerySays_eq
end Go.Proofs.Y
namespace Go.Proofs.Y
open Go.Rb Go.Kx
def pts3 : List Pt := [(10, 5), (20, 5), (30, 7)]
def blk2 : Bk := (makeR (pts3.take 2)).1
def smallS : Shf := [([], []), ([blk2], [(30, 7)]), ([], []), ([], [])]
theorem pts_eq : F_rainbooklaw_points = some pts3 := rfl
theorem fresh_eq : F_rainbookref_FreshShelf = some [([], []), ([], []), ([], []), ([], [])] := by
  unfold F_rainbookref_FreshShelf
  rw [ifB_roomI, if_pos (by decide)]; rfl
theorem small_eq : F_rainbooklaw_small = some smallS := by
  unfold F_rainbooklaw_small
  rw [pts_eq, bindO_some, ifB_in1, if_pos (by decide), takeI_eq, blockOf_eq _ (by decide), bindO_some, fresh_eq, bindO_some, bindO_some, ifB_in1, if_pos (by decide), ifB_ltL, if_pos (by decide)]
  rfl
theorem small_ok : okS smallS := by
  have hb : okB blk2 := by unfold okB; decide +kernel
  refine ⟨by decide, fun r hr => ?_⟩
  simp only [smallS, List.mem_cons, List.not_mem_nil, or_false] at hr
  rcases hr with rfl | rfl | rfl | rfl
  · exact ⟨by simp, by decide, by decide⟩
  · exact ⟨by simpa using hb, by decide, by decide⟩
  · exact ⟨by simp, by decide, by decide⟩
  · exact ⟨by simp, by decide, by decide⟩
theorem small_1 : allS smallS 1 = (pts3, 0) := by decide +kernel
theorem small_0 : allS smallS 0 = ([], 0) := by decide +kernel
theorem asked_eq : F_rainbooklaw_asked = some true := by
  unfold F_rainbooklaw_asked
  have e1 : rangeR pts3 10 30 = [(10, 5), (20, 5)] := by decide +kernel
  have e2 : buckR pts3 5 35 20 = ([(5, 2, 5, 5, 10), (25, 1, 7, 7, 7)], 0) := by decide +kernel
  have e3 : buckR pts3 0 1000 1 = ([], 2) := by decide +kernel
  have e4 : lastR pts3 = ((30, 7), true) := by decide +kernel
  have e5 : lastR [] = ((0, 0), false) := rfl
  simp only [small_eq, bindO_some, range_eq _ _ _ _ small_ok, buckets_eq _ _ _ _ _ small_ok, last_eq _ _ small_ok, small_1, small_0, e1, e2, e3, e4, e5, if_true, pts_eq]
  have e6 : takeI pts3 2 = [(10, 5), (20, 5)] := rfl
  have e7 : atI pts3 2 = some (30, 7) := rfl
  rw [e6, equalP_eq (by decide), e7]
  simp only [bindO_some]
  rw [equalBu_eq (by decide)]
  decide +kernel
theorem buckR_len (l : List Pt) (c d e : Int) : (buckR l c d e).1.length ≤ l.length := by
  have h1 := bks_len c e (rangeR l c d) []
  have h2 := range_len l c d
  unfold buckR
  split
  · simp
  · split
    · simp
    · unfold bks; simp at h1 ⊢; omega
theorem querySays_err (v : Int) : ifB (eqI v v) (ifB (eqI v v) (ifB (eqI v v) (ifB (eqI (wadd IntKind.i64 (lenI ([] : List Pt)) (lenI ([] : List Buc))) 0) (ifB (eqL [(0 : Int), 0] [0, 0]) (some (notB false)) (some false)) (some false)) (some false)) (some false)) (some false) = some true := by
  rw [ifB_eqI, ifB_eqI, ifB_eqI, if_pos rfl, if_pos rfl, if_pos rfl]; rfl
theorem querySays_eq (s : Shf) (i c d e : Int) (hs : okS s) : F_rainbooklaw_QuerySays s i c d e = some true := by
  unfold F_rainbooklaw_QuerySays
  have hck := checkShelf_eq s hs
  simp only [range_eq _ _ _ _ hs, buckets_eq _ _ _ _ _ hs, last_eq _ _ hs, hck, asked_eq, bindO_some, ifB_not, ifB_t, ifB_f]
  by_cases hc : chkS s = 0
  · have h4 := (chkS_zero.1 hc).1
    by_cases hi : 0 ≤ i ∧ i < 4
    · have h0 := allS_of hc hi.1 hi.2
      have hl := allS_len h0
      obtain ⟨_, _, _, ha, hk⟩ := allS_ok h0
      have hr := hs.2 _ (getD_mem (l := s) (i := i.toNat) (by omega))
      have hsafe : safeQ (allR (s.getD i.toNat default)) = allS s i := by
        unfold safeQ; rw [← ha, if_pos h0]
      simp only [if_pos h0]
      rw [ifB_eqI, if_pos hc, ifB_ltI, if_neg (by omega), ifB_gtI, if_neg (by omega), ifB_neI, if_pos hc, atI_int (by omega) (by omega), bindO_some]
      simp only [show ∀ r : Rowd, ((r.1, r.2) : Rowd) = r from fun _ => rfl]
      rw [rowPoints_eq _ hr, hsafe, bindO_some, bucketsOf_eq _ _ _ _ hk, bindO_some, ifB_neI, if_pos rfl, ranged_eq _ _ _ (by omega), bindO_some, equalP_eq (by have := range_len (allS s i).1 c d; omega), bindO_some, ifB_neI, if_pos rfl, equalBu_eq ?_, bindO_some, ifB_neI, if_pos rfl]
      · rw [ifB_eqI, lenI_eq]
        generalize (allS s i).1 = l at *
        unfold lastR
        by_cases hz : l.length = 0
        · rw [if_pos (by omega)]
          simp [hz, ifB_not, eqL, ifB_t, ifB_f]
        · rw [if_neg (by omega), ← lenI_eq, lenPred (by omega) (by omega), atI_nat (by omega)]
          simp [hz, ifB_not, ifB_t, ifB_f, eqL, bindO_some]
      · have := buckR_len (allS s i).1 c d e; omega
    · have ha : allS s i = ([], 5) := by unfold allS; rw [if_pos hc, if_pos (by omega)]
      rw [ifB_eqI, if_pos hc, ifB_ltI, ifB_gtI]
      simp only [ha]
      have h5 := querySays_err 5
      split
      · exact h5
      · split
        · exact h5
        · omega
  · have ha : allS s i = ([], chkS s) := by unfold allS; rw [if_neg hc]
    rw [ifB_eqI, if_neg hc, ifB_neI, if_neg hc]
    simp only [ha, if_neg hc]
    exact querySays_err _
end Go.Proofs.Y
namespace Go.Proofs.Y
open Go.Rb Go.Kx
theorem by4 : Try.prog.bytesOf 4 = 1 := by kernel_rfl
theorem by34 : Try.prog.bytesOf 34 = 16 := by kernel_rfl
theorem by58 : Try.prog.bytesOf 58 = 48 := by kernel_rfl
theorem by78 : Try.prog.bytesOf 78 = 48 := by kernel_rfl
theorem reach_eq : reachBytes = 140737488351232 := by decide +kernel
abbrev bkR : RT := .cons (.int .i64) (.cons (.int .i64) (.cons (.int .i64) (.one (.sl 4 (.one .bool)))))
abbrev ptR : RT := .cons (.int .i64) (.one (.int .i64))
abbrev rowR : RT := .cons (.sl 58 bkR) (.one (.sl 34 ptR))
abbrev shR : CT := .sl 78 rowR
theorem op_bk (b : DenR bkR) (h : BdR Try.prog bkR b) : okB (b : Bk) := by
  obtain ⟨_, _, _, h, _⟩ := h
  rw [by4, reach_eq] at h
  show List.length b.2.2.2 ≤ _
  omega
theorem op_row (r : DenR rowR) (h : BdR Try.prog rowR r) : okR (r : Rowd) := by
  obtain ⟨⟨h1, h2⟩, h3, _⟩ := h
  rw [by58, reach_eq] at h1
  rw [by34, reach_eq] at h3
  refine ⟨fun b hb => op_bk b (h2 b hb), ?_, ?_⟩
  · show List.length r.1 < _; omega
  · show List.length r.2 ≤ _; omega
theorem op_shelf (s : Den shR) (h : Bd Try.prog shR s) : okS (s : Shf) := by
  obtain ⟨h1, h2⟩ := h
  rw [by78, reach_eq] at h1
  refine ⟨?_, fun r hr => op_row r (h2 r hr)⟩
  show List.length s < _; omega
end Go.Proofs.Y
namespace Go.Proofs.Y
open Go.Rb Go.Kx
theorem by97 : Try.prog.bytesOf 97 = 24 := by kernel_rfl
theorem by104 : Try.prog.bytesOf 104 = 48 := by kernel_rfl
abbrev enR : RT := .cons (.int .i64) (.cons (.int .i64) (.one (.int .i64)))
abbrev enC : CT := .sl 97 enR
abbrev rcR : RT := .cons (.int .i64) (.cons (.int .i64) (.cons (.int .i64) (.one enC)))
abbrev rcC : CT := .sl 104 rcR
theorem op_ents (l : Den enC) (h : Bd Try.prog enC l) : List.length (α := Ent) l ≤ 5864062014700 := by
  obtain ⟨h1, _⟩ := h
  rw [by97, reach_eq] at h1
  have : List.length (α := Ent) l * 24 ≤ 140737488351232 := h1
  omega
theorem op_int (n : Int) (h : Bd Try.prog (.int .i64) n) : n ≤ 9223372036854775807 := by
  have h1 : (Lit.int .i64 n).wf = true := h
  simp only [Lit.wf, Bool.and_eq_true, decide_eq_true_eq] at h1
  exact h1.2
theorem op_recs (l : Den rcC) (h : Bd Try.prog rcC l) : List.length (α := Rc) l ≤ 2932031007400 ∧ ∀ r : Rc, List.Mem r (show List Rc from l) → List.length r.2.2.2 ≤ 5864062014700 := by
  obtain ⟨h1, h2⟩ := h
  rw [by104, reach_eq] at h1
  have : List.length (α := Rc) l * 48 ≤ 140737488351232 := h1
  refine ⟨by omega, fun r hr => ?_⟩
  exact op_ents _ (h2 r hr).2.2.2
theorem op_rec (r : DenR rcR) (h : BdR Try.prog rcR r) : List.length (Prod.snd (Prod.snd (Prod.snd (r : Rc)))) ≤ 5864062014700 := op_ents _ h.2.2.2
end Go.Proofs.Y
namespace Go.Proofs.Y
open Go.Rb Go.Kx
noncomputable def C_rainbooklaw_at : Code := bodyOf Try.f30
noncomputable def G_rainbooklaw_at : FuncId → Option GS := tabG []
theorem g_rainbooklaw_at : ΓOK Try.prog G_rainbooklaw_at := ΓOK_nil
def H_rainbooklaw_at : HT := ⟨tabL [], tabH []⟩
abbrev is_rainbooklaw_at : List IT := [.v (.one (.int .i64)) false, .v (.one (.int .i64)) false]
abbrev os_rainbooklaw_at : List OT := [⟨.one (.int .i64), false, []⟩]
set_option maxRecDepth 100000
noncomputable def F_rainbooklaw_at : Int → Int → Option Int := fun (a b : Int) => ifB (eqI b 0) none (ifB (ltI (wrem a b) 0) (some (wadd .i64 (wrem a b) b)) (some (wrem a b)))
theorem F_rainbooklaw_at_eq (x : PI is_rainbooklaw_at) : F_rainbooklaw_at (x.1) (x.2) = fnE T G_rainbooklaw_at H_rainbooklaw_at C_rainbooklaw_at (resOf Try.f30) is_rainbooklaw_at os_rainbooklaw_at x := by kernel_rfl
noncomputable abbrev R_rainbooklaw_at : GS := mkSpec false is_rainbooklaw_at os_rainbooklaw_at fun x => F_rainbooklaw_at (x.1) (x.2)
theorem R_rainbooklaw_at_ok : GSOK Try.prog 30 R_rainbooklaw_at := spec_ok tok g_rainbooklaw_at fmo (Ht := H_rainbooklaw_at) (fn := Try.f30) (Try.func30) (c := C_rainbooklaw_at) (by kernel_rfl) (by kernel_rfl) (by kernel_rfl) (by decide +kernel) (by decide) F_rainbooklaw_at_eq
end Go.Proofs.Y
namespace Go.Proofs.Y
open Go.Rb Go.Kx
noncomputable def C_rainbooklaw_QueryEach : Code := bodyOf Try.f17
noncomputable def G_rainbooklaw_QueryEach : FuncId → Option GS := tabG [(30, R_rainbooklaw_at), (60, R_query_Range), (64, R_rainbooklaw_asked), (61, R_query_Buckets), (50, R_equalP), (26, R_sum_Of), (68, R_equalBu)]
theorem g_rainbooklaw_QueryEach : ΓOK Try.prog G_rainbooklaw_QueryEach := ΓOK_cons (R_rainbooklaw_at_ok) (ΓOK_cons (R_query_Range_ok) (ΓOK_cons (R_rainbooklaw_asked_ok) (ΓOK_cons (R_query_Buckets_ok) (ΓOK_cons (R_equalP_ok) (ΓOK_cons (R_sum_Of_ok) (ΓOK_cons (R_equalBu_ok) (ΓOK_nil)))))))
def H_rainbooklaw_QueryEach : HT := ⟨tabL [(6, .it [] (dyn [.t 30 (.int .i64)]))], tabH []⟩
abbrev is_rainbooklaw_QueryEach : List IT := [.v (.one (.sl 78 (.cons (.sl 58 (.cons (.int .i64) (.cons (.int .i64) (.cons (.int .i64) (.one (.sl 4 (.one .bool))))))) (.one (.sl 34 (.cons (.int .i64) (.one (.int .i64)))))))) true, .v (.one (.int .i64)) false]
abbrev os_rainbooklaw_QueryEach : List OT := [⟨.one .bool, false, []⟩]
set_option maxRecDepth 100000
noncomputable def F_rainbooklaw_QueryEach : List (List (Int × Int × Int × List Bool) × List (Int × Int)) → Int → Option Bool := fun (a : List (List (Int × Int × Int × List Bool) × List (Int × Int))) (b : Int) => bindO (F_rainbooklaw_at b 4) fun (y : Int) => bindO (F_query_Range a y 0 100001) fun (y_1 : List (Int × Int) × Int) => bindO F_rainbooklaw_asked fun (y_2 : Bool) => ifB (notB y_2) (bindO F_rainbooklaw_asked fun (y : Bool) => some y) (ifB (neI y_1.2 0) (bindO F_rainbooklaw_asked fun (y : Bool) => some y) (loopN maxR (fun (x : Int) => ifB (ltI x (lenI y_1.1)) (bindO (atI y_1.1 x) fun (y_3 : Int × Int) => bindO (F_query_Range a y y_3.1 (wadd .i64 y_3.1 1)) fun (y_4 : List (Int × Int) × Int) => bindO (F_query_Buckets a y y_3.1 (wadd .i64 y_3.1 1) 1) fun (y : List (Int × Int × Int × Int × Int) × Int) => ifB (neI y_4.2 0) (mapO Sum.inr (some false)) (ifB (neI y.2 0) (mapO Sum.inr (some false)) (bindO (F_equalP y_4.1 [(y_3.1, y_3.2)]) fun (y_5 : Bool) => ifB (notB y_5) (mapO Sum.inr (some false)) (bindO (F_sum_Of y_4.1) fun (y_6 : Int × Int × Int × Int) => bindO (F_equalBu y.1 [(y_3.1, y_6.1, y_6.2.1, y_6.2.2.1, y_6.2.2.2)]) fun (y : Bool) => ifB (notB y) (mapO Sum.inr (some false)) (some (Sum.inl (wadd .i64 x 1))))))) (mapO Sum.inr (some true))) 0))
theorem F_rainbooklaw_QueryEach_eq (x : PI is_rainbooklaw_QueryEach) : F_rainbooklaw_QueryEach (x.1) (x.2) = fnE T G_rainbooklaw_QueryEach H_rainbooklaw_QueryEach C_rainbooklaw_QueryEach (resOf Try.f17) is_rainbooklaw_QueryEach os_rainbooklaw_QueryEach x := by kernel_rfl
noncomputable abbrev R_rainbooklaw_QueryEach : GS := mkSpec false is_rainbooklaw_QueryEach os_rainbooklaw_QueryEach fun x => F_rainbooklaw_QueryEach (x.1) (x.2)
theorem R_rainbooklaw_QueryEach_ok : GSOK Try.prog 17 R_rainbooklaw_QueryEach := spec_ok tok g_rainbooklaw_QueryEach fmo (Ht := H_rainbooklaw_QueryEach) (fn := Try.f17) (Try.func17) (c := C_rainbooklaw_QueryEach) (by kernel_rfl) (by kernel_rfl) (by kernel_rfl) (by decide +kernel) (by decide) F_rainbooklaw_QueryEach_eq
end Go.Proofs.Y
namespace Go.Proofs.Y
open Go.Rb Go.Kx
theorem at_eq (i n : Int) (h0 : 0 < n) (hn : n ≤ 4611686018427387904) : F_rainbooklaw_at i n = some (i % n) := by
  unfold F_rainbooklaw_at
  rw [ifB_eqI, if_neg (by omega), ifB_ltI]
  have h1 := Int.emod_nonneg i (show n ≠ 0 by omega)
  have h2 := Int.emod_lt_of_pos i h0
  have h3 : wrem i n = Int.tmod i n := rfl
  rw [h3]
  by_cases hi : 0 ≤ i
  · rw [Int.tmod_eq_emod_of_nonneg hi, if_neg (by omega)]
  · have h4 : Int.tmod i n = -((-i) % n) := by
      rw [← Int.tmod_eq_emod_of_nonneg (by omega), Int.neg_tmod]; omega
    have h5 := Int.emod_nonneg (-i) (show n ≠ 0 by omega)
    have h6 := Int.emod_lt_of_pos (-i) h0
    have h7 := Int.emod_add_mul_ediv (-i) n
    rw [h4]
    by_cases hr : (-i) % n = 0
    · have h8 : i = n * (-((-i) / n)) := by rw [Int.mul_neg]; omega
      have h9 : i % n = 0 := by rw [h8]; exact Int.mul_emod_right _ _
      rw [hr, if_neg (by omega), h9]; rfl
    · have h8 : i = (n - (-i) % n) + n * (-((-i) / n) - 1) := by rw [Int.mul_sub, Int.mul_neg, Int.mul_one]; omega
      have h9 : i % n = n - (-i) % n := by
        conv => lhs; rw [h8]
        rw [Int.add_mul_emod_self_left, Int.emod_eq_of_lt (by omega) (by omega)]
      rw [if_pos (by omega), wadd_in ⟨by omega, by omega⟩, h9]; congr 1; omega
theorem range_own : ∀ {l : List Pt} {p : Pt}, Rise l → p ∈ l → rangeR l p.1 (p.1 + 1) = [p]
  | [], _, _, h => by cases h
  | q :: l, p, h, hm => by
    obtain ⟨h1, h2⟩ := List.pairwise_cons.1 h
    rcases List.mem_cons.1 hm with rfl | hm
    · have h3 : rangeR l p.1 (p.1 + 1) = [] := by
        unfold rangeR
        rw [List.filter_eq_nil_iff]
        intro q hq
        have := h1 q hq
        simp [keepP]; omega
      unfold rangeR at *
      rw [List.filter_cons, if_pos (by simp [keepP]; omega), h3]
    · have h3 := h1 p hm
      have h4 := range_own h2 hm
      unfold rangeR at *
      rw [List.filter_cons, if_neg (by simp [keepP]; omega), h4]
theorem queryEach_eq (s : Shf) (i : Int) (hs : okS s) : F_rainbooklaw_QueryEach s i = some true := by
  unfold F_rainbooklaw_QueryEach
  rw [at_eq _ _ (by omega) (by omega), bindO_some]
  generalize i % 4 = i
  simp only [range_eq _ _ _ _ hs, buckets_eq _ _ _ _ _ hs, asked_eq, bindO_some, ifB_not, ifB_t, ifB_f]
  rw [ifB_neI]
  by_cases h0 : (allS s i).2 = 0
  · obtain ⟨_, _, _, _, hk⟩ := allS_ok h0
    simp only [if_pos h0, if_true]
    have hall := checkL_all hk
    have hrise := checkL_rise hk
    have hlen := checkL_len hk
    have hself : rangeR (allS s i).1 0 100001 = (allS s i).1 := range_all fun p hp => by have := hall p hp; unfold PtIn at this; omega
    rw [hself]
    generalize (allS s i).1 = l at *
    refine loop_range l (fun j (_ : Unit) => (j : Int)) (G := fun _ _ => some true) (P := fun _ _ => True) ?_ ?_ (s0 := ()) trivial (by omega)
    · rintro j _ hj _ k hk
      have hat := atI_nat hj
      have hm := getD_mem (l := l) hj
      generalize l.getD j default = p at *
      have hp := hall p hm
      unfold PtIn at hp
      have hw : wadd .i64 p.1 1 = p.1 + 1 := wadd_in ⟨by omega, by omega⟩
      have hr := range_own hrise hm
      have hb : buckR l p.1 (p.1 + 1) 1 = ([(p.1, sumL [p])], 0) := by
        have hd : (p.1 + 1 - p.1 + 1 - 1) / 1 = 1 := by rw [Int.ediv_one]; omega
        unfold buckR
        rw [if_neg (by omega), hd, if_neg (by omega), hr]
        simp [bks, bstep, startB, sumL, joinF, Int.emod_one]
      simp only [stepK_none, stepK_inl, stepK_inr, stepK_map, stepK_if, stepK_bind, ifB_t, ifB_f, ifB_same, ifB_ltI, ifB_leI, ifB_gtI, ifB_geI, ifB_eqI, ifB_neI, ifB_not, ifB_and, ifB_eqB, ifB_isE, ifB_in1, ifB_in2, ifB_in1N, ifB_in2N, ifB_in1C, ifB_in2C, ifB_inN, ifB_ltL, ifB_ltN, ifB_roomA, ifB_roomI, ifB_roomZ, ifB_roomS, ifB_eqS, ifB_eqL, ifB_fits, bindO_some, bindO_none, mapO_some, mapO_none, lenI_eq, lenN_eq, cat_eq, takeI_eq, dropI_eq, sliI_eq, setN_eq, natI_eq, intN_eq]
      rw [if_pos (by omega), hat, bindO_some, hw, hr, hb]
      simp only [if_true]
      rw [equalP_eq (by simp), bindO_some, ifB_dec, if_pos rfl, of_eq _ (by simp), bindO_some, equalBu_eq (by simp), bindO_some]
      rw [ifB_dec, if_pos rfl, wadd_nat (by omega), stepK_inl]
      exact hk () trivial
    · rintro s _ k
      simp only [stepK_none, stepK_inl, stepK_inr, stepK_map, stepK_if, stepK_bind, ifB_t, ifB_f, ifB_same, ifB_ltI, ifB_leI, ifB_gtI, ifB_geI, ifB_eqI, ifB_neI, ifB_not, ifB_and, ifB_eqB, ifB_isE, ifB_in1, ifB_in2, ifB_in1N, ifB_in2N, ifB_in1C, ifB_in2C, ifB_inN, ifB_ltL, ifB_ltN, ifB_roomA, ifB_roomI, ifB_roomZ, ifB_roomS, ifB_eqS, ifB_eqL, ifB_fits, bindO_some, bindO_none, mapO_some, mapO_none, lenI_eq, lenN_eq, cat_eq, takeI_eq, dropI_eq, sliI_eq, setN_eq, natI_eq, intN_eq]
      rw [if_neg (by omega)]
  · simp only [if_neg h0]
end Go.Proofs.Y
namespace Go.Rb
open Go.Kx
theorem snoc_ind {α : Type} {P : List α → Prop} (h0 : P []) (hs : ∀ l p, P l → P (l ++ [p])) (l : List α) : P l := by
  have h : ∀ m : List α, P m.reverse := by
    intro m
    induction m with
    | nil => exact h0
    | cons a m ih => rw [List.reverse_cons]; exact hs _ _ ih
  have := h l.reverse
  rwa [List.reverse_reverse] at this
theorem last_or {α : Type} (l : List α) : l = [] ∨ ∃ i b, l = i ++ [b] := by
  revert l
  exact snoc_ind (.inl rfl) fun l p _ => .inr ⟨l, p, rfl⟩
def sumN (out : List Buc) : Int := (out.map fun b => b.2.1).sum
theorem sumN_app (a b : List Buc) : sumN (a ++ b) = sumN a + sumN b := by simp [sumN]
theorem sumN_one (b : Buc) : sumN [b] = b.2.1 := by simp [sumN]
theorem sumN_pos : ∀ {a : List Buc}, (∀ b ∈ a, 1 ≤ b.2.1) → 0 ≤ sumN a
  | [], _ => by simp [sumN]
  | b :: a, h => by
    have h1 := h b List.mem_cons_self
    have h2 := sumN_pos (a := a) fun c hc => h c (List.mem_cons_of_mem _ hc)
    simp [sumN] at h2 ⊢; omega
theorem wadd_assoc (a b c : Int) : wadd .i64 (wadd .i64 a b) c = wadd .i64 a (wadd .i64 b c) := by
  unfold wadd; simp only [IntKind.wrap_i64]; omega
theorem joinF_assoc {a b : Sm} {p : Pt} (ha : 0 ≤ a.1) (hb : 1 ≤ b.1) (h : a.1 + b.1 ≤ 4000) : joinF (joinF a b) (sm1 p) = joinF a (joinF b (sm1 p)) := by
  obtain ⟨a1, a2, a3, a4⟩ := a; obtain ⟨b1, b2, b3, b4⟩ := b
  simp only at ha hb h
  have hb0 : b1 ≠ 0 := by omega
  have w1 : wadd .i64 b1 1 = b1 + 1 := wadd_in ⟨by omega, by omega⟩
  by_cases h0 : a1 = 0
  · subst h0; simp [joinF, sm1, hb0]
  · have w2 : wadd .i64 a1 b1 = a1 + b1 := wadd_in ⟨by omega, by omega⟩
    have w3 : wadd .i64 (a1 + b1) 1 = a1 + b1 + 1 := wadd_in ⟨by omega, by omega⟩
    have w4 : wadd .i64 a1 (b1 + 1) = a1 + (b1 + 1) := wadd_in ⟨by omega, by omega⟩
    have n1 : a1 + b1 ≠ 0 := by omega
    have n2 : b1 + 1 ≠ 0 := by omega
    simp only [joinF, sm1, if_neg h0, if_neg hb0, w1, w2, if_neg n1, if_neg n2, w3, w4, wadd_assoc, if_neg (show ¬ (1 : Int) = 0 by omega)]
    rw [Int.min_assoc, Int.max_assoc, Int.add_assoc]
theorem joinF_n {a b : Sm} (ha : 0 ≤ a.1) (hb : 0 ≤ b.1) (h : a.1 + b.1 ≤ 4000) : (joinF a b).1 = a.1 + b.1 := by
  unfold joinF
  split
  · omega
  · split
    · omega
    · exact wadd_in ⟨by omega, by omega⟩
theorem bstep_cases (c e : Int) (out : List Buc) (p : Pt) : (bstep c e out p = out ++ [(startB c e p, sm1 p)] ∧ ∀ i b, out = i ++ [b] → b.1 ≠ startB c e p) ∨ ∃ i S, out = i ++ [(startB c e p, S)] ∧ bstep c e out p = i ++ [(startB c e p, joinF S (sm1 p))] := by
  rcases last_or out with rfl | ⟨i, b, rfl⟩
  · exact .inl ⟨by simp [bstep], fun i b h => by simp at h⟩
  · by_cases h : b.1 = startB c e p
    · refine .inr ⟨i, b.2, ?_, ?_⟩
      · rw [← h]
      · have := bstep_last c e i (startB c e p) b.2 p rfl
        rw [← h] at this ⊢
        exact this
    · refine .inl ⟨?_, fun i' b' hq => ?_⟩
      · unfold bstep
        have h1 : (i ++ [b]).length - 1 = i.length := by simp
        have h2 : (i ++ [b]).getD i.length default = b := by simp [List.getD]
        rw [h1, h2, if_pos (.inr h)]
      · have := List.append_inj' hq rfl
        rw [List.cons.injEq] at this
        rw [← this.2.1]; exact h
theorem bks_snoc (c e : Int) (l : List Pt) (p : Pt) : bks c e (l ++ [p]) = bstep c e (bks c e l) p := by simp [bks]
theorem bks_pos (c e : Int) : ∀ l : List Pt, l.length ≤ 1000 → (∀ b ∈ bks c e l, 1 ≤ b.2.1) ∧ sumN (bks c e l) = l.length := by
  refine snoc_ind (fun _ => ⟨by simp [bks], by simp [bks, sumN]⟩) fun l p ih hl => ?_
  rw [List.length_append, List.length_singleton] at hl ⊢
  obtain ⟨h1, h2⟩ := ih (by omega)
  rw [bks_snoc]
  rcases bstep_cases c e (bks c e l) p with ⟨h, _⟩ | ⟨i, S, h, h'⟩
  · rw [h, sumN_app, sumN_one, h2]
    refine ⟨fun b hb => ?_, by show _ = _; simp [sm1]⟩
    rcases List.mem_append.1 hb with hb | hb
    · exact h1 b hb
    · rw [List.mem_singleton] at hb; subst hb; simp [sm1]
  · rw [h'] ; rw [h] at h1 h2
    rw [sumN_app, sumN_one] at h2 ⊢
    have hi := sumN_pos (a := i) fun b hb => h1 b (List.mem_append_left _ hb)
    have hS := h1 _ (List.mem_append_right i (List.mem_singleton.2 rfl))
    simp only at hS h2 ⊢
    have hj : (joinF S (sm1 p)).1 = S.1 + 1 := joinF_n (by omega) (by simp [sm1]) (by simp [sm1]; omega)
    refine ⟨fun b hb => ?_, by push_cast; omega⟩
    rcases List.mem_append.1 hb with hb | hb
    · exact h1 b (List.mem_append_left _ hb)
    · rw [List.mem_singleton] at hb; subst hb; simp only; omega
def wholeB (out : List Buc) : Sm := out.foldl (fun s b => joinF s b.2) (0, 0, 0, 0)
theorem wholeB_snoc (out : List Buc) (b : Buc) : wholeB (out ++ [b]) = joinF (wholeB out) b.2 := by simp [wholeB]
theorem wholeB_n : ∀ out : List Buc, (∀ b ∈ out, 1 ≤ b.2.1) → sumN out ≤ 1000 → (wholeB out).1 = sumN out := by
  refine snoc_ind (fun _ _ => rfl) fun l b ih h1 h2 => ?_
  rw [sumN_app, sumN_one] at h2
  have hl := sumN_pos (a := l) fun b hb => h1 b (List.mem_append_left _ hb)
  have hb := h1 b (List.mem_append_right l (List.mem_singleton.2 rfl))
  have := ih (fun b hb => h1 b (List.mem_append_left _ hb)) (by omega)
  rw [wholeB_snoc, sumN_app, sumN_one, joinF_n (by omega) (by omega) (by omega), this]
theorem wholeB_bks (c e : Int) : ∀ l : List Pt, l.length ≤ 1000 → wholeB (bks c e l) = sumL l := by
  refine snoc_ind (fun _ => rfl) fun l p ih hl => ?_
  rw [List.length_append, List.length_singleton] at hl
  obtain ⟨h1, h2⟩ := bks_pos c e l (by omega)
  rw [bks_snoc, sumL_snoc, ← ih (by omega)]
  rcases bstep_cases c e (bks c e l) p with ⟨h, _⟩ | ⟨i, S, h, h'⟩
  · rw [h, wholeB_snoc]
  · rw [h'] ; rw [h] at h1 h2 ⊢
    rw [sumN_app, sumN_one] at h2
    have hi := sumN_pos (a := i) fun b hb => h1 b (List.mem_append_left _ hb)
    have hS := h1 _ (List.mem_append_right i (List.mem_singleton.2 rfl))
    simp only at hS h2
    have hw := wholeB_n i (fun b hb => h1 b (List.mem_append_left _ hb)) (by omega)
    rw [wholeB_snoc, wholeB_snoc, joinF_assoc (by omega) hS (by omega)]
/-! ### Twice as wide -/
def jstep (c e : Int) (out : List Buc) (x : Buc) : List Buc :=
  if out.length = 0 ∨ ¬ (out.getD (out.length - 1) default).1 = x.1 - (x.1 - c) % e then out ++ [(x.1 - (x.1 - c) % e, x.2)]
  else out.set (out.length - 1) ((out.getD (out.length - 1) default).1, joinF (out.getD (out.length - 1) default).2 x.2)
theorem jstep_last (c e : Int) (i : List Buc) (b x : Buc) : jstep c e (i ++ [b]) x = if b.1 = x.1 - (x.1 - c) % e then i ++ [(b.1, joinF b.2 x.2)] else i ++ [b] ++ [(x.1 - (x.1 - c) % e, x.2)] := by
  have h1 : (i ++ [b]).length - 1 = i.length := by simp
  have h2 : (i ++ [b]).getD i.length default = b := by simp [List.getD]
  unfold jstep
  rw [h1, h2]
  by_cases h : b.1 = x.1 - (x.1 - c) % e
  · rw [if_neg (by simp [h]), if_pos h, List.set_append_right _ _ (by omega)]; simp
  · rw [if_pos (.inr h), if_neg h]
theorem jstep_nil (c e : Int) (x : Buc) : jstep c e [] x = [(x.1 - (x.1 - c) % e, x.2)] := by simp [jstep]
def jks (c e : Int) (l : List Buc) : List Buc := l.foldl (jstep c e) []
theorem jks_snoc (c e : Int) (l : List Buc) (x : Buc) : jks c e (l ++ [x]) = jstep c e (jks c e l) x := by simp [jks]
theorem start_two {c e : Int} (he : 1 ≤ e) (p : Pt) : startB c e p - (startB c e p - c) % (2 * e) = startB c (2 * e) p := by
  unfold startB
  generalize ht : p.1 - c = t
  have hr0 := Int.emod_nonneg t (show 2 * e ≠ 0 by omega)
  have hr1 := Int.emod_lt_of_pos t (show 0 < 2 * e by omega)
  have hd : t % (2 * e) % e = t % e := Int.emod_emod_of_dvd t ⟨2, by omega⟩
  have hq := Int.emod_add_mul_ediv t (2 * e)
  generalize t % (2 * e) = r at *
  have hn : 0 ≤ r - r % e := by
    have h1 := Int.emod_add_mul_ediv r e
    have h2 : 0 ≤ e * (r / e) := Int.mul_nonneg (by omega) (Int.ediv_nonneg hr0 (by omega))
    omega
  have he0 := Int.emod_nonneg r (show e ≠ 0 by omega)
  have h3 : p.1 - t % e - c = (r - r % e) + (2 * e) * (t / (2 * e)) := by omega
  rw [h3, Int.add_mul_emod_self_left, Int.emod_eq_of_lt hn (by omega)]
  omega
theorem jks_pos (c e : Int) : ∀ out : List Buc, (∀ b ∈ out, 1 ≤ b.2.1) → sumN out ≤ 1000 → (∀ b ∈ jks c e out, 1 ≤ b.2.1) ∧ sumN (jks c e out) = sumN out := by
  refine snoc_ind (fun _ _ => ⟨by simp [jks], rfl⟩) fun l x ih h1 h2 => ?_
  rw [sumN_app, sumN_one] at h2
  have hl := sumN_pos (a := l) fun b hb => h1 b (List.mem_append_left _ hb)
  have hx := h1 x (List.mem_append_right l (List.mem_singleton.2 rfl))
  obtain ⟨g1, g2⟩ := ih (fun b hb => h1 b (List.mem_append_left _ hb)) (by omega)
  rw [jks_snoc, sumN_app, sumN_one]
  rcases last_or (jks c e l) with h | ⟨i, b, h⟩
  · rw [h] at g2 ⊢
    rw [jstep_nil, sumN_one]
    refine ⟨fun y hy => ?_, by simp [sumN] at g2 ⊢; omega⟩
    rw [List.mem_singleton] at hy; subst hy; exact hx
  · rw [h] at g1 g2 ⊢
    rw [sumN_app, sumN_one] at g2
    have hi := sumN_pos (a := i) fun b hb => g1 b (List.mem_append_left _ hb)
    have hb := g1 b (List.mem_append_right i (List.mem_singleton.2 rfl))
    rw [jstep_last]
    split
    · have hj : (joinF b.2 x.2).1 = b.2.1 + x.2.1 := joinF_n (by omega) (by omega) (by omega)
      rw [sumN_app, sumN_one]
      refine ⟨fun y hy => ?_, by simp only; omega⟩
      rcases List.mem_append.1 hy with hy | hy
      · exact g1 y (List.mem_append_left _ hy)
      · rw [List.mem_singleton] at hy; subst hy; simp only; omega
    · rw [sumN_app, sumN_app, sumN_one, sumN_one]
      refine ⟨fun y hy => ?_, by simp only; omega⟩
      rcases List.mem_append.1 hy with hy | hy
      · exact g1 y hy
      · rw [List.mem_singleton] at hy; subst hy; exact hx
theorem jks_bks {c e : Int} (he : 1 ≤ e) : ∀ l : List Pt, l.length ≤ 1000 → jks c (2 * e) (bks c e l) = bks c (2 * e) l := by
  refine snoc_ind (fun _ => rfl) fun l p ih hl => ?_
  rw [List.length_append, List.length_singleton] at hl
  obtain ⟨h1, h2⟩ := bks_pos c e l (by omega)
  rw [bks_snoc, bks_snoc, ← ih (by omega)]
  have hst := start_two (c := c) he p
  rcases bstep_cases c e (bks c e l) p with ⟨h, _⟩ | ⟨i, S, h, h'⟩
  · rw [h, jks_snoc]
    unfold jstep bstep
    rw [hst]
  · rw [h'] ; rw [h] at h1 h2 ⊢
    rw [sumN_app, sumN_one] at h2
    have hi := sumN_pos (a := i) fun b hb => h1 b (List.mem_append_left _ hb)
    have hS := h1 _ (List.mem_append_right i (List.mem_singleton.2 rfl))
    simp only at hS h2
    obtain ⟨g1, g2⟩ := jks_pos c (2 * e) i (fun b hb => h1 b (List.mem_append_left _ hb)) (by omega)
    rw [jks_snoc, jks_snoc]
    rcases last_or (jks c (2 * e) i) with hj | ⟨k, b, hj⟩
    · rw [hj, jstep_nil, jstep_nil]
      simp only [hst]
      have := bstep_last c (2 * e) [] (startB c (2 * e) p) S p rfl
      rw [List.nil_append, List.nil_append] at this
      rw [this]
    · rw [hj] at g1 g2 ⊢
      rw [sumN_app, sumN_one] at g2
      have hk := sumN_pos (a := k) fun b hb => g1 b (List.mem_append_left _ hb)
      have hb := g1 b (List.mem_append_right k (List.mem_singleton.2 rfl))
      rw [jstep_last, jstep_last]
      simp only [hst]
      by_cases hq : b.1 = startB c (2 * e) p
      · rw [if_pos hq, if_pos hq, hq, bstep_last c (2 * e) k _ _ p rfl, joinF_assoc (by omega) hS (by omega)]
      · rw [if_neg hq, if_neg hq, bstep_last c (2 * e) _ _ _ p rfl]
/-! ### They rise -/
theorem start_mul (c e : Int) (p : Pt) : startB c e p = c + e * ((p.1 - c) / e) := by
  have := Int.emod_add_mul_ediv (p.1 - c) e
  unfold startB; omega
theorem start_mono {c e : Int} (he : 1 ≤ e) {p q : Pt} (h : p.1 ≤ q.1) : startB c e p ≤ startB c e q := by
  rw [start_mul, start_mul]
  have h1 : (p.1 - c) / e ≤ (q.1 - c) / e := Int.ediv_le_ediv (by omega) (by omega)
  have h2 := Int.mul_le_mul_of_nonneg_left h1 (show 0 ≤ e by omega)
  omega
theorem bks_src (c e : Int) : ∀ l : List Pt, ∀ b ∈ bks c e l, ∃ q ∈ l, b.1 = startB c e q := by
  refine snoc_ind (fun b hb => by simp [bks] at hb) fun l p ih b hb => ?_
  rw [bks_snoc] at hb
  rcases bstep_cases c e (bks c e l) p with ⟨h, _⟩ | ⟨i, S, h, h'⟩
  · rw [h] at hb
    rcases List.mem_append.1 hb with hb | hb
    · obtain ⟨q, hq, hq2⟩ := ih b hb; exact ⟨q, List.mem_append_left _ hq, hq2⟩
    · rw [List.mem_singleton] at hb; subst hb; exact ⟨p, List.mem_append_right _ (List.mem_singleton.2 rfl), rfl⟩
  · rw [h'] at hb
    rcases List.mem_append.1 hb with hb | hb
    · obtain ⟨q, hq, hq2⟩ := ih b (by rw [h]; exact List.mem_append_left _ hb); exact ⟨q, List.mem_append_left _ hq, hq2⟩
    · rw [List.mem_singleton] at hb; subst hb; exact ⟨p, List.mem_append_right _ (List.mem_singleton.2 rfl), rfl⟩
theorem bks_rise {c e : Int} (he : 1 ≤ e) : ∀ l : List Pt, Rise l → (bks c e l).Pairwise fun a b => a.1 < b.1 := by
  refine snoc_ind (fun _ => .nil) fun l p ih hr => ?_
  unfold Rise at hr
  rw [List.pairwise_append] at hr
  obtain ⟨hr1, _, hr2⟩ := hr
  have g := ih hr1
  have hsrc := bks_src c e l
  have hle : ∀ b ∈ bks c e l, b.1 ≤ startB c e p := fun b hb => by
    obtain ⟨q, hq, h⟩ := hsrc b hb
    rw [h]
    exact start_mono he (Int.le_of_lt (hr2 q hq p (List.mem_singleton.2 rfl)))
  rw [bks_snoc]
  rcases bstep_cases c e (bks c e l) p with ⟨h, hne⟩ | ⟨i, S, h, h'⟩
  · rw [h, List.pairwise_append]
    refine ⟨g, List.pairwise_singleton _ _, fun a ha b hb => ?_⟩
    rw [List.mem_singleton] at hb; subst hb
    have h1 := hle a ha
    rcases last_or (bks c e l) with h0 | ⟨k, x, hk⟩
    · rw [h0] at ha; simp at ha
    · have hx := hne k x hk
      have hx2 := hle x (by rw [hk]; simp)
      rw [hk] at ha g
      rw [List.pairwise_append] at g
      rcases List.mem_append.1 ha with ha | ha
      · have := g.2.2 a ha x (List.mem_singleton.2 rfl)
        simp only; omega
      · rw [List.mem_singleton] at ha; subst ha; simp only; omega
  · rw [h'] ; rw [h] at g
    rw [List.pairwise_append] at g ⊢
    exact ⟨g.1, List.pairwise_singleton _ _, fun a ha b hb => by
      rw [List.mem_singleton] at hb; subst hb
      exact g.2.2 a ha (startB c e p, S) (List.mem_singleton.2 rfl)⟩
end Go.Rb
