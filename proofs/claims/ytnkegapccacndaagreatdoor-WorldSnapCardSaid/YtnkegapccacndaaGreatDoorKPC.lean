/-
  What is proved, part by part: points of a series: what the program's functions come to, in plain words. points of a series packed, unpacked: what the program's and the document's functions come to, in plain words. points of a series unpacked: what the program's and the document's functions come to, in plain words. points of a series unpacked by the document's function, in plain words. blocks: what the program's and the document's functions come to, in plain words. all series, as plain functions: points of a row, what is wrong with a shelf. all series, read: what the program's and the document's functions come to, in plain words. ranges: what the program's function comes to, in plain words. sums and buckets, as plain functions. sums and buckets: what the program's and the document's functions come to, in plain words. buckets by the document's function, in plain words. QuerySays: what the law's body comes to is true. QueryEach: what the law's body comes to is true. buckets: all together are the sum of all; twice as wide they are two each; they rise. shelves changed, as plain functions: put, sealed, merged, dropped; they stay right, and their points are as they should be. the program's shelf functions that copy and change: what they come to, in plain words. the program's shelf functions seal, merge, put: what they come to, in plain words. the document's shelf functions, and likeness of shelves: what they come to, in plain words. records and their replay, as plain functions; the points are those of all batches. ShelfSays, ShelfSame, ShelfAll, ShelfLast: what the laws' bodies come to is true. records checked, made of shelves, replayed: what the program's and the document's functions come to, in plain words. what slices.Grow[[]api.Rec,api.Rec] comes to. what slices.Concat[[]api.Rec,api.Rec] comes to. what slices.Equal[[]api.Entry,api.Entry] comes to. what note.Same comes to. what slices.Clone[[]byte,byte] comes to. what slices.Grow[[]byte,byte] comes to. what slices.Concat[[]byte,byte] comes to. the layings of the functions of Go's library that the program reaches. strings.Cut of Go's library is known by its answer. strings.Split of Go's library is known by its answer. what note.words comes to. what slices.Index[[]string,string] comes to. strconv.Atoi of Go's library is known by its answer. strconv.Itoa of Go's library is known by its answer. Conditions: none.
-/
import Derived.Test.YtnkegapccacndaaGreatDoorKPA
import Derived.Test.YtnkegapccacndaaGreatDoorKPB
import Derived.Test.YtnkegapccacndaaGreatDoorKED
import Derived.Shelf.LaysM
import Derived.Shelf.LaysC
import Derived.Test.YtnkegapccacndaaGreatDoorProg
import Derived.KernelRfl
set_option linter.unusedVariables false
set_option linter.unusedSimpArgs false
set_option linter.unnecessarySimpa false
set_option maxRecDepth 4000
namespace Go.Proofs.Y
open Go.Rb Go.Kx
theorem check_eq (l : List Pt) (hl : l.length < 4611686018427387904) : F_line_Check l = some (checkL l) := by
  unfold F_line_Check checkL
  rw [ifB_gtI, lenI_eq]
  by_cases h40 : (40 : Int) < l.length
  · rw [if_pos h40, if_pos (by omega)]
  · rw [if_neg h40, if_neg (by omega)]
    refine loop_ind (G := fun (i : Int) => some (chk (lastT l i.toNat) (l.drop i.toNat))) (P := fun i => 0 ≤ i ∧ i ≤ l.length) (μ := fun i => l.length - i.toNat) ?_ maxR 0 ⟨by omega, by omega⟩ (by unfold maxR; omega)
    rintro i ⟨h0, h1⟩ k hk
    obtain ⟨j, rfl⟩ : ∃ j : Nat, i = j := ⟨i.toNat, by omega⟩
    simp only [stepK_none, stepK_inl, stepK_inr, stepK_map, stepK_if, stepK_bind, ifB_t, ifB_f, ifB_same, ifB_ltI, ifB_leI, ifB_gtI, ifB_geI, ifB_eqI, ifB_neI, ifB_not, ifB_and, ifB_eqB, ifB_isE, ifB_in1, ifB_in2, ifB_in1N, ifB_in2N, ifB_in1C, ifB_in2C, ifB_inN, ifB_ltL, ifB_ltN, ifB_roomA, ifB_roomI, ifB_roomZ, ifB_roomS, ifB_eqS, ifB_eqL, ifB_fits, bindO_some, bindO_none, mapO_some, mapO_none, lenI_eq, lenN_eq, cat_eq, takeI_eq, dropI_eq, sliI_eq, setN_eq, natI_eq, intN_eq, Int.toNat_natCast]
    by_cases hj : j < l.length
    · have hw := wadd_nat (j := j) (by omega)
      have hn := hk ((j + 1 : Nat) : Int) ⟨by omega, by omega⟩ (by omega)
      rw [if_pos (by omega), atI_nat hj, bindO_some, hw, hn, chk_step hj, Int.toNat_natCast]
      by_cases h0 : j = 0
      · subst h0
        rw [if_neg (show ¬ (0 : Int) < ((0 : Nat) : Int) by omega)]
        have hl0 : lastT l 0 = -1 := rfl
        rw [hl0]
        repeat' split
        all_goals first | rfl | (exfalso; omega)
      · have e1 : wsub .i64 (j : Int) 1 = ((j - 1 : Nat) : Int) := by rw [wsub_in ⟨by omega, by omega⟩]; omega
        have hl0 : lastT l j = (l.getD (j - 1) default).1 := by unfold lastT; rw [if_neg h0]
        rw [if_pos (show (0 : Int) < (j : Int) by omega), e1, atI_nat (by omega), bindO_some, hl0]
        repeat' split
        all_goals first | rfl | (exfalso; omega)
    · rw [if_neg (by omega), List.drop_of_length_le (by omega)]
      rfl
theorem pack_eq (l : List Pt) (hl : l.length < 4611686018427387904) : F_line_Pack l = some (packP l) := by
  unfold F_line_Pack packP
  rw [check_eq l hl, bindO_some, ifB_neI]
  by_cases hc : checkL l = 0
  · have hall := checkL_all hc
    have hlen := checkL_len hc
    rw [if_pos hc, if_pos hc, ← packL_all]
    refine loop_range l (fun j (s : List Bool × Int × Int × Int) => (s.1, s.2.1, (j : Int), s.2.2.1, s.2.2.2)) (G := fun rest s => some (s.1 ++ packL (s.2.2.1, s.2.2.2) s.2.1 rest, (0 : Int))) (P := fun j s => PtIn (s.2.2.1, s.2.2.2) ∧ -100000 ≤ s.2.1 ∧ s.2.1 ≤ 100000 ∧ s.1.length ≤ 64 * j) ?_ ?_ (s0 := ([], 0, 0, 0)) ⟨zero_in, by show (-100000 : Int) ≤ 0; omega, by show (0 : Int) ≤ 100000; omega, by simp⟩ (by omega)
    · rintro j ⟨out, step, lt, lv⟩ hj ⟨h0, h1, h2, h3⟩ k hk
      have hp := hall _ (getD_mem hj)
      have hat := atI_nat hj
      generalize l.getD j default = p at *
      simp only at h0 h1 h2 h3
      unfold PtIn at h0 hp
      simp only at h0
      simp only [stepK_none, stepK_inl, stepK_inr, stepK_map, stepK_if, stepK_bind, ifB_t, ifB_f, ifB_same, ifB_ltI, ifB_leI, ifB_gtI, ifB_geI, ifB_eqI, ifB_neI, ifB_not, ifB_and, ifB_eqB, ifB_isE, ifB_in1, ifB_in2, ifB_in1N, ifB_in2N, ifB_in1C, ifB_in2C, ifB_inN, ifB_ltL, ifB_ltN, ifB_roomA, ifB_roomI, ifB_roomZ, ifB_roomS, ifB_eqS, ifB_eqL, ifB_fits, bindO_some, bindO_none, mapO_some, mapO_none, lenI_eq, lenN_eq, cat_eq, takeI_eq, dropI_eq, sliI_eq, setN_eq, natI_eq, intN_eq]
      rw [if_pos (by omega), hat, bindO_some, wsub_in (a := p.1) (b := lt) ⟨by omega, by omega⟩, wsub_in (a := p.1 - lt) (b := step) ⟨by omega, by omega⟩, wsub_in (a := p.2) (b := lv) ⟨by omega, by omega⟩, wadd_nat (by omega)]
      rw [zput_eq _ _ (by omega), zput_nil ⟨by omega, by omega⟩, bindO_some]
      have hz1 := zenc_len 8 (foldN (p.1 - lt - step))
      have hz2 := zenc_len 8 (foldN (p.2 - lv))
      rw [zput_eq _ _ (by simp only [List.length_append]; omega), zput_nil ⟨by omega, by omega⟩, bindO_some]
      rw [hk (_, _, _, _) ⟨by unfold PtIn; exact hp, by show -100000 ≤ p.1 - lt; omega, by show p.1 - lt ≤ 100000; omega, by simp only [List.length_append]; omega⟩]
      simp only [packL, itemB, List.append_assoc]
    · rintro s _ k
      simp only [stepK_none, stepK_inl, stepK_inr, stepK_map, stepK_if, stepK_bind, ifB_t, ifB_f, ifB_same, ifB_ltI, ifB_leI, ifB_gtI, ifB_geI, ifB_eqI, ifB_neI, ifB_not, ifB_and, ifB_eqB, ifB_isE, ifB_in1, ifB_in2, ifB_in1N, ifB_in2N, ifB_in1C, ifB_in2C, ifB_inN, ifB_ltL, ifB_ltN, ifB_roomA, ifB_roomI, ifB_roomZ, ifB_roomS, ifB_eqS, ifB_eqL, ifB_fits, bindO_some, bindO_none, mapO_some, mapO_none, lenI_eq, lenN_eq, cat_eq, takeI_eq, dropI_eq, sliI_eq, setN_eq, natI_eq, intN_eq]
      rw [if_neg (by omega)]
      simp [packL]
  · rw [if_neg hc, if_neg hc]
end Go.Proofs.Y
namespace Go.Proofs.Y
open Go.Rb Go.Kx
end Go.Proofs.Y
namespace Go.Proofs.Y
open Go.Rb Go.Kx
theorem nxt_in {k : Nat} {last : Pt} {step : Int} {b : List Bool} (h : stepE k last (nxt last step b) = 0) : PtIn (nxt last step b) := by
  rcases stepE_or k last (nxt last step b) with ⟨_, h1⟩ | ⟨_, _, _, h1⟩ | ⟨h1, _⟩
  · rw [h1] at h; cases h
  · rw [h1] at h; cases h
  · exact h1
theorem unpack_eq (a : List Bool) (n : Int) (ha : a.length ≤ 140737488355200) : F_line_Unpack a n = some (unpackR a n) := by
  unfold F_line_Unpack unpackR
  rw [ifB_ltI, ifB_gtI]
  by_cases h0 : n < 0
  · rw [if_pos h0, if_pos (.inl h0)]
  by_cases h1 : 40 < n
  · rw [if_neg h0, if_pos h1, if_pos (.inr h1)]
  rw [if_neg h0, if_neg h1, if_neg (show ¬ (n < 0 ∨ n > 40) by omega)]
  refine (loop_ind (G := fun (x : List Bool × Int × Int × Int × Int × List Pt) => some (unpk (n - x.2.2.1).toNat x.2.2.1.toNat (x.2.2.2.1, x.2.2.2.2.1) x.2.1 x.2.2.2.2.2 x.1))
    (P := fun (x : List Bool × Int × Int × Int × Int × List Pt) => 0 ≤ x.2.2.1 ∧ x.2.2.1 ≤ n ∧ PtIn (x.2.2.2.1, x.2.2.2.2.1) ∧ -100000 ≤ x.2.1 ∧ x.2.1 ≤ 100000 ∧ x.2.2.2.2.2.length = x.2.2.1.toNat ∧ (0 < x.2.2.1 → x.2.2.2.2.2.getD (x.2.2.1.toNat - 1) default = (x.2.2.2.1, x.2.2.2.2.1)) ∧ x.1.length ≤ 140737488355200)
    (μ := fun x => (n - x.2.2.1).toNat) ?_ maxR (a, 0, 0, 0, 0, []) ⟨Int.le_refl 0, by show 0 ≤ n; omega, zero_in, by show (-100000 : Int) ≤ 0; omega, by show (0 : Int) ≤ 100000; omega, rfl, fun h => absurd h (Int.lt_irrefl 0), ha⟩ (by show (n - 0).toNat < maxR; unfold maxR; omega)).trans (by simp)
  rintro ⟨b, step, i, lt, lv, out⟩ ⟨g0, g1, g2, g3, g4, g5, g6, g7⟩ K hk
  simp only at g0 g1 g2 g3 g4 g5 g6 g7
  obtain ⟨k, rfl⟩ : ∃ k : Nat, i = k := ⟨i.toNat, by omega⟩
  simp only [Int.toNat_natCast] at g5 g6 ⊢
  rw [stepK_ifB, ifB_ltI]
  by_cases hi : (k : Int) < n
  · obtain ⟨f, hf⟩ : ∃ f, (n - (k : Int)).toNat = f + 1 := ⟨(n - (k : Int)).toNat - 1, by omega⟩
    have hzi := zreadR_in b
    rw [if_pos hi, hf, zread_eq b (by omega), bindO_some, stepK_ifB, stepK_map, ifB_neI]
    by_cases hz : (zreadR b).2.2 = 0
    · obtain ⟨hz1, hz2⟩ := zreadR_ok hz
      have hzj := zreadR_in (bits1 b)
      rw [if_pos hz, stepK_ifB, stepK_none, ifB_in1, if_pos ⟨hz1, hz2⟩, dropI_eq]
      rw [show b.drop (zreadR b).2.1.toNat = bits1 b from rfl]
      have hbl := bits1_len b
      rw [zread_eq (bits1 b) (by omega), bindO_some, stepK_ifB, stepK_map, ifB_neI]
      by_cases hy : (zreadR (bits1 b)).2.2 = 0
      · obtain ⟨hy1, hy2⟩ := zreadR_ok hy
        have hbl1 : (bits1 b).length = b.length - (zreadR b).2.1.toNat := by unfold bits1; rw [List.length_drop]
        have hs : wadd .i64 (zreadR b).2.1 (zreadR (bits1 b)).2.1 = (zreadR b).2.1 + (zreadR (bits1 b)).2.1 := wadd_in ⟨by omega, by omega⟩
        unfold PtIn at g2
        simp only at g2
        have hP : (wadd .i64 (wadd .i64 lt step) (zreadR b).1, wadd .i64 lv (zreadR (bits1 b)).1) = nxt (lt, lv) step b := by
          rw [wadd_in (a := lt) ⟨by omega, by omega⟩, wadd_in ⟨by omega, by omega⟩, wadd_in ⟨by omega, by omega⟩]; rfl
        have hp1 : wadd .i64 (wadd .i64 lt step) (zreadR b).1 = (nxt (lt, lv) step b).1 := congrArg Prod.fst hP
        have hp2 : wadd .i64 lv (zreadR (bits1 b)).1 = (nxt (lt, lv) step b).2 := congrArg Prod.snd hP
        simp only [hs, hp1, hp2]
        generalize hp : nxt (lt, lv) step b = p at *
        have hm : maxI 0 (wsub .i64 (lenI out) 1) = ((k - 1 : Nat) : Int) := by
          rw [lenI_eq, g5, wsub_in ⟨by omega, by omega⟩]
          show max (0 : Int) (k - 1) = _
          omega
        have hsub : subN out (k - 1) (subI ((k - 1 : Nat) : Int) (lenI out)) = out.drop (out.length - 1) := by
          have : (out.drop (k - 1)).length ≤ (lenI out).toNat - ((k - 1 : Nat) : Int).toNat := by rw [List.length_drop, lenI_eq]; omega
          unfold subN subI
          rw [List.take_of_length_le this, g5]
        have hck := check_two (acc := out) (last := (lt, lv)) (p := p) (k := k) g5 (by unfold PtIn; exact g2) (fun h => g6 (by omega))
        have hdl : (out.drop (out.length - 1)).length ≤ 1 := by rw [List.length_drop]; omega
        rw [if_pos hy, stepK_ifB, stepK_none, ifB_in1, if_pos ⟨by omega, by omega⟩]
        rw [hm, natI_eq, Int.toNat_natCast, hsub]
        rw [stepK_ifB, stepK_none, ifB_and, ifB_in2, if_pos ⟨by omega, by rw [lenI_eq, g5]; omega, by rw [lenI_eq]; omega⟩, ifB_eqI, if_pos rfl]
        rw [stepK_ifB, stepK_none, ifB_and, ifB_inN, if_pos (by unfold subI; rw [lenI_eq]; omega), ifB_roomA, if_pos (by simp only [List.length_cons, List.length_nil]; omega)]
        rw [stepK_ifB, stepK_none, ifB_fits, if_neg (by unfold subI capN; rw [lenI_eq, lenN_eq]; simp only [List.length_cons, List.length_nil, reduceCtorEq, false_or]; omega)]
        rw [cat_eq, check_eq _ (by simp only [List.length_append, List.length_cons, List.length_nil]; omega), stepK_bind, bindO_some, show ((p.1, p.2) : Pt) = p from rfl, hck, stepK_ifB, stepK_map, ifB_neI]
        by_cases hst : stepE k (lt, lv) p = 0
        · have hpin : PtIn p := by rw [← hp]; exact nxt_in (by rw [hp]; exact hst)
          unfold PtIn at hpin
          rw [if_pos hst, stepK_ifB, stepK_none, stepK_inl, ifB_roomA, if_pos (by simp only [List.length_cons, List.length_nil]; omega), dropI_eq, bits2_eq hz hy, wsub_in ⟨by omega, by omega⟩, wadd_nat (by omega), cat_eq]
          have hb2 := bits2_len b
          rw [hk _ ⟨by show (0 : Int) ≤ ((k + 1 : Nat) : Int); omega, by show ((k + 1 : Nat) : Int) ≤ n; omega, by show PtIn (p.1, p.2); unfold PtIn; exact hpin, by show -100000 ≤ p.1 - lt; omega, by show p.1 - lt ≤ 100000; omega, by show (out ++ [p]).length = ((k + 1 : Nat) : Int).toNat; simp only [List.length_append, List.length_cons, List.length_nil]; omega, fun _ => by
              show (out ++ [p]).getD (((k + 1 : Nat) : Int).toNat - 1) default = p
              rw [Int.toNat_natCast, Nat.add_sub_cancel, ← g5]; simp [List.getD], by show (bits2 b).length ≤ _; omega⟩ (by show (n - ((k + 1 : Nat) : Int)).toNat < (n - (k : Int)).toNat; omega)]
          simp only [Int.toNat_natCast]
          rw [show (n - ((k + 1 : Nat) : Int)).toNat = f by omega, un_d (f := f + 1) (by omega) hz hy (by rw [hp]; exact hst), hp]
          rfl
        · rw [if_neg hst, un_c (f := f + 1) (by omega) hz hy (by rw [hp]; exact hst), hp]
      · rw [if_neg hy, un_b (f := f + 1) (by omega) hz hy]
    · rw [if_neg hz, un_a (f := f + 1) (by omega) hz]
  · have hkn : (n - (k : Int)).toNat = 0 := by omega
    rw [if_neg hi, stepK_map, hkn, ifB_gtI, lenI_eq]
    by_cases hb : (0 : Int) < b.length
    · rw [if_pos hb, un_e (by omega)]
    · rw [if_neg hb, un_f (by omega)]
end Go.Proofs.Y
namespace Go.Proofs.Y
open Go.Rb Go.Kx
end Go.Proofs.Y
namespace Go.Proofs.Y
open Go.Rb Go.Kx
theorem cloneP_eq {a : List Pt} (h : a.length ≤ 8796093022208) : F_cloneP a = some a := clone_gen 16 a (by omega) (by omega)
theorem eqP_dec (x y : Pt) : eqL [x.1, x.2] [y.1, y.2] = decide (x = y) := by
  obtain ⟨a, b⟩ := x; obtain ⟨c, d⟩ := y
  unfold eqL; exact decide_eq_decide.2 (by simp)
theorem equalP_eq {a b : List Pt} (h : a.length < 4611686018427387904) : F_equalP a b = some (decide (a = b))  := by
  have h9 := equal_gen (α := Int × Int) (fun x y => eqL [x.1, x.2] [y.1, y.2]) eqP_dec a b h
  exact h9
theorem concatP_eq {a : List (List Pt)} (h : a.length < 4611686018427387904) (h2 : a.flatten.length ≤ 8796093022208) : F_concatP a = some a.flatten := by
  have h3 : a.flatten.length * 16 ≤ 140737488355328 := by omega
  have h9 := concat_gen (α := Int × Int) 16 (0, 0) a h (by decide) h3 (by decide)
  exact h9
theorem lenPred {l : List Pt} (h0 : 0 < l.length) (h : l.length < 4611686018427387904) : wsub .i64 (lenI l) 1 = ((l.length - 1 : Nat) : Int) := by rw [lenI_eq, wsub_in ⟨by omega, by omega⟩]; omega
theorem at0 {l : List Pt} (h0 : 0 < l.length) : atI l 0 = some (l.getD 0 default) := atI_nat (j := 0) h0
theorem make_eq (l : List Pt) (hl : l.length < 4611686018427387904) : F_block_Make l = some (makeR l) := by
  unfold F_block_Make makeR
  rw [pack_eq l hl, bindO_some, ifB_neI, ifB_eqI, lenI_eq]
  by_cases h : (packP l).2 = 0
  · rw [if_pos h, if_neg (not_not_intro h)]
    by_cases h0 : l.length = 0
    · rw [if_pos (by omega), if_pos h0]; rfl
    · rw [if_neg (by omega), if_neg h0, at0 (by omega), bindO_some, ← lenI_eq, lenPred (by omega) hl, atI_nat (by omega), bindO_some]
  · rw [if_neg h, if_pos h]; rfl
theorem points_eq (x : Bk) (hx : x.2.2.2.length ≤ 140737488355200) : F_block_Points x = some (ptsR x) := by
  unfold F_block_Points ptsR
  have hl := unpackR_len x.2.2.2 x.1
  rw [unpack_eq _ _ hx, bindO_some]
  generalize unpackR x.2.2.2 x.1 = u at *
  simp only [ifB_neI, ifB_eqI, lenI_eq]
  by_cases h : u.2 = 0
  · rw [if_pos h, if_neg (not_not_intro h)]
    by_cases h0 : u.1.length = 0
    · rw [if_pos (by omega), if_pos (.inl h0)]
    · rw [if_neg (by omega), at0 (by omega), bindO_some, ← lenI_eq, lenPred (by omega) (by omega), atI_nat (by omega), bindO_some]
      by_cases h1 : (u.1.getD 0 default).1 = x.2.1
      · rw [if_pos h1]
        by_cases h2 : (u.1.getD (u.1.length - 1) default).1 = x.2.2.1
        · rw [if_pos h2, if_neg (by simp only [h0, h1, h2, not_true_eq_false, or_self, not_false_eq_true])]
        · rw [if_neg h2, if_pos (.inr (.inr h2))]
      · rw [if_neg h1, if_pos (.inr (.inl h1))]
  · rw [if_neg h, if_pos h]
theorem merge_eq (x y : Bk) (hx : x.2.2.2.length ≤ 140737488355200) (hy : y.2.2.2.length ≤ 140737488355200) : F_block_Merge x y = some (mergeR x y) := by
  unfold F_block_Merge mergeR
  have hlx := ptsR_len x
  have hly := ptsR_len y
  rw [show ((x.1, x.2.1, x.2.2.1, x.2.2.2) : Bk) = x from rfl, show ((y.1, y.2.1, y.2.2.1, y.2.2.2) : Bk) = y from rfl, points_eq x hx, points_eq y hy, bindO_some, bindO_some, ifB_neI, ifB_neI]
  by_cases h : (ptsR x).2 = 0
  · rw [if_pos h, if_neg (not_not_intro h)]
    by_cases h1 : (ptsR y).2 = 0
    · rw [if_pos h1, if_neg (not_not_intro h1), concatP_eq (by simp) (by rw [flatten2, List.length_append]; omega), flatten2, bindO_some, make_eq _ (by rw [List.length_append]; omega), bindO_some]
    · rw [if_neg h1, if_pos h1]; rfl
  · rw [if_neg h, if_pos h]; rfl
theorem copy_eq (x : Bk) (hx : x.2.2.2.length ≤ 140737488355200) : F_block_Copy x = some x := by
  unfold F_block_Copy
  rw [cloneB_eq (by omega), bindO_some]
theorem same_eq (x y : Bk) (hx : x.2.2.2.length ≤ 140737488355200) : F_block_Same x y = some (decide (x = y)) := by
  unfold F_block_Same
  rw [equalB_eq (by omega), bindO_some]
  obtain ⟨a, b, c, d⟩ := x; obtain ⟨a', b', c', d'⟩ := y
  simp only [ifB_eqI]
  by_cases h1 : a = a' <;> by_cases h2 : b = b' <;> by_cases h3 : c = c' <;> simp [h1, h2, h3]
end Go.Proofs.Y
namespace Go.Rb
def rp : List Bk → List Pt → List Pt × Int
  | [], acc => (acc, 0)
  | b :: r, acc => if (ptsR b).2 = 0 then rp r (acc ++ (ptsR b).1) else ([], (ptsR b).2)
def allR (r : Rowd) : List Pt × Int := if r.1.length > 8 then ([], 2) else if (rp r.1 []).2 = 0 then ((rp r.1 []).1 ++ r.2, checkL ((rp r.1 []).1 ++ r.2)) else ([], (rp r.1 []).2)
def rowsE : List Rowd → Int
  | [] => 0
  | r :: rs => if (allR r).2 = 0 then rowsE rs else (allR r).2
def chkS (s : Shf) : Int := if s.length = 4 then rowsE s else 4
def allS (s : Shf) (i : Int) : List Pt × Int := if chkS s = 0 then (if i < 0 ∨ (s.length : Int) ≤ i then ([], 5) else allR (s.getD i.toNat default)) else ([], chkS s)
def okB (b : Bk) : Prop := b.2.2.2.length ≤ 140737488355200
def okR (r : Rowd) : Prop := (∀ b ∈ r.1, okB b) ∧ r.1.length < 4611686018427387904 ∧ r.2.length ≤ 8796093022100
def okS (s : Shf) : Prop := s.length < 4611686018427387904 ∧ ∀ r ∈ s, okR r
theorem rowsE_zero : ∀ {s : List Rowd}, rowsE s = 0 ↔ ∀ r ∈ s, (allR r).2 = 0
  | [] => by simp [rowsE]
  | r :: s => by
    rw [rowsE]
    split
    · rename_i h; rw [rowsE_zero]; simp [h]
    · rename_i h; simp [h]
theorem chkS_zero {s : Shf} : chkS s = 0 ↔ s.length = 4 ∧ ∀ r ∈ s, (allR r).2 = 0 := by
  unfold chkS
  split
  · rename_i h; rw [rowsE_zero]; simp [h]
  · rename_i h; simp [h]
theorem allR_ok {r : Rowd} (h : (allR r).2 = 0) : r.1.length ≤ 8 ∧ (rp r.1 []).2 = 0 ∧ (allR r).1 = (rp r.1 []).1 ++ r.2 ∧ checkL ((rp r.1 []).1 ++ r.2) = 0 := by
  unfold allR at h ⊢
  split at h
  · cases h
  · rename_i h8
    split at h
    · rename_i h0
      rw [if_neg h8, if_pos h0]
      exact ⟨by omega, h0, rfl, h⟩
    · rename_i h0; exact absurd h h0
theorem allR_chk {r : Rowd} (h : (allR r).2 = 0) : checkL (allR r).1 = 0 := by
  obtain ⟨_, _, h1, h2⟩ := allR_ok h
  rw [h1]; exact h2
theorem allS_ok {s : Shf} {i : Int} (h : (allS s i).2 = 0) : chkS s = 0 ∧ 0 ≤ i ∧ i < 4 ∧ (allS s i) = allR (s.getD i.toNat default) ∧ checkL (allS s i).1 = 0 := by
  unfold allS at h ⊢
  split at h
  · rename_i hc
    have h4 := (chkS_zero.1 hc).1
    split at h
    · cases h
    · rename_i hi
      rw [if_pos hc, if_neg hi]
      exact ⟨hc, by omega, by omega, rfl, allR_chk h⟩
  · rename_i hc; exact absurd h hc
theorem allS_of {s : Shf} {i : Int} (h : chkS s = 0) (h0 : 0 ≤ i) (h1 : i < 4) : (allS s i).2 = 0 := by
  obtain ⟨h4, hr⟩ := chkS_zero.1 h
  unfold allS
  rw [if_pos h, if_neg (by omega)]
  exact hr _ (getD_mem (by omega))
/-! ### Rising points -/
def Rise (l : List Pt) : Prop := l.Pairwise fun p q => p.1 < q.1
theorem chk_rise : ∀ {l : List Pt} {L : Int}, chk L l = 0 → Rise l ∧ ∀ p ∈ l, L < p.1
  | [], _, _ => ⟨.nil, by simp⟩
  | p :: l, L, h => by
    obtain ⟨h1, h2, h3⟩ := chk_cons h
    obtain ⟨h4, h5⟩ := chk_rise h3
    refine ⟨List.pairwise_cons.2 ⟨h5, h4⟩, fun q hq => ?_⟩
    rcases List.mem_cons.1 hq with rfl | hq
    · exact h2
    · have := h5 q hq; omega
theorem checkL_rise {l : List Pt} (h : checkL l = 0) : Rise l := (chk_rise (checkL_chk h)).1
def keepP (a b : Int) (p : Pt) : Bool := decide (a ≤ p.1) && decide (p.1 < b)
def rangeR (l : List Pt) (a b : Int) : List Pt := l.filter (keepP a b)
theorem range_all {l : List Pt} {a b : Int} (h : ∀ p ∈ l, a ≤ p.1 ∧ p.1 < b) : rangeR l a b = l := by
  unfold rangeR
  rw [List.filter_eq_self]
  intro p hp
  have := h p hp
  simp [keepP, this]
end Go.Rb
namespace Go.Proofs.Y
open Go.Rb Go.Kx
theorem okB_get {r : Rowd} (h : okR r) {i : Nat} (hi : i < r.1.length) : okB (r.1.getD i default) := h.1 _ (getD_mem hi)
theorem all_eq (r : Rowd) (hr : okR r) : F_shelf_all r = some (allR r) := by
  unfold F_shelf_all allR
  have hok := hr
  obtain ⟨h1, h2, h3⟩ := hr
  rw [ifB_gtI, lenI_eq]
  by_cases h8 : (8 : Int) < r.1.length
  · rw [if_pos h8, if_pos (by omega)]
  · rw [if_neg h8, if_neg (by omega)]
    refine loop_range r.1 (fun j (s : List Pt) => ((j : Int), s)) (G := fun rest s => some (if (rp rest s).2 = 0 then ((rp rest s).1 ++ r.2, checkL ((rp rest s).1 ++ r.2)) else ([], (rp rest s).2))) (P := fun j s => s.length ≤ 40 * j) ?_ ?_ (s0 := []) (by simp) (by omega)
    · rintro j s hj hp k hk
      have hb := okB_get hok hj
      have hat := atI_nat hj
      generalize r.1.getD j default = b at *
      have hpl := ptsR_len b
      simp only [stepK_none, stepK_inl, stepK_inr, stepK_map, stepK_if, stepK_bind, ifB_t, ifB_f, ifB_same, ifB_ltI, ifB_leI, ifB_gtI, ifB_geI, ifB_eqI, ifB_neI, ifB_not, ifB_and, ifB_eqB, ifB_isE, ifB_in1, ifB_in2, ifB_in1N, ifB_in2N, ifB_in1C, ifB_in2C, ifB_inN, ifB_ltL, ifB_ltN, ifB_roomA, ifB_roomI, ifB_roomZ, ifB_roomS, ifB_eqS, ifB_eqL, ifB_fits, bindO_some, bindO_none, mapO_some, mapO_none, lenI_eq, lenN_eq, cat_eq, takeI_eq, dropI_eq, sliI_eq, setN_eq, natI_eq, intN_eq]
      rw [if_pos (by omega), hat, bindO_some, show ((b.1, b.2.1, b.2.2.1, b.2.2.2) : Bk) = b from rfl, points_eq b hb, bindO_some, wadd_nat (by omega)]
      by_cases hz : (ptsR b).2 = 0
      · rw [if_pos hz, if_pos (by omega), hk _ (by simp only [List.length_append]; omega)]
        simp only [rp, if_pos hz]
      · rw [if_neg hz]
        simp only [rp, if_neg hz]
    · rintro s hp k
      simp only [stepK_none, stepK_inl, stepK_inr, stepK_map, stepK_if, stepK_bind, ifB_t, ifB_f, ifB_same, ifB_ltI, ifB_leI, ifB_gtI, ifB_geI, ifB_eqI, ifB_neI, ifB_not, ifB_and, ifB_eqB, ifB_isE, ifB_in1, ifB_in2, ifB_in1N, ifB_in2N, ifB_in1C, ifB_in2C, ifB_inN, ifB_ltL, ifB_ltN, ifB_roomA, ifB_roomI, ifB_roomZ, ifB_roomS, ifB_eqS, ifB_eqL, ifB_fits, bindO_some, bindO_none, mapO_some, mapO_none, lenI_eq, lenN_eq, cat_eq, takeI_eq, dropI_eq, sliI_eq, setN_eq, natI_eq, intN_eq]
      rw [if_neg (by omega), if_pos (by omega), check_eq _ (by simp only [List.length_append]; omega), bindO_some]
      simp [rp]
theorem checkS_eq (s : Shf) (hs : okS s) : F_shelf_Check s = some (chkS s) := by
  unfold F_shelf_Check chkS
  obtain ⟨h1, h2⟩ := hs
  rw [ifB_neI, lenI_eq]
  by_cases h4 : (s.length : Int) = 4
  · rw [if_pos h4, if_pos (by omega)]
    refine loop_range s (fun j (_ : Unit) => (j : Int)) (G := fun rest _ => some (rowsE rest)) (P := fun _ _ => True) ?_ ?_ (s0 := ()) trivial (by omega)
    · rintro j _ hj _ k hk
      have hr := h2 _ (getD_mem hj)
      have hat := atI_nat hj
      generalize s.getD j default = r at *
      simp only [stepK_none, stepK_inl, stepK_inr, stepK_map, stepK_if, stepK_bind, ifB_t, ifB_f, ifB_same, ifB_ltI, ifB_leI, ifB_gtI, ifB_geI, ifB_eqI, ifB_neI, ifB_not, ifB_and, ifB_eqB, ifB_isE, ifB_in1, ifB_in2, ifB_in1N, ifB_in2N, ifB_in1C, ifB_in2C, ifB_inN, ifB_ltL, ifB_ltN, ifB_roomA, ifB_roomI, ifB_roomZ, ifB_roomS, ifB_eqS, ifB_eqL, ifB_fits, bindO_some, bindO_none, mapO_some, mapO_none, lenI_eq, lenN_eq, cat_eq, takeI_eq, dropI_eq, sliI_eq, setN_eq, natI_eq, intN_eq]
      rw [if_pos (by omega), hat, bindO_some, show ((r.1, r.2) : Rowd) = r from rfl, all_eq r hr, bindO_some, wadd_nat (by omega), hk () trivial, rowsE]
      split <;> rfl
    · rintro _ _ k
      simp only [stepK_none, stepK_inl, stepK_inr, stepK_map, stepK_if, stepK_bind, ifB_t, ifB_f, ifB_same, ifB_ltI, ifB_leI, ifB_gtI, ifB_geI, ifB_eqI, ifB_neI, ifB_not, ifB_and, ifB_eqB, ifB_isE, ifB_in1, ifB_in2, ifB_in1N, ifB_in2N, ifB_in1C, ifB_in2C, ifB_inN, ifB_ltL, ifB_ltN, ifB_roomA, ifB_roomI, ifB_roomZ, ifB_roomS, ifB_eqS, ifB_eqL, ifB_fits, bindO_some, bindO_none, mapO_some, mapO_none, lenI_eq, lenN_eq, cat_eq, takeI_eq, dropI_eq, sliI_eq, setN_eq, natI_eq, intN_eq]
      rw [if_neg (by omega)]; rfl
  · rw [if_neg h4, if_neg (by omega)]
theorem allS_eq (s : Shf) (i : Int) (hs : okS s) : F_shelf_All s i = some (allS s i) := by
  unfold F_shelf_All allS
  rw [checkS_eq s hs, bindO_some, ifB_neI, ifB_ltI, ifB_geI, lenI_eq]
  by_cases hc : chkS s = 0
  · rw [if_pos hc, if_pos hc]
    by_cases h0 : i < 0
    · rw [if_pos h0, if_pos (.inl h0)]
    · rw [if_neg h0]
      by_cases h1 : (s.length : Int) ≤ i
      · rw [if_pos h1, if_pos (.inr h1)]
      · have hr := hs.2 _ (getD_mem (l := s) (i := i.toNat) (by omega))
        rw [if_neg h1, if_neg (by omega), atI_int (by omega) (by omega), bindO_some]
        generalize s.getD i.toNat default = r at *
        rw [show ((r.1, r.2) : Rowd) = r from rfl, all_eq r hr, bindO_some]
  · rw [if_neg hc, if_neg hc]
theorem allS_len {s : Shf} {i : Int} (h : (allS s i).2 = 0) : (allS s i).1.length ≤ 40 := checkL_len (allS_ok h).2.2.2.2
end Go.Proofs.Y
namespace Go.Proofs.Y
open Go.Rb Go.Kx
theorem set_take {α : Type} {l : List α} {i : Nat} {x : α} (h : i < l.length) : (l.set i x).take (i + 1) = l.take i ++ [x] := by
  have hl : (l.take i).length = i := by rw [List.length_take]; omega
  rw [List.set_eq_take_append_cons_drop, if_pos h, List.take_append, hl, List.take_of_length_le (by omega), Nat.add_sub_cancel_left]
  rfl
theorem set_drop {α : Type} {l : List α} {i j : Nat} {x : α} (h : i < j) : (l.set i x).drop j = l.drop j := by
  rw [List.drop_set, if_pos h]
theorem getD_drop {α : Type} [Inhabited α] {a b : List α} {j : Nat} (h : a.drop j = b.drop j) (ha : j < a.length) (hb : j < b.length) : a.getD j default = b.getD j default := by
  rw [drop_cons ha, drop_cons hb] at h
  exact (List.cons.inj h).1
theorem drop_succ_of {α : Type} {a b : List α} {j : Nat} (h : a.drop j = b.drop j) : a.drop (j + 1) = b.drop (j + 1) := by
  rw [← List.drop_drop, ← List.drop_drop, h]
theorem filter_take {α : Type} [Inhabited α] (f : α → Bool) {l : List α} {j : Nat} (h : j < l.length) : (l.take (j + 1)).filter f = (l.take j).filter f ++ (if f (l.getD j default) = true then [l.getD j default] else []) := by
  rw [take_next h, List.filter_append]
  congr 1
  rw [List.filter_cons, List.filter_nil]
theorem clear_end {α : Type} (rows : List α) (i : Nat) (z : α) (h : i ≤ rows.length) {β : Type} (e : List α → Option β) :
    ifB (in1 rows (i : Int)) (ifB (inN rows (addN 0 (natI (i : Int))) (subNI (lenN rows) (i : Int))) (ifB (in1 (overN rows (addN 0 (natI (i : Int))) (repN (subNI (lenN rows) (i : Int)) z)) (i : Int))
      (ifB (inN (overN rows (addN 0 (natI (i : Int))) (repN (subNI (lenN rows) (i : Int)) z)) 0 (natI (i : Int))) (e (subN (overN rows (addN 0 (natI (i : Int))) (repN (subNI (lenN rows) (i : Int)) z)) 0 (natI (i : Int)))) none) none) none) none = e (rows.take i) := by
  have e1 : addN 0 (natI (i : Int)) = i := by simp [addN, natI]
  have e2 : subNI (lenN rows) (i : Int) = rows.length - i := by simp [subNI, lenN]
  have e3 : natI (i : Int) = i := rfl
  rw [e1, e2, e3]
  have hl : (overN rows i (repN (rows.length - i) z)).length = rows.length := by simp [overN, repN]; omega
  have hs : subN (overN rows i (repN (rows.length - i) z)) 0 i = rows.take i := by
    unfold subN overN
    rw [List.drop_zero, List.append_assoc, List.take_append_of_le_length (by simp; omega), List.take_take, Nat.min_self]
  rw [ifB_in1, if_pos ⟨by omega, by omega⟩, ifB_inN, if_pos (by omega), ifB_in1, if_pos ⟨by omega, by omega⟩, ifB_inN, if_pos (by omega), hs]
theorem compact_eq (l : List Pt) (c d : Int) (x : Nat) (hx : x < l.length) (hl : l.length < 4611686018427387904) (hpre : ∀ p ∈ l.take x, keepP c d p = true) (hnot : keepP c d (l.getD x default) = false) :
    loopN maxR (fun (x : Int × Int × List (Int × Int)) => ifB (ltI (Prod.fst (Prod.snd x)) (lenI (Prod.snd (Prod.snd x)))) (ifB (ltL (Prod.fst (Prod.snd x)) (Prod.snd (Prod.snd x)))
        (bindO (atN (Prod.snd (Prod.snd x)) (natI (Prod.fst (Prod.snd x)))) fun (y : Int × Int) => ifB (ltI (Prod.fst y) c) (some (Sum.inl (Prod.fst x, wadd IntKind.i64 (Prod.fst (Prod.snd x)) 1, Prod.snd (Prod.snd x))))
          (ifB (notB (geI (Prod.fst y) d)) (ifB (ltL (Prod.fst x) (Prod.snd (Prod.snd x))) (bindO (atN (Prod.snd (Prod.snd x)) (natI (Prod.fst x))) fun (y_2 : Int × Int) =>
              some (Sum.inl (wadd IntKind.i64 (Prod.fst x) 1, wadd IntKind.i64 (Prod.fst (Prod.snd x)) 1, setN (Prod.snd (Prod.snd x)) (natI (Prod.fst x)) (Prod.fst y, Prod.snd y)))) none)
            (some (Sum.inl (Prod.fst x, wadd IntKind.i64 (Prod.fst (Prod.snd x)) 1, Prod.snd (Prod.snd x)))))) none)
      (mapO Sum.inr (ifB (in1 (Prod.snd (Prod.snd x)) (Prod.fst x)) (ifB (inN (Prod.snd (Prod.snd x)) (addN 0 (natI (Prod.fst x))) (subNI (lenN (Prod.snd (Prod.snd x))) (Prod.fst x)))
        (ifB (in1 (overN (Prod.snd (Prod.snd x)) (addN 0 (natI (Prod.fst x))) (repN (subNI (lenN (Prod.snd (Prod.snd x))) (Prod.fst x)) (0, 0))) (Prod.fst x))
          (ifB (inN (overN (Prod.snd (Prod.snd x)) (addN 0 (natI (Prod.fst x))) (repN (subNI (lenN (Prod.snd (Prod.snd x))) (Prod.fst x)) (0, 0))) 0 (natI (Prod.fst x)))
            (some (subN (overN (Prod.snd (Prod.snd x)) (addN 0 (natI (Prod.fst x))) (repN (subNI (lenN (Prod.snd (Prod.snd x))) (Prod.fst x)) (0, 0))) 0 (natI (Prod.fst x)), (0 : Int))) none) none) none) none)))
      ((x : Int), wadd IntKind.i64 (x : Int) 1, l) = some (rangeR l c d, 0) := by
  rw [wadd_nat (by omega)]
  have hst : (l.take (x + 1)).filter (keepP c d) = l.take x := by
    rw [filter_take _ hx, hnot, List.filter_eq_self.2 hpre]; simp
  refine loop_ind (G := fun _ => some (rangeR l c d, (0 : Int))) (P := fun (y : Int × Int × List Pt) => 0 ≤ y.1 ∧ y.1 < y.2.1 ∧ y.2.1 ≤ l.length ∧ y.2.2.length = l.length ∧ y.2.2.take y.1.toNat = (l.take y.2.1.toNat).filter (keepP c d) ∧ y.2.2.drop y.2.1.toNat = l.drop y.2.1.toNat) (μ := fun y => l.length - y.2.1.toNat) ?_ maxR _ ⟨by show (0 : Int) ≤ x; omega, by show (x : Int) < ((x + 1 : Nat) : Int); omega, by show ((x + 1 : Nat) : Int) ≤ l.length; omega, rfl, hst.symm, rfl⟩ (by show l.length - ((x + 1 : Nat) : Int).toNat < maxR; unfold maxR; omega)
  rintro ⟨i0, j0, rows⟩ ⟨g0, g1, g2, g3, g4, g5⟩ K hk
  simp only at g0 g1 g2 g3 g4 g5
  obtain ⟨i, rfl⟩ : ∃ i : Nat, i0 = i := ⟨i0.toNat, by omega⟩
  obtain ⟨j, rfl⟩ : ∃ j : Nat, j0 = j := ⟨j0.toNat, by omega⟩
  simp only [Int.toNat_natCast] at g4 g5
  rw [stepK_ifB, stepK_map, ifB_ltI, lenI_eq]
  by_cases hj : (j : Int) < rows.length
  · rw [if_pos hj]
    simp only [stepK_ifB, stepK_bind, stepK_inl, stepK_none]
    rw [ifB_ltL, if_pos ⟨by omega, hj⟩, natI_eq, Int.toNat_natCast, atN_nat (by omega), bindO_some, getD_drop g5 (by omega) (by omega), wadd_nat (by omega), wadd_nat (j := i) (by omega)]
    have hft := filter_take (keepP c d) (l := l) (j := j) (by omega)
    have hkp : keepP c d (l.getD j default) = (decide (c ≤ (l.getD j default).1) && decide ((l.getD j default).1 < d)) := rfl
    generalize l.getD j default = p at *
    have skip : keepP c d p = false → K ((i : Int), ((j + 1 : Nat) : Int), rows) = some (rangeR l c d, 0) := by
      intro hkf
      rw [hkf] at hft
      exact hk _ ⟨g0, by show (i : Int) < ((j + 1 : Nat) : Int); omega, by show ((j + 1 : Nat) : Int) ≤ l.length; omega, g3, by show rows.take i = _; rw [Int.toNat_natCast, hft, g4]; simp, by show rows.drop ((j + 1 : Nat) : Int).toNat = _; rw [Int.toNat_natCast]; exact drop_succ_of g5⟩ (by show l.length - ((j + 1 : Nat) : Int).toNat < l.length - ((j : Nat) : Int).toNat; omega)
    rw [ifB_ltI]
    by_cases h1 : p.1 < c
    · rw [if_pos h1]; exact skip (by rw [hkp]; simp; omega)
    · rw [if_neg h1, ifB_not, ifB_geI]
      by_cases h2 : d ≤ p.1
      · rw [if_pos h2]; exact skip (by rw [hkp]; simp; omega)
      · have hkt : keepP c d p = true := by rw [hkp]; simp; omega
        rw [hkt] at hft
        rw [if_neg h2, ifB_ltL, if_pos ⟨by omega, by omega⟩, natI_eq, Int.toNat_natCast, atN_nat (by omega), bindO_some, setN_eq]
        refine hk _ ⟨by show (0 : Int) ≤ ((i + 1 : Nat) : Int); omega, by show ((i + 1 : Nat) : Int) < ((j + 1 : Nat) : Int); omega, by show ((j + 1 : Nat) : Int) ≤ l.length; omega, by show (rows.set i p).length = _; rw [List.length_set]; exact g3, ?_, ?_⟩ (by show l.length - ((j + 1 : Nat) : Int).toNat < l.length - ((j : Nat) : Int).toNat; omega)
        · show (rows.set i p).take ((i + 1 : Nat) : Int).toNat = (l.take ((j + 1 : Nat) : Int).toNat).filter (keepP c d)
          rw [Int.toNat_natCast, Int.toNat_natCast, set_take (by omega), hft, g4]; simp
        · show (rows.set i p).drop ((j + 1 : Nat) : Int).toNat = l.drop ((j + 1 : Nat) : Int).toNat
          rw [Int.toNat_natCast, set_drop (by omega)]; exact drop_succ_of g5
  · rw [if_neg hj]
    have hjl : j = l.length := by omega
    rw [hjl, List.take_length] at g4
    rw [clear_end rows i (0, 0) (by omega) (fun r => some (r, (0 : Int))), g4]
    rfl
theorem range_eq (s : Shf) (i c d : Int) (hs : okS s) : F_query_Range s i c d = some (if (allS s i).2 = 0 then (rangeR (allS s i).1 c d, 0) else ([], (allS s i).2)) := by
  unfold F_query_Range
  rw [allS_eq s i hs, bindO_some, ifB_neI]
  by_cases h : (allS s i).2 = 0
  · have hl := allS_len h
    rw [if_pos h, if_pos h]
    generalize allS s i = q at *
    obtain ⟨l, e⟩ := q
    simp only at h hl ⊢
    refine loop_ind (G := fun _ => some (rangeR l c d, (0 : Int))) (P := fun (y : Int) => 0 ≤ y ∧ y ≤ l.length ∧ ∀ p ∈ l.take y.toNat, keepP c d p = true) (μ := fun y => l.length - y.toNat) ?_ maxR 0 ⟨Int.le_refl 0, by omega, by simp⟩ (by show l.length - Int.toNat 0 < maxR; unfold maxR; omega)
    rintro y ⟨g0, g1, g2⟩ K hk
    obtain ⟨x, rfl⟩ : ∃ x : Nat, y = x := ⟨y.toNat, by omega⟩
    rw [Int.toNat_natCast] at g2
    rw [stepK_ifB, stepK_map, ifB_ltI, lenI_eq]
    by_cases hx : (x : Int) < l.length
    · rw [if_pos hx]
      simp only [stepK_ifB, stepK_bind, stepK_inl, stepK_none, stepK_map]
      rw [ifB_ltL, if_pos ⟨by omega, hx⟩, natI_eq, Int.toNat_natCast, atN_nat (by omega), bindO_some, ifB_eqI, if_neg (by omega)]
      have hkp : keepP c d (l.getD x default) = (decide (c ≤ (l.getD x default).1) && decide ((l.getD x default).1 < d)) := rfl
      have hcm := compact_eq l c d x (by omega) (by omega) g2
      have hnx := take_next (l := l) (i := x) (by omega)
      generalize l.getD x default = p at *
      rw [ifB_ltI]
      by_cases h1 : p.1 < c
      · rw [if_pos h1]; exact hcm (by rw [hkp]; simp; omega)
      · rw [if_neg h1, ifB_geI]
        by_cases h2 : d ≤ p.1
        · rw [if_pos h2]; exact hcm (by rw [hkp]; simp; omega)
        · rw [if_neg h2, wadd_nat (by omega)]
          refine hk _ ⟨by omega, by omega, fun q hq => ?_⟩ (by omega)
          rw [Int.toNat_natCast, hnx, List.mem_append, List.mem_singleton] at hq
          rcases hq with hq | rfl
          · exact g2 q hq
          · rw [hkp]; simp; omega
    · rw [if_neg hx]
      have hxl : x = l.length := by omega
      rw [hxl, List.take_length] at g2
      show some (l, (0 : Int)) = some (rangeR l c d, 0)
      unfold rangeR
      rw [List.filter_eq_self.2 g2]
  · rw [if_neg h, if_neg h]
end Go.Proofs.Y
namespace Go.Rb
open Go.Kx
end Go.Rb
namespace Go.Proofs.Y
open Go.Rb Go.Kx
end Go.Proofs.Y
namespace Go.Proofs.Y
open Go.Rb Go.Kx
end Go.Proofs.Y
namespace Go.Proofs.Y
open Go.Rb Go.Kx
end Go.Proofs.Y
namespace Go.Proofs.Y
open Go.Rb Go.Kx
end Go.Proofs.Y
namespace Go.Rb
open Go.Kx
/-! ### Twice as wide -/
/-! ### They rise -/
end Go.Rb
namespace Go.Rb
open Go.Kx
instance decRowd : DecidableEq Rowd := instDecidableEqProd
theorem chk_of : ∀ {l : List Pt} {L : Int}, Rise l → (∀ p ∈ l, PtIn p) → (∀ p ∈ l, L < p.1) → chk L l = 0
  | [], _, _, _, _ => rfl
  | p :: l, L, hr, hi, hL => chk_mk (hi p List.mem_cons_self) (hL p List.mem_cons_self) (chk_of (List.pairwise_cons.1 hr).2 (fun q hq => hi q (List.mem_cons_of_mem _ hq)) (List.pairwise_cons.1 hr).1)
theorem checkL_iff {l : List Pt} : checkL l = 0 ↔ l.length ≤ 40 ∧ Rise l ∧ ∀ p ∈ l, PtIn p := by
  constructor
  · intro h; exact ⟨checkL_len h, checkL_rise h, checkL_all h⟩
  · rintro ⟨h1, h2, h3⟩
    unfold checkL; rw [if_neg (by omega)]
    exact chk_of h2 h3 fun p hp => by have := h3 p hp; unfold PtIn at this; omega
theorem checkL_sub {l m : List Pt} (h : checkL m = 0) (hs : l.Sublist m) : checkL l = 0 := by
  rw [checkL_iff] at h ⊢
  exact ⟨by have := hs.length_le; omega, h.2.1.sublist hs, fun p hp => h.2.2 p (hs.subset hp)⟩
def okBs (bs : List Bk) : Prop := ∀ b ∈ bs, (ptsR b).2 = 0
def ptsBs (bs : List Bk) : List Pt := (bs.map fun b => (ptsR b).1).flatten
theorem ptsBs_app (a b : List Bk) : ptsBs (a ++ b) = ptsBs a ++ ptsBs b := by simp [ptsBs]
theorem ptsBs_cons (a : Bk) (b : List Bk) : ptsBs (a :: b) = (ptsR a).1 ++ ptsBs b := by simp [ptsBs]
theorem ptsBs_one (a : Bk) : ptsBs [a] = (ptsR a).1 := by simp [ptsBs]
theorem rp_ok : ∀ {bs : List Bk} {acc : List Pt}, okBs bs → rp bs acc = (acc ++ ptsBs bs, 0)
  | [], acc, _ => by simp [rp, ptsBs]
  | b :: r, acc, h => by
    rw [rp, if_pos (h b List.mem_cons_self), rp_ok fun c hc => h c (List.mem_cons_of_mem _ hc), ptsBs_cons, List.append_assoc]
theorem rp_zero : ∀ {bs : List Bk} {acc : List Pt}, (rp bs acc).2 = 0 → okBs bs
  | [], _, _ => fun b hb => by cases hb
  | b :: r, acc, h => by
    rw [rp] at h
    split at h
    · rename_i h0
      intro c hc
      rcases List.mem_cons.1 hc with rfl | hc
      · exact h0
      · exact rp_zero h c hc
    · rename_i h0; exact absurd h h0
theorem allR_of {r : Rowd} (h1 : r.1.length ≤ 8) (h2 : okBs r.1) (h3 : checkL (ptsBs r.1 ++ r.2) = 0) : allR r = (ptsBs r.1 ++ r.2, 0) := by
  unfold allR
  rw [if_neg (by omega), rp_ok h2, if_pos rfl, List.nil_append, h3]
theorem allR_is {r : Rowd} (h : (allR r).2 = 0) : r.1.length ≤ 8 ∧ okBs r.1 ∧ checkL (ptsBs r.1 ++ r.2) = 0 ∧ allR r = (ptsBs r.1 ++ r.2, 0) := by
  obtain ⟨h1, h2, h3, h4⟩ := allR_ok h
  have hb := rp_zero h2
  rw [rp_ok hb, List.nil_append] at h4
  exact ⟨h1, hb, h4, allR_of h1 hb h4⟩
theorem ptsR_is {b : Bk} (h : (ptsR b).2 = 0) : 0 < (ptsR b).1.length ∧ checkL (ptsR b).1 = 0 ∧ b = mkB (ptsR b).1 := by
  unfold ptsR at h
  split at h
  · rename_i h0; exact absurd h h0
  · rename_i h0
    split at h
    · cases h
    · rename_i h1
      have hp : ptsR b = ((unpackR b.2.2.2 b.1).1, 0) := by unfold ptsR; rw [if_neg h0, if_neg h1]
      have h0' : (unpackR b.2.2.2 b.1).2 = 0 := by rwa [Classical.not_not] at h0
      obtain ⟨g1, g2, g3⟩ := line_again h0'
      rw [not_or, not_or, Classical.not_not, Classical.not_not] at h1
      rw [hp]
      refine ⟨by have := h1.1; show 0 < (unpackR b.2.2.2 b.1).1.length; omega, g3, ?_⟩
      have hk := (line_back g3).1
      rw [g1] at hk
      obtain ⟨n, f, t, bits⟩ := b
      simp only at *
      unfold mkB
      rw [← (Prod.mk.inj hk).1, h1.2.1, h1.2.2, g2]
theorem ptsR_bits {b : Bk} (h : (ptsR b).2 = 0) : b.2.2.2.length ≤ 2560 := by
  obtain ⟨h1, h2, h3⟩ := ptsR_is h
  rw [h3]; exact mkB_bits (checkL_len h2)
theorem okR_of {r : Rowd} (h : (allR r).2 = 0) : okR r := by
  obtain ⟨h1, h2, h3, _⟩ := allR_is h
  have := checkL_len h3
  rw [List.length_append] at this
  exact ⟨fun b hb => by have := ptsR_bits (h2 b hb); unfold okB; omega, by omega, by omega⟩
theorem okS_of {s : Shf} (h : chkS s = 0) : okS s := by
  obtain ⟨h1, h2⟩ := chkS_zero.1 h
  exact ⟨by omega, fun r hr => okR_of (h2 r hr)⟩
theorem chkS_set {s : Shf} (h : chkS s = 0) {r : Rowd} (hr : (allR r).2 = 0) (i : Nat) : chkS (s.set i r) = 0 := by
  obtain ⟨h1, h2⟩ := chkS_zero.1 h
  refine chkS_zero.2 ⟨by rw [List.length_set]; exact h1, fun q hq => ?_⟩
  rcases List.mem_or_eq_of_mem_set hq with hq | rfl
  · exact h2 q hq
  · exact hr
theorem chkS_row {s : Shf} (h : chkS s = 0) {i : Nat} (hi : i < 4) : (allR (s.getD i default)).2 = 0 := by
  obtain ⟨h1, h2⟩ := chkS_zero.1 h
  exact h2 _ (getD_mem (by omega))
theorem allS_is {s : Shf} (h : chkS s = 0) {i : Int} (h0 : 0 ≤ i) (h1 : i < 4) : allS s i = (ptsBs (s.getD i.toNat default).1 ++ (s.getD i.toNat default).2, 0) := by
  have h4 := (chkS_zero.1 h).1
  unfold allS
  rw [if_pos h, if_neg (by omega)]
  exact (allR_is (chkS_row h (by omega))).2.2.2
theorem set_getD {α : Type} [Inhabited α] {l : List α} {i : Nat} {x : α} (h : i < l.length) (j : Nat) : (l.set i x).getD j default = if j = i then x else l.getD j default := by
  simp only [List.getD, List.getElem?_set]
  by_cases hj : i = j
  · subst hj; simp [h]
  · rw [if_neg hj, if_neg (fun h => hj h.symm)]
/-! ### One row -/
def sealR (n : Int) (r : Rowd) : Rowd × Int :=
  if n < 1 ∨ (r.2.length : Int) < n then (r, 3) else if r.1.length = 8 then (r, 2) else if ¬ (makeR (r.2.take n.toNat)).2 = 0 then (r, (makeR (r.2.take n.toNat)).2)
  else ((r.1 ++ [(makeR (r.2.take n.toNat)).1], r.2.drop n.toNat), 0)
def mergeW (k : Int) (r : Rowd) : Rowd × Int :=
  if k < 0 ∨ (r.1.length : Int) - 1 ≤ k then (r, 3) else
  if ¬ (mergeR (r.1.getD k.toNat default) (r.1.getD (k.toNat + 1) default)).2 = 0 then (r, (mergeR (r.1.getD k.toNat default) (r.1.getD (k.toNat + 1) default)).2)
  else ((r.1.take k.toNat ++ (mergeR (r.1.getD k.toNat default) (r.1.getD (k.toNat + 1) default)).1 :: r.1.drop (k.toNat + 2), r.2), 0)
def dropR (n : Int) (r : Rowd) : Rowd := (r.1.filter fun b => decide (n ≤ b.2.2.1), r.2)
def putW (x : Ent) (r : Rowd) : Rowd := (r.1, r.2 ++ [(x.2.1, x.2.2)])
def onRow (s : Shf) (i : Int) (q : Rowd → Rowd × Int) : Shf × Int :=
  if i < 0 ∨ (s.length : Int) ≤ i then ([], 5) else if (q (s.getD i.toNat default)).2 = 0 then (s.set i.toNat (q (s.getD i.toNat default)).1, 0) else ([], (q (s.getD i.toNat default)).2)
def sealS (s : Shf) (i n : Int) : Shf × Int := if chkS s = 0 then onRow s i (sealR n) else ([], chkS s)
def mergeS (s : Shf) (i k : Int) : Shf × Int := if chkS s = 0 then onRow s i (mergeW k) else ([], chkS s)
def dropS (s : Shf) (n : Int) : Shf × Int := if chkS s = 0 then (if n < 0 ∨ 100001 < n then ([], 3) else (s.map (dropR n), 0)) else ([], chkS s)
def putE : Shf → List Ent → Shf × Int
  | s, [] => (s, 0)
  | s, x :: l => if x.1 < 0 ∨ 4 ≤ x.1 then ([], 5) else if (allR (putW x (s.getD x.1.toNat default))).2 = 0 then putE (s.set x.1.toNat (putW x (s.getD x.1.toNat default))) l else ([], (allR (putW x (s.getD x.1.toNat default))).2)
def putS (s : Shf) (l : List Ent) : Shf × Int := if chkS s = 0 then (if 10 < l.length then ([], 2) else putE s l) else ([], chkS s)
theorem sealR_is {r : Rowd} (h : (allR r).2 = 0) {n : Int} (hn : 1 ≤ n) (hl : n ≤ r.2.length) : makeR (r.2.take n.toNat) = (mkB (r.2.take n.toNat), 0) ∧ ptsR (mkB (r.2.take n.toNat)) = (r.2.take n.toNat, 0) := by
  obtain ⟨_, _, h3, _⟩ := allR_is h
  exact makeR_ok (checkL_sub h3 ((List.take_sublist _ _).trans (List.sublist_append_right _ _))) (by rw [List.length_take]; omega)
theorem sealR_ok {r : Rowd} (h : (allR r).2 = 0) {n : Int} (he : (sealR n r).2 = 0) : allR (sealR n r).1 = allR r := by
  obtain ⟨h1, h2, h3, h4⟩ := allR_is h
  unfold sealR at he ⊢
  split at he
  · cases he
  · rename_i hn
    split at he
    · cases he
    · rename_i h8
      obtain ⟨g1, g2⟩ := sealR_is h (n := n) (by omega) (by omega)
      rw [g1] at he ⊢
      rw [if_neg hn, if_neg h8, if_neg (by simp)]
      have hp : ptsBs (r.1 ++ [mkB (r.2.take n.toNat)]) ++ r.2.drop n.toNat = ptsBs r.1 ++ r.2 := by
        rw [ptsBs_app, ptsBs_one, g2, List.append_assoc, List.take_append_drop]
      rw [h4, ← hp]
      refine allR_of (r := (r.1 ++ [mkB (r.2.take n.toNat)], r.2.drop n.toNat)) ?_ ?_ ?_
      · show (r.1 ++ [mkB (r.2.take n.toNat)]).length ≤ 8
        rw [List.length_append, List.length_singleton]; omega
      · intro b hb
        rcases List.mem_append.1 hb with hb | hb
        · exact h2 b hb
        · rw [List.mem_singleton] at hb; subst hb; rw [g2]
      · show checkL (ptsBs (r.1 ++ [mkB (r.2.take n.toNat)]) ++ r.2.drop n.toNat) = 0
        rw [hp]; exact h3
theorem two_split {α : Type} [Inhabited α] {l : List α} {k : Nat} (h : k + 1 < l.length) : l = l.take k ++ (l.getD k default :: l.getD (k + 1) default :: l.drop (k + 2)) := by
  have h1 := drop_cons (l := l) (i := k) (by omega)
  have h2 := drop_cons (l := l) (i := k + 1) (by omega)
  conv => lhs; rw [← List.take_append_drop k l, h1, h2]
theorem mergeW_is {r : Rowd} (h : (allR r).2 = 0) {k : Nat} (hk : k + 1 < r.1.length) : ∃ m, mergeR (r.1.getD k default) (r.1.getD (k + 1) default) = (m, 0) ∧ (ptsR m).2 = 0 ∧ (ptsR m).1 = (ptsR (r.1.getD k default)).1 ++ (ptsR (r.1.getD (k + 1) default)).1 := by
  obtain ⟨h1, h2, h3, h4⟩ := allR_is h
  have hs := two_split hk
  have a1 := h2 _ (getD_mem (l := r.1) (i := k) (by omega))
  have a2 := h2 _ (getD_mem (l := r.1) (i := k + 1) (by omega))
  generalize r.1.getD k default = x at *
  generalize r.1.getD (k + 1) default = y at *
  rw [hs, ptsBs_app, ptsBs_cons, ptsBs_cons] at h3
  obtain ⟨x1, x2, x3⟩ := ptsR_is a1
  obtain ⟨y1, y2, y3⟩ := ptsR_is a2
  have hc : checkL ((ptsR x).1 ++ (ptsR y).1) = 0 := by
    refine checkL_sub h3 ?_
    rw [← List.append_assoc (ptsR x).1]
    exact ((List.sublist_append_left _ _).trans (List.sublist_append_right _ _)).trans (List.sublist_append_left _ _)
  have hm := mergeR_ok x2 y2 x1 y1 hc
  rw [← x3, ← y3] at hm
  have hp := (makeR_ok hc (by rw [List.length_append]; omega)).2
  exact ⟨_, hm, by rw [hp], by rw [hp]⟩
theorem mergeW_ok {r : Rowd} (h : (allR r).2 = 0) {k : Int} (he : (mergeW k r).2 = 0) : allR (mergeW k r).1 = allR r := by
  obtain ⟨h1, h2, h3, h4⟩ := allR_is h
  unfold mergeW at he ⊢
  split at he
  · cases he
  · rename_i hk
    obtain ⟨m, g1, g2, g3⟩ := mergeW_is h (k := k.toNat) (by omega)
    rw [g1] at he ⊢
    rw [if_neg hk, if_neg (by simp)]
    have hs := two_split (l := r.1) (k := k.toNat) (by omega)
    have hp : ptsBs (r.1.take k.toNat ++ m :: r.1.drop (k.toNat + 2)) = ptsBs r.1 := by
      conv => rhs; rw [hs]
      rw [ptsBs_app, ptsBs_app, ptsBs_cons, ptsBs_cons, ptsBs_cons, g3, List.append_assoc]
    have hle : (r.1.take k.toNat ++ m :: r.1.drop (k.toNat + 2)).length ≤ 8 := by
      rw [List.length_append, List.length_take, List.length_cons, List.length_drop]; omega
    have := allR_of (r := (r.1.take k.toNat ++ m :: r.1.drop (k.toNat + 2), r.2)) hle (fun b hb => ?_) (by show checkL (ptsBs _ ++ r.2) = 0; rw [hp]; exact h3)
    · rw [h4]; rw [this]; simp only; rw [hp]
    · rcases List.mem_append.1 hb with hb | hb
      · exact h2 b (List.mem_of_mem_take hb)
      · rcases List.mem_cons.1 hb with rfl | hb
        · exact g2
        · exact h2 b (List.mem_of_mem_drop hb)
theorem block_to {b : Bk} (h : (ptsR b).2 = 0) : (∀ p ∈ (ptsR b).1, p.1 ≤ b.2.2.1) ∧ ∃ p ∈ (ptsR b).1, p.1 = b.2.2.1 := by
  obtain ⟨h1, h2, h3⟩ := ptsR_is h
  have hr := checkL_rise h2
  have ht : b.2.2.1 = ((ptsR b).1.getD ((ptsR b).1.length - 1) default).1 := congrArg (fun c : Bk => c.2.2.1) h3
  refine ⟨fun p hp => ?_, _, getD_mem (l := (ptsR b).1) (i := (ptsR b).1.length - 1) (by omega), ht.symm⟩
  rw [ht]
  obtain ⟨i, hi, rfl⟩ := List.mem_iff_getElem.1 hp
  by_cases hlt : i < (ptsR b).1.length - 1
  · have := List.pairwise_iff_getElem.1 hr i ((ptsR b).1.length - 1) hi (by omega) hlt
    simp [List.getD, List.getElem?_eq_getElem (show (ptsR b).1.length - 1 < (ptsR b).1.length by omega)]; omega
  · have : i = (ptsR b).1.length - 1 := by omega
    subst this
    simp [List.getD, List.getElem?_eq_getElem hi]
theorem filter_drop (n : Int) : ∀ {bs : List Bk}, okBs bs → Rise (ptsBs bs) → ∃ j, bs.filter (fun b => decide (n ≤ b.2.2.1)) = bs.drop j ∧ ∀ b ∈ bs.take j, b.2.2.1 < n
  | [], _, _ => ⟨0, rfl, fun b hb => by cases hb⟩
  | b :: bs, hk, hr => by
    have hb := hk b List.mem_cons_self
    have hbs : okBs bs := fun c hc => hk c (List.mem_cons_of_mem _ hc)
    rw [ptsBs_cons] at hr
    unfold Rise at hr
    rw [List.pairwise_append] at hr
    obtain ⟨_, hr2, hr3⟩ := hr
    by_cases h : n ≤ b.2.2.1
    · refine ⟨0, ?_, fun c hc => by cases hc⟩
      rw [List.drop_zero, List.filter_eq_self]
      intro c hc
      rcases List.mem_cons.1 hc with rfl | hc
      · simpa using h
      · obtain ⟨_, p, hp, hp2⟩ := block_to hb
        obtain ⟨hq, q, hq1, hq2⟩ := block_to (hbs c hc)
        have hm : q ∈ ptsBs bs := by
          unfold ptsBs
          rw [List.mem_flatten]
          exact ⟨_, List.mem_map.2 ⟨c, hc, rfl⟩, hq1⟩
        have := hr3 p hp q hm
        simp; omega
    · obtain ⟨j, g1, g2⟩ := filter_drop n hbs hr2
      refine ⟨j + 1, ?_, fun c hc => ?_⟩
      · rw [List.filter_cons, if_neg (by simpa using h), g1]; rfl
      · rw [List.take_succ_cons] at hc
        rcases List.mem_cons.1 hc with rfl | hc
        · omega
        · exact g2 c hc
theorem dropR_ok {r : Rowd} (h : (allR r).2 = 0) (n : Int) : (allR (dropR n r)).2 = 0 ∧ ∃ k, (allR (dropR n r)).1 = (allR r).1.drop k ∧ k ≤ (allR r).1.length ∧ ∀ p ∈ (allR r).1.take k, p.1 < n := by
  obtain ⟨h1, h2, h3, h4⟩ := allR_is h
  have hrise : Rise (ptsBs r.1) := (List.pairwise_append.1 (checkL_rise h3)).1
  obtain ⟨j, g1, g2⟩ := filter_drop n h2 hrise
  have hd : dropR n r = (r.1.drop j, r.2) := by unfold dropR; rw [g1]
  have hsp : ptsBs r.1 = ptsBs (r.1.take j) ++ ptsBs (r.1.drop j) := by rw [← ptsBs_app, List.take_append_drop]
  have h5 := allR_of (r := (r.1.drop j, r.2)) (by show (r.1.drop j).length ≤ 8; rw [List.length_drop]; omega) (fun b hb => h2 b (List.mem_of_mem_drop hb))
    (by
      show checkL (ptsBs (r.1.drop j) ++ r.2) = 0
      rw [hsp, List.append_assoc] at h3
      exact checkL_sub h3 (List.sublist_append_right _ _))
  rw [hd, h5, h4]
  refine ⟨rfl, (ptsBs (r.1.take j)).length, ?_, ?_, ?_⟩
  · rw [hsp, List.append_assoc, List.drop_left]
  · simp only; rw [hsp, List.append_assoc, List.length_append]; omega
  · rw [hsp, List.append_assoc, List.take_left]
    intro p hp
    unfold ptsBs at hp
    rw [List.mem_flatten] at hp
    obtain ⟨l, hl, hp⟩ := hp
    obtain ⟨b, hb, rfl⟩ := List.mem_map.1 hl
    have := (block_to (h2 b (List.mem_of_mem_take hb))).1 p hp
    have := g2 b hb
    omega
theorem putW_ok {r : Rowd} {x : Ent} (h : (allR (putW x r)).2 = 0) : (allR r).2 = 0 ∧ (allR (putW x r)).1 = (allR r).1 ++ [(x.2.1, x.2.2)] := by
  obtain ⟨h1, h2, h3, h4⟩ := allR_is h
  have h3' : checkL ((ptsBs r.1 ++ r.2) ++ [(x.2.1, x.2.2)]) = 0 := by rw [List.append_assoc]; exact h3
  have h5 := allR_of (r := r) h1 h2 (checkL_sub h3' (List.sublist_append_left _ _))
  rw [h5, h4]
  exact ⟨rfl, by show ptsBs r.1 ++ (r.2 ++ _) = _; rw [List.append_assoc]⟩
/-! ### Shelves -/
theorem onRow_ok {s : Shf} (h : chkS s = 0) {i : Int} {q : Rowd → Rowd × Int} (hq : ∀ r, (allR r).2 = 0 → (q r).2 = 0 → allR (q r).1 = allR r) (he : (onRow s i q).2 = 0) : chkS (onRow s i q).1 = 0 ∧ ∀ j, allS (onRow s i q).1 j = allS s j := by
  have h4 := (chkS_zero.1 h).1
  unfold onRow at he ⊢
  split at he
  · cases he
  · rename_i hi
    split at he
    · rename_i hz
      rw [if_neg hi, if_pos hz]
      have h0 := chkS_row h (i := i.toNat) (by omega)
      have h1 := hq _ h0 hz
      have hc := chkS_set h (r := (q (s.getD i.toNat default)).1) (by rw [h1]; exact h0) i.toNat
      refine ⟨hc, fun j => ?_⟩
      unfold allS
      simp only [hc, h, if_true, List.length_set]
      split
      · rfl
      · rw [set_getD (by omega)]
        split
        · rename_i hj; rw [h1, hj]
        · rfl
    · rename_i hz; exact absurd he hz
theorem sealS_ok {s : Shf} {i n : Int} (he : (sealS s i n).2 = 0) : chkS s = 0 ∧ chkS (sealS s i n).1 = 0 ∧ ∀ j, allS (sealS s i n).1 j = allS s j := by
  unfold sealS at he ⊢
  split at he
  · rename_i h
    rw [if_pos h]
    exact ⟨h, onRow_ok h (fun r hr hq => sealR_ok hr hq) he⟩
  · rename_i h; exact absurd he h
theorem mergeS_ok {s : Shf} {i n : Int} (he : (mergeS s i n).2 = 0) : chkS s = 0 ∧ chkS (mergeS s i n).1 = 0 ∧ ∀ j, allS (mergeS s i n).1 j = allS s j := by
  unfold mergeS at he ⊢
  split at he
  · rename_i h
    rw [if_pos h]
    exact ⟨h, onRow_ok h (fun r hr hq => mergeW_ok hr hq) he⟩
  · rename_i h; exact absurd he h
theorem dropS_ok {s : Shf} {n : Int} (he : (dropS s n).2 = 0) : chkS s = 0 ∧ (0 ≤ n ∧ n ≤ 100001) ∧ chkS (dropS s n).1 = 0 ∧ ∀ j : Int, 0 ≤ j → j < 4 → ∃ k, (allS (dropS s n).1 j).1 = (allS s j).1.drop k ∧ k ≤ (allS s j).1.length ∧ ∀ p ∈ (allS s j).1.take k, p.1 < n := by
  unfold dropS at he ⊢
  split at he
  · rename_i h
    obtain ⟨h4, hr⟩ := chkS_zero.1 h
    split at he
    · cases he
    · rename_i hn
      rw [if_pos h, if_neg hn]
      have hc : chkS (s.map (dropR n)) = 0 := chkS_zero.2 ⟨by rw [List.length_map]; exact h4, fun r hr' => by
        obtain ⟨q, hq, rfl⟩ := List.mem_map.1 hr'
        exact (dropR_ok (hr q hq) n).1⟩
      refine ⟨h, by omega, hc, fun j h0 h1 => ?_⟩
      have hg : (s.map (dropR n)).getD j.toNat default = dropR n (s.getD j.toNat default) := by
        simp [List.getD, List.getElem?_map, List.getElem?_eq_getElem (show j.toNat < s.length by omega)]
      unfold allS
      rw [if_pos hc, if_pos h, List.length_map, if_neg (by omega), if_neg (by omega), hg]
      exact (dropR_ok (chkS_row h (by omega)) n).2
  · rename_i h; exact absurd he h
def entP (j : Int) (l : List Ent) : List Pt := (l.filter fun x => decide (x.1 = j)).map fun x => (x.2.1, x.2.2)
theorem putE_ok : ∀ {l : List Ent} {s : Shf}, chkS s = 0 → (putE s l).2 = 0 → chkS (putE s l).1 = 0 ∧ ∀ j : Int, 0 ≤ j → j < 4 → (allS (putE s l).1 j).1 = (allS s j).1 ++ entP j l
  | [], s, h, _ => ⟨h, fun j _ _ => by simp [putE, entP]⟩
  | x :: l, s, h, he => by
    have h4 := (chkS_zero.1 h).1
    rw [putE] at he ⊢
    split at he
    · cases he
    · rename_i hx
      split at he
      · rename_i hz
        rw [if_neg hx, if_pos hz]
        have hs := chkS_set h hz x.1.toNat
        obtain ⟨g1, g2⟩ := putE_ok hs he
        refine ⟨g1, fun j h0 h1 => ?_⟩
        rw [g2 j h0 h1]
        unfold allS entP
        rw [if_pos hs, if_pos h, List.length_set, if_neg (by omega), if_neg (by omega), set_getD (by omega), List.filter_cons]
        by_cases hj : x.1 = j
        · subst hj
          rw [if_pos rfl, if_pos (by simp), (putW_ok hz).2]
          simp
        · rw [if_neg (by omega), if_neg (by simpa using hj)]
      · rename_i hz; exact absurd he hz
theorem putS_ok {s : Shf} {l : List Ent} (he : (putS s l).2 = 0) : chkS s = 0 ∧ l.length ≤ 10 ∧ chkS (putS s l).1 = 0 ∧ ∀ j : Int, 0 ≤ j → j < 4 → (allS (putS s l).1 j).1 = (allS s j).1 ++ entP j l := by
  unfold putS at he ⊢
  split at he
  · rename_i h
    split at he
    · cases he
    · rename_i hl
      rw [if_pos h, if_neg hl]
      exact ⟨h, by omega, putE_ok h he⟩
  · rename_i h; exact absurd he h
end Go.Rb
namespace Go.Proofs.Y
open Go.Rb Go.Kx
theorem cloneRw_eq {a : Shf} (h : a.length ≤ 4000000000000) : F_cloneRw a = some a := clone_gen 48 a (by omega) (by omega)
theorem cloneBk_eq {a : List Bk} (h : a.length ≤ 4000000000000) : F_cloneBk a = some a := clone_gen 48 a (by omega) (by omega)
noncomputable def cpy {β : Type} (B : List Bk) (x : Int × List Bk) : Option (Sum (Int × List Bk) β) :=
  bindO (atI B (Prod.fst x)) fun (y : Int × Int × Int × List Bool) => bindO (F_block_Copy (Prod.fst y, Prod.fst (Prod.snd y), Prod.fst (Prod.snd (Prod.snd y)), Prod.snd (Prod.snd (Prod.snd y)))) fun (y : Int × Int × Int × List Bool) =>
    ifB (ltL (Prod.fst x) (Prod.snd x)) (bindO (atN (Prod.snd x) (natI (Prod.fst x))) fun (_ : Int × Int × Int × List Bool) =>
      some (Sum.inl (wadd IntKind.i64 (Prod.fst x) 1, setN (Prod.snd x) (natI (Prod.fst x)) (Prod.fst y, Prod.fst (Prod.snd y), Prod.fst (Prod.snd (Prod.snd y)), Prod.snd (Prod.snd (Prod.snd y)))))) none
theorem set_self {α : Type} [Inhabited α] {l : List α} {j : Nat} (h : j < l.length) : l.set j (l.getD j default) = l := by
  apply List.ext_getElem
  · simp
  · intro i h1 h2
    rw [List.getElem_set]
    split
    · rename_i he; subst he; simp [List.getD, List.getElem?_eq_getElem h]
    · rfl
theorem copyLoop {α : Type} (B : List Bk) (hB : ∀ b ∈ B, okB b) (hl : B.length < 4611686018427387904) (K : Int × List Bk → Option α) :
    loopN maxR (fun (x : Int × List Bk) => ifB (ltI (Prod.fst x) (lenI B)) (cpy B x) (mapO Sum.inr (K x))) (0, B) = K ((B.length : Int), B) := by
  refine loop_range B (fun j (s : List Bk) => ((j : Int), s)) (G := fun _ _ => K ((B.length : Int), B)) (P := fun _ s => s = B) ?_ ?_ (s0 := B) rfl (by omega)
  · rintro j s hj rfl k hk
    have hb := hB _ (getD_mem hj)
    have hat := atI_nat hj
    have hss := set_self hj
    have han := atN_nat hj
    unfold cpy
    generalize s.getD j default = b at *
    simp only [stepK_ifB, stepK_bind, stepK_map, stepK_none, stepK_inl]
    rw [ifB_ltI, lenI_eq, if_pos (by omega), hat, bindO_some, show ((b.1, b.2.1, b.2.2.1, b.2.2.2) : Bk) = b from rfl, copy_eq _ hb, bindO_some, ifB_ltL, if_pos ⟨by omega, by omega⟩, natI_eq, Int.toNat_natCast, han, bindO_some, setN_eq, hss, wadd_nat (by omega)]
    exact hk _ rfl
  · rintro s rfl k
    simp only [stepK_ifB, stepK_map]
    rw [ifB_ltI, lenI_eq, if_neg (by omega)]
theorem len4 {α : Type} {s : List α} (h : s.length = 4) : ∃ a b c d, s = [a, b, c, d] := by
  match s, h with
  | [a, b, c, d], _ => exact ⟨a, b, c, d, rfl⟩
theorem copy4 {α : Type} (r0 r1 r2 r3 : Rowd) (h0 : okR r0) (h1 : okR r1) (h2 : okR r2) (h3 : okR r3) (g0 : r0.1.length ≤ 8) (g1 : r1.1.length ≤ 8) (g2 : r2.1.length ≤ 8) (g3 : r3.1.length ≤ 8)
    (K : List Pt → List Pt → List Pt → List Pt → (Int × List Bk) → (Int × List Bk) → (Int × List Bk) → (Int × List Bk) → Option α) :
    (bindO (F_cloneRw [r0, r1, r2, r3]) fun (y : List (List (Int × Int × Int × List Bool) × List (Int × Int))) => bindO (four y) fun (y : (List (Int × Int × Int × List Bool) × List (Int × Int)) × (List (Int × Int × Int × List Bool) × List (Int × Int)) × (List (Int × Int × Int × List Bool) × List (Int × Int)) × List (Int × Int × Int × List Bool) × List (Int × Int)) =>
      bindO (F_cloneBk (Prod.fst (Prod.fst y))) fun (y_1 : List (Int × Int × Int × List Bool)) => bindO (F_cloneP (Prod.snd (Prod.fst y))) fun (y_2 : List (Int × Int)) =>
      loopN maxR (fun (x : Int × List (Int × Int × Int × List Bool)) => ifB (ltI (Prod.fst x) (lenI (Prod.fst (Prod.fst y)))) (cpy (Prod.fst (Prod.fst y)) x) (mapO Sum.inr
        (bindO (F_cloneBk (Prod.fst (Prod.fst (Prod.snd y)))) fun (y_3 : List (Int × Int × Int × List Bool)) => bindO (F_cloneP (Prod.snd (Prod.fst (Prod.snd y)))) fun (y_4 : List (Int × Int)) =>
        loopN maxR (fun (x_1 : Int × List (Int × Int × Int × List Bool)) => ifB (ltI (Prod.fst x_1) (lenI (Prod.fst (Prod.fst (Prod.snd y))))) (cpy (Prod.fst (Prod.fst (Prod.snd y))) x_1) (mapO Sum.inr
          (bindO (F_cloneBk (Prod.fst (Prod.fst (Prod.snd (Prod.snd y))))) fun (y_5 : List (Int × Int × Int × List Bool)) => bindO (F_cloneP (Prod.snd (Prod.fst (Prod.snd (Prod.snd y))))) fun (y_6 : List (Int × Int)) =>
          loopN maxR (fun (x_2 : Int × List (Int × Int × Int × List Bool)) => ifB (ltI (Prod.fst x_2) (lenI (Prod.fst (Prod.fst (Prod.snd (Prod.snd y)))))) (cpy (Prod.fst (Prod.fst (Prod.snd (Prod.snd y)))) x_2) (mapO Sum.inr
            (bindO (F_cloneBk (Prod.fst (Prod.snd (Prod.snd (Prod.snd y))))) fun (y_7 : List (Int × Int × Int × List Bool)) => bindO (F_cloneP (Prod.snd (Prod.snd (Prod.snd (Prod.snd y))))) fun (y_8 : List (Int × Int)) =>
            loopN maxR (fun (x_3 : Int × List (Int × Int × Int × List Bool)) => ifB (ltI (Prod.fst x_3) (lenI (Prod.fst (Prod.snd (Prod.snd (Prod.snd y)))))) (cpy (Prod.fst (Prod.snd (Prod.snd (Prod.snd y)))) x_3) (mapO Sum.inr (K y_2 y_4 y_6 y_8 x x_1 x_2 x_3))) (0, y_7)))) (0, y_5)))) (0, y_3)))) (0, y_1))
      = K r0.2 r1.2 r2.2 r3.2 ((r0.1.length : Int), r0.1) ((r1.1.length : Int), r1.1) ((r2.1.length : Int), r2.1) ((r3.1.length : Int), r3.1) := by
  rw [cloneRw_eq (by simp), bindO_some, show four [r0, r1, r2, r3] = some (r0, r1, r2, r3) from rfl, bindO_some]
  simp only
  rw [cloneBk_eq (by omega), bindO_some, cloneP_eq (by have := h0.2.2; omega), bindO_some]
  refine (copyLoop r0.1 h0.1 h0.2.1 _).trans ?_
  rw [cloneBk_eq (by omega), bindO_some, cloneP_eq (by have := h1.2.2; omega), bindO_some]
  refine (copyLoop r1.1 h1.1 h1.2.1 _).trans ?_
  rw [cloneBk_eq (by omega), bindO_some, cloneP_eq (by have := h2.2.2; omega), bindO_some]
  refine (copyLoop r2.1 h2.1 h2.2.1 _).trans ?_
  rw [cloneBk_eq (by omega), bindO_some, cloneP_eq (by have := h3.2.2; omega), bindO_some]
  exact copyLoop r3.1 h3.1 h3.2.1 _
theorem compact_gen {α : Type} [Inhabited α] (z : α) (gone : α → Bool) (w : α → α) (hw : ∀ y, w y = y) (l : List α) (x : Nat) (hx : x < l.length) (hl : l.length < 4611686018427387904) (hpre : ∀ p ∈ l.take x, (!gone p) = true) (hnot : (!gone (l.getD x default)) = false) :
    loopN maxR (fun (x : Int × Int × List α) => ifB (ltI (Prod.fst (Prod.snd x)) (lenI (Prod.snd (Prod.snd x)))) (ifB (ltL (Prod.fst (Prod.snd x)) (Prod.snd (Prod.snd x)))
        (bindO (atN (Prod.snd (Prod.snd x)) (natI (Prod.fst (Prod.snd x)))) fun (y : α) => ifB (notB (gone y)) (ifB (ltL (Prod.fst x) (Prod.snd (Prod.snd x))) (bindO (atN (Prod.snd (Prod.snd x)) (natI (Prod.fst x))) fun (y_2 : α) =>
              some (Sum.inl (wadd IntKind.i64 (Prod.fst x) 1, wadd IntKind.i64 (Prod.fst (Prod.snd x)) 1, setN (Prod.snd (Prod.snd x)) (natI (Prod.fst x)) (w y)))) none)
            (some (Sum.inl (Prod.fst x, wadd IntKind.i64 (Prod.fst (Prod.snd x)) 1, Prod.snd (Prod.snd x))))) none)
      (mapO Sum.inr (ifB (in1 (Prod.snd (Prod.snd x)) (Prod.fst x)) (ifB (inN (Prod.snd (Prod.snd x)) (addN 0 (natI (Prod.fst x))) (subNI (lenN (Prod.snd (Prod.snd x))) (Prod.fst x)))
        (ifB (in1 (overN (Prod.snd (Prod.snd x)) (addN 0 (natI (Prod.fst x))) (repN (subNI (lenN (Prod.snd (Prod.snd x))) (Prod.fst x)) z)) (Prod.fst x))
          (ifB (inN (overN (Prod.snd (Prod.snd x)) (addN 0 (natI (Prod.fst x))) (repN (subNI (lenN (Prod.snd (Prod.snd x))) (Prod.fst x)) z)) 0 (natI (Prod.fst x)))
            (some (subN (overN (Prod.snd (Prod.snd x)) (addN 0 (natI (Prod.fst x))) (repN (subNI (lenN (Prod.snd (Prod.snd x))) (Prod.fst x)) z)) 0 (natI (Prod.fst x)))) none) none) none) none)))
      ((x : Int), wadd IntKind.i64 (x : Int) 1, l) = some (l.filter fun y => !gone y) := by
  rw [wadd_nat (by omega)]
  have hst : (l.take (x + 1)).filter (fun y => !gone y) = l.take x := by
    rw [filter_take _ hx, hnot, List.filter_eq_self.2 hpre]; simp
  refine loop_ind (G := fun _ => some (l.filter fun y => !gone y)) (P := fun (y : Int × Int × List α) => 0 ≤ y.1 ∧ y.1 < y.2.1 ∧ y.2.1 ≤ l.length ∧ y.2.2.length = l.length ∧ y.2.2.take y.1.toNat = (l.take y.2.1.toNat).filter (fun y => !gone y) ∧ y.2.2.drop y.2.1.toNat = l.drop y.2.1.toNat) (μ := fun y => l.length - y.2.1.toNat) ?_ maxR _ ⟨by show (0 : Int) ≤ x; omega, by show (x : Int) < ((x + 1 : Nat) : Int); omega, by show ((x + 1 : Nat) : Int) ≤ l.length; omega, rfl, hst.symm, rfl⟩ (by show l.length - ((x + 1 : Nat) : Int).toNat < maxR; unfold maxR; omega)
  rintro ⟨i0, j0, rows⟩ ⟨g0, g1, g2, g3, g4, g5⟩ K hk
  simp only at g0 g1 g2 g3 g4 g5
  obtain ⟨i, rfl⟩ : ∃ i : Nat, i0 = i := ⟨i0.toNat, by omega⟩
  obtain ⟨j, rfl⟩ : ∃ j : Nat, j0 = j := ⟨j0.toNat, by omega⟩
  simp only [Int.toNat_natCast] at g4 g5
  rw [stepK_ifB, stepK_map, ifB_ltI, lenI_eq]
  by_cases hj : (j : Int) < rows.length
  · rw [if_pos hj]
    simp only [stepK_ifB, stepK_bind, stepK_inl, stepK_none]
    rw [ifB_ltL, if_pos ⟨by omega, hj⟩, natI_eq, Int.toNat_natCast, atN_nat (by omega), bindO_some, getD_drop g5 (by omega) (by omega), wadd_nat (j := i) (by omega), wadd_nat (j := j) (by omega)]
    have hft := filter_take (fun y => !gone y) (l := l) (j := j) (by omega)
    generalize l.getD j default = p at *
    cases hg : gone p with
    | true =>
      rw [hg] at hft
      exact hk _ ⟨g0, by show (i : Int) < ((j + 1 : Nat) : Int); omega, by show ((j + 1 : Nat) : Int) ≤ l.length; omega, g3, by show rows.take i = _; rw [Int.toNat_natCast, hft, g4]; simp, by show rows.drop ((j + 1 : Nat) : Int).toNat = _; rw [Int.toNat_natCast]; exact drop_succ_of g5⟩ (by show l.length - ((j + 1 : Nat) : Int).toNat < l.length - ((j : Nat) : Int).toNat; omega)
    | false =>
      rw [hg] at hft
      rw [ifB_not, ifB_f, ifB_ltL, if_pos ⟨by omega, by omega⟩, natI_eq, Int.toNat_natCast, atN_nat (by omega), bindO_some, setN_eq, hw]
      refine hk _ ⟨by show (0 : Int) ≤ ((i + 1 : Nat) : Int); omega, by show ((i + 1 : Nat) : Int) < ((j + 1 : Nat) : Int); omega, by show ((j + 1 : Nat) : Int) ≤ l.length; omega, by show (rows.set i p).length = _; rw [List.length_set]; exact g3, ?_, ?_⟩ (by show l.length - ((j + 1 : Nat) : Int).toNat < l.length - ((j : Nat) : Int).toNat; omega)
      · show (rows.set i p).take ((i + 1 : Nat) : Int).toNat = (l.take ((j + 1 : Nat) : Int).toNat).filter (fun y => !gone y)
        rw [Int.toNat_natCast, Int.toNat_natCast, set_take (by omega), hft, g4]; simp
      · show (rows.set i p).drop ((j + 1 : Nat) : Int).toNat = l.drop ((j + 1 : Nat) : Int).toNat
        rw [Int.toNat_natCast, set_drop (by omega)]; exact drop_succ_of g5
  · rw [if_neg hj]
    have hjl : j = l.length := by omega
    rw [hjl, List.take_length] at g4
    rw [clear_end rows i z (by omega) (fun r => some r), g4]
theorem deleteFuncB_eq (a : List Bk) (n : Int) (hl : a.length < 4611686018427387904) : F_deleteFuncB a n = some (a.filter fun b => decide (n ≤ b.2.2.1)) := by
  unfold F_deleteFuncB
  have hf : (fun b : Bk => decide (n ≤ b.2.2.1)) = fun b : Bk => !(ltI b.2.2.1 n) := by
    funext b
    unfold ltI
    rw [← decide_not]
    exact decide_eq_decide.2 (by omega)
  rw [hf]
  refine loop_ind (G := fun _ => some (a.filter fun b : Bk => !(ltI b.2.2.1 n))) (P := fun (y : Int) => 0 ≤ y ∧ y ≤ a.length ∧ ∀ p ∈ a.take y.toNat, (!(ltI (Prod.fst (Prod.snd (Prod.snd p))) n)) = true) (μ := fun y => a.length - y.toNat) ?_ maxR 0 ⟨Int.le_refl 0, by omega, by simp⟩ (by show a.length - Int.toNat 0 < maxR; unfold maxR; omega)
  rintro y ⟨g0, g1, g2⟩ K hk
  obtain ⟨x, rfl⟩ : ∃ x : Nat, y = x := ⟨y.toNat, by omega⟩
  rw [Int.toNat_natCast] at g2
  rw [stepK_ifB, stepK_map, ifB_ltI, lenI_eq]
  by_cases hx : (x : Int) < a.length
  · rw [if_pos hx]
    simp only [stepK_ifB, stepK_bind, stepK_inl, stepK_none, stepK_map]
    rw [ifB_ltL, if_pos ⟨by omega, hx⟩, natI_eq, Int.toNat_natCast, atN_nat (by omega), bindO_some, ifB_eqI, if_neg (by omega)]
    have hcm := compact_gen ((0, 0, 0, []) : Bk) (fun b : Bk => ltI (Prod.fst (Prod.snd (Prod.snd b))) n) (fun b => (Prod.fst b, Prod.fst (Prod.snd b), Prod.fst (Prod.snd (Prod.snd b)), Prod.snd (Prod.snd (Prod.snd b)))) (fun _ => rfl) a x (by omega) (by omega) g2
    have hnx := take_next (l := a) (i := x) (by omega)
    generalize a.getD x default = p at *
    cases hg : ltI (Prod.fst (Prod.snd (Prod.snd p))) n with
    | true => rw [ifB_t]; exact hcm (by rw [hg]; rfl)
    | false =>
      rw [ifB_f, wadd_nat (by omega)]
      refine hk _ ⟨by omega, by omega, fun q hq => ?_⟩ (by omega)
      rw [Int.toNat_natCast, hnx, List.mem_append, List.mem_singleton] at hq
      rcases hq with hq | rfl
      · exact g2 q hq
      · rw [hg]; rfl
  · rw [if_neg hx]
    have hxl : x = a.length := by omega
    rw [hxl, List.take_length] at g2
    rw [List.filter_eq_self.2 g2]
theorem deleteB_eq (a : List Bk) (i j : Nat) (h1 : i ≤ j) (h2 : j ≤ a.length) (hl : a.length < 4611686018427387904) : F_deleteB a (i : Int) (j : Int) = some (a.take i ++ a.drop j) := by
  unfold F_deleteB
  have e0 : ∀ k : Nat, addN 0 (natI (k : Int)) = k := fun k => by simp [addN, natI]
  have e1 : subNI (lenN a) (j : Int) = a.length - j := by simp [subNI, lenN]
  have e2 : subN a j (a.length - j) = a.drop j := by unfold subN; rw [List.take_of_length_le (by simp)]
  have e3 : lenN (a.drop j) = a.length - j := by simp [lenN]
  have e4 : addN (natI (i : Int)) (a.length - j) = i + (a.length - j) := by simp [addN, natI]
  simp only [e0, e1, e2, e3, e4]
  have e5 : overN a i (a.drop j) = a.take i ++ a.drop j ++ a.drop (i + (a.length - j)) := by simp [overN]
  have e6 : (overN a i (a.drop j)).length = a.length := by rw [e5]; simp; omega
  have e7 : addN 0 (natI (intN (i + (a.length - j)))) = i + (a.length - j) := by rw [intN_eq]; exact e0 _
  have e8 : subI (intN (i + (a.length - j))) (lenI a) = a.length - (i + (a.length - j)) := by simp only [subI, intN, lenI]; omega
  simp only [e7, e8]
  have e9 : ∀ z : List Bk, z.length = a.length - (i + (a.length - j)) → subN (overN (overN a i (a.drop j)) (i + (a.length - j)) z) 0 (i + (a.length - j)) = a.take i ++ a.drop j := by
    intro z hz
    unfold subN
    rw [List.drop_zero]
    have h3 : (a.take i ++ a.drop j).length = i + (a.length - j) := by simp; omega
    have h4 : (overN a i (a.drop j)).take (i + (a.length - j)) = a.take i ++ a.drop j := by
      rw [e5, List.take_append_of_le_length (by omega), List.take_of_length_le (by omega)]
    unfold overN at h4 ⊢
    rw [h4, List.append_assoc, List.take_append_of_le_length (by omega), List.take_of_length_le (by omega)]
  have hz : (repN (a.length - (i + (a.length - j))) ((0, 0, 0, []) : Bk)).length = a.length - (i + (a.length - j)) := by simp [repN]
  have e10 : (overN (overN a i (a.drop j)) (i + (a.length - j)) (repN (a.length - (i + (a.length - j))) ((0, 0, 0, []) : Bk))).length = a.length := by
    generalize repN (a.length - (i + (a.length - j))) ((0, 0, 0, []) : Bk) = z at *
    rw [overN, List.length_append, List.length_append, List.length_take, List.length_drop, e6, hz]; omega
  have hd : (a.drop j).length = a.length - j := List.length_drop
  rw [ifB_and, ifB_in2, if_pos ⟨by omega, by omega, by omega⟩, ifB_eqI, if_pos rfl, ifB_eqI]
  by_cases hij : (i : Int) = j
  · rw [if_pos hij]
    have : i = j := by omega
    subst this
    rw [List.take_append_drop]
  · rw [if_neg hij, ifB_in1, if_pos ⟨by omega, by omega⟩, ifB_in1, if_pos ⟨by omega, by omega⟩, ifB_inN, if_pos (by omega), ifB_inN, if_pos (by omega), ifB_in2C, if_pos ?_, ifB_inN, if_pos (by omega), ifB_inN, if_pos (by omega), e9 _ hz]
    refine ⟨by rw [intN_eq]; omega, by rw [intN_eq, lenI_eq]; omega, ?_⟩
    rw [lenI_eq, capN, lenN, e6]; omega
theorem drop_eq (s : Shf) (n : Int) (hs : okS s) : F_shelf_Drop s n = some (dropS s n) := by
  unfold F_shelf_Drop dropS
  rw [checkS_eq s hs, bindO_some, ifB_neI]
  by_cases hc : chkS s = 0
  · obtain ⟨h4, hr⟩ := chkS_zero.1 hc
    rw [if_pos hc, if_pos hc, ifB_ltI, ifB_gtI]
    by_cases h0 : n < 0
    · rw [if_pos h0, if_pos (.inl h0)]
    by_cases h1 : 100001 < n
    · rw [if_neg h0, if_pos h1, if_pos (.inr h1)]
    rw [if_neg h0, if_neg h1, if_neg (by omega)]
    obtain ⟨r0, r1, r2, r3, rfl⟩ := len4 h4
    simp only [List.mem_cons, List.not_mem_nil, or_false, forall_eq_or_imp, forall_eq] at hr
    obtain ⟨a0, a1, a2, a3⟩ := hr
    have b0 := (allR_is a0).1; have b1 := (allR_is a1).1; have b2 := (allR_is a2).1; have b3 := (allR_is a3).1
    refine (copy4 r0 r1 r2 r3 (okR_of a0) (okR_of a1) (okR_of a2) (okR_of a3) b0 b1 b2 b3 _).trans ?_
    simp only
    rw [deleteFuncB_eq _ _ (by omega), bindO_some, deleteFuncB_eq _ _ (by omega), bindO_some, deleteFuncB_eq _ _ (by omega), bindO_some, deleteFuncB_eq _ _ (by omega), bindO_some]
    rfl
  · rw [if_neg hc, if_neg hc]
end Go.Proofs.Y
namespace Go.Proofs.Y
open Go.Rb Go.Kx
theorem sealRow_eq (r : Rowd) (h : (allR r).2 = 0) (c : Int) (E : List Bk → List Pt → Shf) :
    ifB (ltI c 1) (some (([] : Shf), (3 : Int))) (ifB (gtI c (lenI r.2)) (some ([], 3)) (ifB (eqI (lenI r.1) 8) (some ([], 2)) (ifB (in1 r.2 c) (ifB (inN r.2 0 (natI c))
      (bindO (F_block_Make (subN r.2 0 (natI c))) fun (y : (Int × Int × Int × List Bool) × Int) => ifB (neI (Prod.snd y) 0) (some ([], Prod.snd y))
        (ifB (roomA 48 r.1 [(Prod.fst (Prod.fst y), Prod.fst (Prod.snd (Prod.fst y)), Prod.fst (Prod.snd (Prod.snd (Prod.fst y))), Prod.snd (Prod.snd (Prod.snd (Prod.fst y))))])
          (ifB (in1 r.2 c) (some (E (cat r.1 [(Prod.fst (Prod.fst y), Prod.fst (Prod.snd (Prod.fst y)), Prod.fst (Prod.snd (Prod.snd (Prod.fst y))), Prod.snd (Prod.snd (Prod.snd (Prod.fst y))))]) (dropI r.2 c), 0)) none) none)) none) none)))
      = some (if (sealR c r).2 = 0 then (E (sealR c r).1.1 (sealR c r).1.2, 0) else ([], (sealR c r).2)) := by
  have h8 := (allR_is h).1
  have hl := (okR_of h).2.2
  rw [ifB_ltI, ifB_gtI, ifB_eqI, lenI_eq, lenI_eq]
  by_cases h1 : c < 1
  · have hv : sealR c r = (r, 3) := by unfold sealR; rw [if_pos (.inl h1)]
    rw [if_pos h1, hv]; rfl
  by_cases h2 : (r.2.length : Int) < c
  · have hv : sealR c r = (r, 3) := by unfold sealR; rw [if_pos (.inr h2)]
    rw [if_neg h1, if_pos h2, hv]; rfl
  have h12 : ¬ (c < 1 ∨ (r.2.length : Int) < c) := by omega
  rw [if_neg h1, if_neg h2]
  by_cases h3 : r.1.length = 8
  · have hv : sealR c r = (r, 2) := by unfold sealR; rw [if_neg h12, if_pos h3]
    rw [if_pos (by omega), hv]; rfl
  have hs : subN r.2 0 (natI c) = r.2.take c.toNat := rfl
  rw [if_neg (by omega), ifB_in1, if_pos ⟨by omega, by omega⟩, ifB_inN, if_pos (by rw [natI_eq]; omega), hs, make_eq _ (by rw [List.length_take]; omega), bindO_some, ifB_neI]
  by_cases h4 : (makeR (r.2.take c.toNat)).2 = 0
  · have hv : sealR c r = ((r.1 ++ [(makeR (r.2.take c.toNat)).1], r.2.drop c.toNat), 0) := by unfold sealR; rw [if_neg h12, if_neg h3, if_neg (not_not_intro h4)]
    rw [if_pos h4, ifB_roomA, if_pos (by simp only [List.length_cons, List.length_nil]; omega), ifB_in1, if_pos ⟨by omega, by omega⟩, hv]; rfl
  · have hv : sealR c r = (r, (makeR (r.2.take c.toNat)).2) := by unfold sealR; rw [if_neg h12, if_neg h3, if_pos h4]
    rw [if_neg h4, hv]
    simp only
    rw [if_neg h4]
theorem i4 {i : Int} (h0 : ¬ i < 0) (h1 : ¬ 4 ≤ i) : i = 0 ∨ i = 1 ∨ i = 2 ∨ i = 3 := by omega
theorem seal_eq (s : Shf) (i n : Int) (hs : okS s) : F_shelf_Seal s i n = some (sealS s i n) := by
  unfold F_shelf_Seal sealS
  rw [checkS_eq s hs, bindO_some, ifB_neI]
  by_cases hc : chkS s = 0
  · obtain ⟨h4, hr⟩ := chkS_zero.1 hc
    unfold onRow
    rw [if_pos hc, if_pos hc, ifB_ltI, ifB_geI, lenI_eq, h4]
    by_cases h0 : i < 0
    · rw [if_pos h0, if_pos (.inl h0)]
    by_cases h1 : ((4 : Nat) : Int) ≤ i
    · rw [if_neg h0, if_pos h1, if_pos (.inr h1)]
    rw [if_neg h0, if_neg h1, if_neg (show ¬ (i < 0 ∨ ((4 : Nat) : Int) ≤ i) by omega)]
    obtain ⟨r0, r1, r2, r3, rfl⟩ := len4 h4
    simp only [List.mem_cons, List.not_mem_nil, or_false, forall_eq_or_imp, forall_eq] at hr
    obtain ⟨a0, a1, a2, a3⟩ := hr
    have b0 := (allR_is a0).1; have b1 := (allR_is a1).1; have b2 := (allR_is a2).1; have b3 := (allR_is a3).1
    refine (copy4 r0 r1 r2 r3 (okR_of a0) (okR_of a1) (okR_of a2) (okR_of a3) b0 b1 b2 b3 _).trans ?_
    simp only
    rcases i4 h0 (by omega) with rfl | rfl | rfl | rfl
    · rw [ifB_eqI, if_pos rfl]; exact sealRow_eq r0 a0 n (fun b h => [(b, h), r1, r2, r3])
    · rw [ifB_eqI, if_neg (by decide), ifB_eqI, if_pos rfl]; exact sealRow_eq r1 a1 n (fun b h => [r0, (b, h), r2, r3])
    · rw [ifB_eqI, if_neg (by decide), ifB_eqI, if_neg (by decide), ifB_eqI, if_pos rfl]; exact sealRow_eq r2 a2 n (fun b h => [r0, r1, (b, h), r3])
    · rw [ifB_eqI, if_neg (by decide), ifB_eqI, if_neg (by decide), ifB_eqI, if_neg (by decide), ifB_eqI, if_pos rfl]; exact sealRow_eq r3 a3 n (fun b h => [r0, r1, r2, (b, h)])
  · rw [if_neg hc, if_neg hc]
theorem mergeRow_eq (r : Rowd) (h : (allR r).2 = 0) (c : Int) (E : List Bk → Shf) :
    ifB (ltI c 0) (some (([] : Shf), (3 : Int))) (ifB (geI c (wsub IntKind.i64 (lenI r.1) 1)) (some ([], 3)) (ifB (ltL c r.1) (bindO (atN r.1 (natI c)) fun (y : Int × Int × Int × List Bool) => ifB (ltL (wadd IntKind.i64 c 1) r.1)
      (bindO (atN r.1 (natI (wadd IntKind.i64 c 1))) fun (y_9 : Int × Int × Int × List Bool) => bindO (F_block_Merge (Prod.fst y, Prod.fst (Prod.snd y), Prod.fst (Prod.snd (Prod.snd y)), Prod.snd (Prod.snd (Prod.snd y))) (Prod.fst y_9, Prod.fst (Prod.snd y_9), Prod.fst (Prod.snd (Prod.snd y_9)), Prod.snd (Prod.snd (Prod.snd y_9)))) fun (y : (Int × Int × Int × List Bool) × Int) =>
        ifB (neI (Prod.snd y) 0) (some ([], Prod.snd y)) (ifB (ltL c r.1) (bindO (atN r.1 (natI c)) fun (_ : Int × Int × Int × List Bool) =>
          bindO (F_deleteB (setN r.1 (natI c) (Prod.fst (Prod.fst y), Prod.fst (Prod.snd (Prod.fst y)), Prod.fst (Prod.snd (Prod.snd (Prod.fst y))), Prod.snd (Prod.snd (Prod.snd (Prod.fst y))))) (wadd IntKind.i64 c 1) (wadd IntKind.i64 c 2)) fun (y : List (Int × Int × Int × List Bool)) => some (E y, 0)) none)) none) none))
      = some (if (mergeW c r).2 = 0 then (E (mergeW c r).1.1, 0) else ([], (mergeW c r).2)) := by
  have h8 := (allR_is h).1
  have hb := (okR_of h).1
  rw [ifB_ltI, ifB_geI, lenI_eq, wsub_in ⟨by omega, by omega⟩]
  by_cases h1 : c < 0
  · have hv : mergeW c r = (r, 3) := by unfold mergeW; rw [if_pos (.inl h1)]
    rw [if_pos h1, hv]; rfl
  by_cases h2 : (r.1.length : Int) - 1 ≤ c
  · have hv : mergeW c r = (r, 3) := by unfold mergeW; rw [if_pos (.inr h2)]
    rw [if_neg h1, if_pos h2, hv]; rfl
  obtain ⟨k, rfl⟩ : ∃ k : Nat, c = k := ⟨c.toNat, by omega⟩
  have h12 : ¬ ((k : Int) < 0 ∨ (r.1.length : Int) - 1 ≤ k) := by omega
  have hw2 : wadd .i64 (k : Int) 2 = ((k + 2 : Nat) : Int) := by rw [wadd_in ⟨by omega, by omega⟩]; rfl
  have e1 : ∀ b : Bk, ((b.1, b.2.1, b.2.2.1, b.2.2.2) : Bk) = b := fun _ => rfl
  have hmw : mergeW (k : Int) r = if ¬ (mergeR (r.1.getD k default) (r.1.getD (k + 1) default)).2 = 0 then (r, (mergeR (r.1.getD k default) (r.1.getD (k + 1) default)).2)
    else ((r.1.take k ++ (mergeR (r.1.getD k default) (r.1.getD (k + 1) default)).1 :: r.1.drop (k + 2), r.2), 0) := by unfold mergeW; rw [if_neg h12, Int.toNat_natCast]
  rw [if_neg h1, if_neg h2, ifB_ltL, if_pos ⟨by omega, by omega⟩, wadd_nat (by omega), hw2, natI_eq, natI_eq, Int.toNat_natCast, Int.toNat_natCast, atN_nat (by omega), bindO_some, ifB_ltL, if_pos ⟨by omega, by omega⟩, atN_nat (by omega), bindO_some, hmw]
  simp only [e1]
  have x1 := hb _ (getD_mem (l := r.1) (i := k) (by omega))
  have x2 := hb _ (getD_mem (l := r.1) (i := k + 1) (by omega))
  generalize r.1.getD (k + 1) default = y at *
  generalize r.1.getD k default = x at *
  rw [merge_eq x y x1 x2, bindO_some, ifB_neI]
  generalize mergeR x y = q
  by_cases h4 : q.2 = 0
  · have hd : (r.1.set k q.1).take (k + 1) ++ (r.1.set k q.1).drop (k + 2) = r.1.take k ++ q.1 :: r.1.drop (k + 2) := by
      rw [set_take (by omega), set_drop (by omega), List.append_assoc]; rfl
    rw [if_pos h4, ifB_ltL, if_pos ⟨by omega, by omega⟩, bindO_some, setN_eq, deleteB_eq _ _ _ (by omega) (by rw [List.length_set]; omega) (by rw [List.length_set]; omega), bindO_some, if_neg (not_not_intro h4), hd]
    rfl
  · rw [if_neg h4, if_pos h4]
    simp only
    rw [if_neg h4]
theorem mergeS_eq (s : Shf) (i n : Int) (hs : okS s) : F_shelf_Merge s i n = some (mergeS s i n) := by
  unfold F_shelf_Merge mergeS
  rw [checkS_eq s hs, bindO_some, ifB_neI]
  by_cases hc : chkS s = 0
  · obtain ⟨h4, hr⟩ := chkS_zero.1 hc
    unfold onRow
    rw [if_pos hc, if_pos hc, ifB_ltI, ifB_geI, lenI_eq, h4]
    by_cases h0 : i < 0
    · rw [if_pos h0, if_pos (.inl h0)]
    by_cases h1 : ((4 : Nat) : Int) ≤ i
    · rw [if_neg h0, if_pos h1, if_pos (.inr h1)]
    rw [if_neg h0, if_neg h1, if_neg (show ¬ (i < 0 ∨ ((4 : Nat) : Int) ≤ i) by omega)]
    obtain ⟨r0, r1, r2, r3, rfl⟩ := len4 h4
    simp only [List.mem_cons, List.not_mem_nil, or_false, forall_eq_or_imp, forall_eq] at hr
    obtain ⟨a0, a1, a2, a3⟩ := hr
    have b0 := (allR_is a0).1; have b1 := (allR_is a1).1; have b2 := (allR_is a2).1; have b3 := (allR_is a3).1
    refine (copy4 r0 r1 r2 r3 (okR_of a0) (okR_of a1) (okR_of a2) (okR_of a3) b0 b1 b2 b3 _).trans ?_
    simp only
    have e : ∀ r : Rowd, (mergeW n r).1.2 = r.2 := by
      intro r
      unfold mergeW
      split
      · rfl
      · split <;> rfl
    rcases i4 h0 (by omega) with rfl | rfl | rfl | rfl
    · rw [ifB_eqI, if_pos rfl]; refine (mergeRow_eq r0 a0 n (fun b => [(b, r0.2), r1, r2, r3])).trans ?_; rw [← e r0]; rfl
    · rw [ifB_eqI, if_neg (by decide), ifB_eqI, if_pos rfl]; refine (mergeRow_eq r1 a1 n (fun b => [r0, (b, r1.2), r2, r3])).trans ?_; rw [← e r1]; rfl
    · rw [ifB_eqI, if_neg (by decide), ifB_eqI, if_neg (by decide), ifB_eqI, if_pos rfl]; refine (mergeRow_eq r2 a2 n (fun b => [r0, r1, (b, r2.2), r3])).trans ?_; rw [← e r2]; rfl
    · rw [ifB_eqI, if_neg (by decide), ifB_eqI, if_neg (by decide), ifB_eqI, if_neg (by decide), ifB_eqI, if_pos rfl]; refine (mergeRow_eq r3 a3 n (fun b => [r0, r1, r2, (b, r3.2)])).trans ?_; rw [← e r3]; rfl
  · rw [if_neg hc, if_neg hc]
theorem putRow_eq {β : Type} (r : Rowd) (h : (allR r).2 = 0) (x : Ent) (E : List Pt → β) :
    ifB (roomA 16 r.2 [(Prod.fst (Prod.snd x), Prod.snd (Prod.snd x))]) (bindO (F_shelf_all (r.1, cat r.2 [(Prod.fst (Prod.snd x), Prod.snd (Prod.snd x))])) fun (y_9 : List (Int × Int) × Int) =>
      ifB (neI (Prod.snd y_9) 0) (mapO Sum.inr (some (([] : Shf), Prod.snd y_9))) (some (Sum.inl (E (cat r.2 [(Prod.fst (Prod.snd x), Prod.snd (Prod.snd x))]))))) none
      = if (allR (putW x r)).2 = 0 then some (Sum.inl (E (putW x r).2)) else some (Sum.inr ([], (allR (putW x r)).2)) := by
  have hl := (okR_of h)
  have hl2 : r.2.length ≤ 40 := by
    have := checkL_len (allR_is h).2.2.1
    rw [List.length_append] at this; omega
  have hk : okR (putW x r) := ⟨hl.1, hl.2.1, by show (r.2 ++ [_]).length ≤ _; rw [List.length_append, List.length_singleton]; omega⟩
  rw [ifB_roomA, if_pos (by simp only [List.length_cons, List.length_nil]; omega), cat_eq, show F_shelf_all (r.1, r.2 ++ [(x.2.1, x.2.2)]) = some (allR (putW x r)) from all_eq _ hk, bindO_some, ifB_neI]
  rfl
theorem shelfPut_eq (s : Shf) (l : List Ent) (hs : okS s) (hl : l.length < 4611686018427387904) : F_shelf_Put s l = some (putS s l) := by
  unfold F_shelf_Put putS
  rw [checkS_eq s hs, bindO_some, ifB_neI]
  by_cases hc : chkS s = 0
  · obtain ⟨h4, hr⟩ := chkS_zero.1 hc
    rw [if_pos hc, if_pos hc, ifB_gtI, lenI_eq]
    by_cases h10 : 10 < l.length
    · rw [if_pos (by omega), if_pos h10]
    rw [if_neg (by omega), if_neg h10]
    obtain ⟨r0, r1, r2, r3, rfl⟩ := len4 h4
    simp only [List.mem_cons, List.not_mem_nil, or_false, forall_eq_or_imp, forall_eq] at hr
    obtain ⟨a0, a1, a2, a3⟩ := hr
    have b0 := (allR_is a0).1; have b1 := (allR_is a1).1; have b2 := (allR_is a2).1; have b3 := (allR_is a3).1
    refine (copy4 r0 r1 r2 r3 (okR_of a0) (okR_of a1) (okR_of a2) (okR_of a3) b0 b1 b2 b3 _).trans ?_
    simp only
    refine loop_range l (fun j (s : List Pt × List Pt × List Pt × List Pt) => ((j : Int), s.1, s.2.1, s.2.2.1, s.2.2.2)) (G := fun rest s => some (putE [(r0.1, s.1), (r1.1, s.2.1), (r2.1, s.2.2.1), (r3.1, s.2.2.2)] rest))
      (P := fun _ s => (allR (r0.1, s.1)).2 = 0 ∧ (allR (r1.1, s.2.1)).2 = 0 ∧ (allR (r2.1, s.2.2.1)).2 = 0 ∧ (allR (r3.1, s.2.2.2)).2 = 0) ?_ ?_ (s0 := (r0.2, r1.2, r2.2, r3.2)) ⟨a0, a1, a2, a3⟩ (by omega)
    · rintro j ⟨h0, h1, h2, h3⟩ hj ⟨c0, c1, c2, c3⟩ k hk
      have hat := atI_nat hj
      simp only at c0 c1 c2 c3
      generalize l.getD j default = x at *
      simp only
      rw [stepK_ifB, stepK_map, ifB_ltI, if_pos (by omega), hat, stepK_bind, bindO_some, stepK_ifB, stepK_map, ifB_ltI, putE]
      by_cases x0 : x.1 < 0
      · rw [if_pos x0, if_pos (.inl x0)]
      rw [if_neg x0, stepK_ifB, stepK_map, ifB_geI]
      by_cases x4 : 4 ≤ x.1
      · rw [if_pos x4, if_pos (.inr x4)]
      rw [if_neg x4, if_neg (show ¬ (x.1 < 0 ∨ 4 ≤ x.1) by omega), stepK_ifB, ifB_eqI]
      simp only [wadd_nat (show (j : Int) < 4611686018427387904 by omega)]
      have f0 := putRow_eq (r0.1, h0) c0 x (fun h => (((j + 1 : Nat) : Int), h, h1, h2, h3))
      have f1 := putRow_eq (r1.1, h1) c1 x (fun h => (((j + 1 : Nat) : Int), h0, h, h2, h3))
      have f2 := putRow_eq (r2.1, h2) c2 x (fun h => (((j + 1 : Nat) : Int), h0, h1, h, h3))
      have f3 := putRow_eq (r3.1, h3) c3 x (fun h => (((j + 1 : Nat) : Int), h0, h1, h2, h))
      rcases i4 x0 x4 with e | e | e | e
      · rw [if_pos e, e]
        refine (congrArg (fun z => stepK z k) f0).trans ?_
        show _ = some (if (allR (putW x (r0.1, h0))).2 = 0 then putE [putW x (r0.1, h0), (r1.1, h1), (r2.1, h2), (r3.1, h3)] (l.drop (j + 1)) else ([], (allR (putW x (r0.1, h0))).2))
        by_cases hz : (allR (putW x (r0.1, h0))).2 = 0
        · rw [if_pos hz, if_pos hz]; exact hk (_, h1, h2, h3) ⟨hz, c1, c2, c3⟩
        · rw [if_neg hz, if_neg hz]; rfl
      · rw [if_neg (by omega), stepK_ifB, ifB_eqI, if_pos e, e]
        refine (congrArg (fun z => stepK z k) f1).trans ?_
        show _ = some (if (allR (putW x (r1.1, h1))).2 = 0 then putE [(r0.1, h0), putW x (r1.1, h1), (r2.1, h2), (r3.1, h3)] (l.drop (j + 1)) else ([], (allR (putW x (r1.1, h1))).2))
        by_cases hz : (allR (putW x (r1.1, h1))).2 = 0
        · rw [if_pos hz, if_pos hz]; exact hk (h0, _, h2, h3) ⟨c0, hz, c2, c3⟩
        · rw [if_neg hz, if_neg hz]; rfl
      · rw [if_neg (by omega), stepK_ifB, ifB_eqI, if_neg (by omega), stepK_ifB, ifB_eqI, if_pos e, e]
        refine (congrArg (fun z => stepK z k) f2).trans ?_
        show _ = some (if (allR (putW x (r2.1, h2))).2 = 0 then putE [(r0.1, h0), (r1.1, h1), putW x (r2.1, h2), (r3.1, h3)] (l.drop (j + 1)) else ([], (allR (putW x (r2.1, h2))).2))
        by_cases hz : (allR (putW x (r2.1, h2))).2 = 0
        · rw [if_pos hz, if_pos hz]; exact hk (h0, h1, _, h3) ⟨c0, c1, hz, c3⟩
        · rw [if_neg hz, if_neg hz]; rfl
      · rw [if_neg (by omega), stepK_ifB, ifB_eqI, if_neg (by omega), stepK_ifB, ifB_eqI, if_neg (by omega), stepK_ifB, ifB_eqI, if_pos e, e]
        refine (congrArg (fun z => stepK z k) f3).trans ?_
        show _ = some (if (allR (putW x (r3.1, h3))).2 = 0 then putE [(r0.1, h0), (r1.1, h1), (r2.1, h2), putW x (r3.1, h3)] (l.drop (j + 1)) else ([], (allR (putW x (r3.1, h3))).2))
        by_cases hz : (allR (putW x (r3.1, h3))).2 = 0
        · rw [if_pos hz, if_pos hz]; exact hk (h0, h1, h2, _) ⟨c0, c1, c2, hz⟩
        · rw [if_neg hz, if_neg hz]; rfl
    · rintro ⟨h0, h1, h2, h3⟩ _ k
      simp only
      rw [stepK_ifB, stepK_map, ifB_ltI, if_neg (by omega)]
      rfl
  · rw [if_neg hc, if_neg hc]
end Go.Proofs.Y
namespace Go.Proofs.Y
open Go.Rb Go.Kx
theorem eqLoop {γ α : Type} [Inhabited γ] [DecidableEq γ] (A B : List γ) (hl : A.length < 4611686018427387904) (hn : A.length = B.length) (R F : Option α) (T : Int → γ → γ → Option (Sum Int α))
    (hT : ∀ (i : Int) (x y : γ), x ∈ A → T i x y = if x = y then some (Sum.inl (wadd .i64 i 1)) else mapO Sum.inr F) :
    loopN maxR (fun (i : Int) => ifB (ltI i (lenI A)) (bindO (atI A i) fun (y : γ) => bindO (atI B i) fun (y3 : γ) => T i y y3) (mapO Sum.inr R)) 0 = if A = B then R else F := by
  refine loop_ind (G := fun _ => if A = B then R else F) (P := fun (i : Int) => 0 ≤ i ∧ i ≤ A.length ∧ ∀ j : Nat, (j : Int) < i → A.getD j default = B.getD j default) (μ := fun (i : Int) => A.length - i.toNat) ?_ maxR 0 ⟨by omega, by omega, fun j hj => by omega⟩ (by unfold maxR; omega)
  rintro i ⟨h0, h1, h2⟩ k hk
  obtain ⟨j, rfl⟩ : ∃ j : Nat, i = j := ⟨i.toNat, by omega⟩
  rw [stepK_ifB, stepK_map, ifB_ltI, lenI_eq]
  by_cases hj : j < A.length
  · rw [if_pos (by omega), atI_nat hj, atI_nat (by omega : j < B.length), bindO_some, bindO_some, hT _ _ _ (getD_mem hj), wadd_nat (by omega)]
    by_cases hq : A.getD j default = B.getD j default
    · rw [if_pos hq, stepK_inl]
      exact hk _ ⟨by omega, by omega, fun j' hj' => by
        by_cases h : j' = j
        · subst h; exact hq
        · exact h2 j' (by omega)⟩ (by omega)
    · have hne : ¬ A = B := by rintro rfl; exact hq rfl
      rw [if_neg hq, if_neg hne, stepK_map]
  · rw [if_neg (by omega)]
    have : A = B := getD_ext hn fun j' hj' => h2 j' (by omega)
    rw [if_pos this]
theorem shelfSame_eq (a b : Shf) (ha : okS a) : F_shelf_Same a b = some (decide (a = b)) := by
  unfold F_shelf_Same
  rw [ifB_neI, lenI_eq, lenI_eq]
  by_cases hn : (a.length : Int) = b.length
  · rw [if_pos hn]
    refine (eqLoop a b ha.1 (by omega) _ (some false) _ ?_).trans ?_
    · intro i x y hx
      have hok := ha.2 x hx
      rw [equalP_eq (by have := hok.2.2; omega), bindO_some, ifB_dec, ifB_neI, lenI_eq, lenI_eq]
      by_cases h2 : x.2 = y.2
      · rw [if_pos h2]
        by_cases hm : (x.1.length : Int) = y.1.length
        · rw [if_pos hm]
          refine (eqLoop x.1 y.1 hok.2.1 (by omega) _ (mapO Sum.inr (some false)) _ ?_).trans ?_
          · intro i2 u v hu
            rw [show ∀ b : Bk, ((b.1, b.2.1, b.2.2.1, b.2.2.2) : Bk) = b from fun _ => rfl, show ∀ b : Bk, ((b.1, b.2.1, b.2.2.1, b.2.2.2) : Bk) = b from fun _ => rfl, same_eq u v (hok.1 u hu), bindO_some, ifB_not, ifB_dec]
          · by_cases h1 : x.1 = y.1
            · rw [if_pos h1, if_pos (Prod.ext h1 h2)]
            · rw [if_neg h1, if_neg (fun h => h1 (congrArg Prod.fst h))]
        · rw [if_neg hm, if_neg (fun h => hm (by rw [h]))]
      · rw [if_neg h2, if_neg (fun h => h2 (congrArg Prod.snd h))]
    · by_cases h : a = b
      · simp [h]
      · simp [h]
  · have : ¬ a = b := by rintro rfl; exact hn rfl
    rw [if_neg hn, decide_eq_false this]
end Go.Proofs.Y
namespace Go.Rb
open Go.Kx
def doRec (s : Shf) (r : Rc) : Shf × Int := if r.1 = 1 then putS s r.2.2.2 else if r.1 = 2 then sealS s r.2.1 r.2.2.1 else if r.1 = 3 then mergeS s r.2.1 r.2.2.1 else dropS s r.2.2.1
def nextS (s : Shf) (r : Rc) : Shf × Int := if chkS s = 0 then (if chkRec r = 0 then doRec s r else ([], chkRec r)) else ([], chkS s)
def replayS : Shf → List Rc → Shf × Int
  | s, [] => (s, 0)
  | s, r :: l => if (nextS s r).2 = 0 then replayS (nextS s r).1 l else ([], (nextS s r).2)
def freshS : Shf := [([], []), ([], []), ([], []), ([], [])]
theorem fresh_ok : chkS freshS = 0 := by decide +kernel
def replayR (l : List Rc) : Shf × Int := if 60 < l.length then ([], 2) else replayS freshS l
theorem doRec_ok {s : Shf} {r : Rc} (h : (doRec s r).2 = 0) : chkS s = 0 ∧ chkS (doRec s r).1 = 0 := by
  unfold doRec at h ⊢
  split
  · rename_i h1; rw [if_pos h1] at h; exact ⟨(putS_ok h).1, (putS_ok h).2.2.1⟩
  · rename_i h1
    rw [if_neg h1] at h
    split
    · rename_i h2; rw [if_pos h2] at h; exact ⟨(sealS_ok h).1, (sealS_ok h).2.1⟩
    · rename_i h2
      rw [if_neg h2] at h
      split
      · rename_i h3; rw [if_pos h3] at h; exact ⟨(mergeS_ok h).1, (mergeS_ok h).2.1⟩
      · rename_i h3; rw [if_neg h3] at h; exact ⟨(dropS_ok h).1, (dropS_ok h).2.2.1⟩
theorem nextS_ok {s : Shf} {r : Rc} (h : (nextS s r).2 = 0) : chkS s = 0 ∧ chkRec r = 0 ∧ nextS s r = doRec s r ∧ chkS (nextS s r).1 = 0 := by
  unfold nextS at h ⊢
  split at h
  · rename_i h1
    split at h
    · rename_i h2
      rw [if_pos h1, if_pos h2]
      exact ⟨h1, h2, rfl, (doRec_ok h).2⟩
    · rename_i h2; exact absurd h h2
  · rename_i h1; exact absurd h h1
theorem replayS_ok : ∀ {l : List Rc} {s : Shf}, chkS s = 0 → (replayS s l).2 = 0 → chkS (replayS s l).1 = 0
  | [], _, h, _ => h
  | r :: l, s, h, he => by
    rw [replayS] at he ⊢
    split at he
    · rename_i h1
      rw [if_pos h1]
      exact replayS_ok (nextS_ok h1).2.2.2 he
    · rename_i h1; exact absurd he h1
theorem replayS_rec : ∀ {l : List Rc} {s : Shf}, (replayS s l).2 = 0 → ∀ r ∈ l, chkRec r = 0
  | [], _, _ => fun r hr => by cases hr
  | r :: l, s, he => by
    rw [replayS] at he
    split at he
    · rename_i h1
      intro q hq
      rcases List.mem_cons.1 hq with rfl | hq
      · exact (nextS_ok h1).2.1
      · exact replayS_rec he q hq
    · rename_i h1; exact absurd he h1
theorem replayR_len {l : List Rc} (he : (replayR l).2 = 0) : l.length ≤ 60 ∧ chkS (replayR l).1 = 0 ∧ ∀ r ∈ l, chkRec r = 0 := by
  unfold replayR at he ⊢
  split at he
  · cases he
  · rename_i h
    rw [if_neg h]
    exact ⟨by omega, replayS_ok fresh_ok he, replayS_rec he⟩
end Go.Rb
namespace Go.Proofs.Y
open Go.Rb Go.Kx
theorem new_eq : F_shelf_New = some freshS := by
  unfold F_shelf_New
  rw [ifB_roomI, if_pos (by decide)]; rfl
theorem nil_ok : okS ([] : Shf) := ⟨by decide, fun r hr => by cases hr⟩
theorem putS_okS (s : Shf) (l : List Ent) : okS (putS s l).1 := by
  by_cases h : (putS s l).2 = 0
  · exact okS_of (putS_ok h).2.2.1
  · have hE : ∀ (l : List Ent) (s : Shf), ¬ (putE s l).2 = 0 → (putE s l).1 = [] := by
      intro l
      induction l with
      | nil => intro s h; exact absurd rfl h
      | cons x l ih =>
        intro s h
        rw [putE] at h ⊢
        split
        · rfl
        · rename_i hx
          rw [if_neg hx] at h
          split
          · rename_i hz; rw [if_pos hz] at h; exact ih _ h
          · rfl
    have : (putS s l).1 = [] := by
      unfold putS at h ⊢
      split
      · rename_i hc
        rw [if_pos hc] at h
        split
        · rfl
        · rename_i hl; rw [if_neg hl] at h; exact hE _ _ h
      · rfl
    rw [this]; exact nil_ok
theorem onRow_nil {s : Shf} {i : Int} {q : Rowd → Rowd × Int} (h : ¬ (onRow s i q).2 = 0) : (onRow s i q).1 = [] := by
  unfold onRow at h ⊢
  split
  · rfl
  · rename_i hi
    rw [if_neg hi] at h
    split
    · rename_i hz; rw [if_pos hz] at h; exact absurd rfl h
    · rfl
theorem sealS_okS (s : Shf) (i n : Int) : okS (sealS s i n).1 := by
  by_cases h : (sealS s i n).2 = 0
  · exact okS_of (sealS_ok h).2.1
  · have : (sealS s i n).1 = [] := by
      unfold sealS at h ⊢
      split
      · rename_i hc; rw [if_pos hc] at h; exact onRow_nil h
      · rfl
    rw [this]; exact nil_ok
theorem mergeS_okS (s : Shf) (i n : Int) : okS (mergeS s i n).1 := by
  by_cases h : (mergeS s i n).2 = 0
  · exact okS_of (mergeS_ok h).2.1
  · have : (mergeS s i n).1 = [] := by
      unfold mergeS at h ⊢
      split
      · rename_i hc; rw [if_pos hc] at h; exact onRow_nil h
      · rfl
    rw [this]; exact nil_ok
theorem dropS_okS (s : Shf) (n : Int) : okS (dropS s n).1 := by
  by_cases h : (dropS s n).2 = 0
  · exact okS_of (dropS_ok h).2.2.1
  · have : (dropS s n).1 = [] := by
      unfold dropS at h ⊢
      split
      · rename_i hc
        rw [if_pos hc] at h
        split
        · rfl
        · rename_i hn; rw [if_neg hn] at h; exact absurd rfl h
      · rfl
    rw [this]; exact nil_ok
end Go.Proofs.Y
namespace Go.Proofs.Y
open Go.Rb Go.Kx
theorem next_eq (s : Shf) (r : Rc) (hs : okS s) (hl : r.2.2.2.length < 4611686018427387904) : F_store_Next s r = some (nextS s r) := by
  unfold F_store_Next nextS doRec
  rw [checkS_eq s hs, bindO_some, show F_note_Check (r.1, r.2.1, r.2.2.1, r.2.2.2) = some (chkRec r) from noteCheck_eq r hl, bindO_some, shelfPut_eq _ _ hs hl, seal_eq _ _ _ hs, mergeS_eq _ _ _ hs, drop_eq _ _ hs]
  simp only [bindO_some, ifB_neI, ifB_eqI]
  split
  · split
    · split
      · rfl
      · split
        · rfl
        · split <;> rfl
    · rfl
  · rfl
theorem replay_eq (l : List Rc) (hl : l.length < 4611686018427387904) (he : ∀ r ∈ l, r.2.2.2.length < 4611686018427387904) : F_store_Replay l = some (replayR l) := by
  unfold F_store_Replay replayR
  rw [ifB_gtI, lenI_eq]
  by_cases h : 60 < l.length
  · rw [if_pos (by omega), if_pos h]
  · rw [if_neg (by omega), if_neg h, new_eq, bindO_some]
    refine loop_range l (fun j (s : Shf) => ((j : Int), ([] : Shf), s)) (G := fun rest s => some (replayS s rest)) (P := fun _ s => chkS s = 0) ?_ ?_ (s0 := freshS) fresh_ok (by omega)
    · rintro j s hj hs k hk
      have hat := atI_nat hj
      have hr := he _ (getD_mem hj)
      generalize l.getD j default = r at *
      simp only
      rw [stepK_ifB, stepK_map, ifB_ltI, if_pos (by omega), hat, stepK_bind, bindO_some, stepK_bind, show F_store_Next s (r.1, r.2.1, r.2.2.1, r.2.2.2) = some (nextS s r) from next_eq s r (okS_of hs) hr, bindO_some, stepK_ifB, stepK_map, stepK_inl, ifB_neI, replayS, wadd_nat (by omega)]
      by_cases hz : (nextS s r).2 = 0
      · rw [if_pos hz, if_pos hz]; exact hk _ (nextS_ok hz).2.2.2
      · rw [if_neg hz, if_neg hz]
    · rintro s _ k
      simp only
      rw [stepK_ifB, stepK_map, ifB_ltI, if_neg (by omega)]; rfl
theorem doRec_okS (s : Shf) (r : Rc) : okS (doRec s r).1 := by
  unfold doRec
  split
  · exact putS_okS _ _
  · split
    · exact sealS_okS _ _ _
    · split
      · exact mergeS_okS _ _ _
      · exact dropS_okS _ _
theorem nextS_okS (s : Shf) (r : Rc) : okS (nextS s r).1 := by
  unfold nextS
  split
  · split
    · exact doRec_okS _ _
    · exact nil_ok
  · exact nil_ok
theorem replayS_okS : ∀ (l : List Rc) (s : Shf), okS s → okS (replayS s l).1
  | [], _, h => h
  | r :: l, s, h => by
    rw [replayS]
    split
    · exact replayS_okS l _ (nextS_okS s r)
    · exact nil_ok
theorem replayR_okS (l : List Rc) : okS (replayR l).1 := by
  unfold replayR
  split
  · exact nil_ok
  · exact replayS_okS _ _ (okS_of fresh_ok)
end Go.Proofs.Y
namespace Go.Proofs.Y
open Go.Rb Go.Kx
end Go.Proofs.Y
namespace Go.Proofs.Y
open Go.Rb Go.Kx
set_option maxRecDepth 100000
end Go.Proofs.Y
namespace Go.Proofs.Y
open Go.Rb Go.Kx
set_option maxRecDepth 100000
end Go.Proofs.Y
namespace Go.Proofs.Y
open Go.Rb Go.Kx
set_option maxRecDepth 100000
end Go.Proofs.Y
namespace Go.Proofs.Y
open Go.Rb Go.Kx
noncomputable def C_cloneBy : Code := bodyOf Tryz.f86
noncomputable def G_cloneBy : FuncId → Option GS := tabG []
theorem g_cloneBy : ΓOK Tryz.prog G_cloneBy := ΓOK_nil
def H_cloneBy : HT := ⟨tabL [], tabH []⟩
abbrev is_cloneBy : List IT := [.v (.one (.sl 5 (.one (.int .u8)))) false]
abbrev os_cloneBy : List OT := [⟨.one (.sl 5 (.one (.int .u8))), false, [true]⟩]
set_option maxRecDepth 100000
noncomputable def F_cloneBy : List Int → Option (List Int) := fun (a : List Int) => ifB (isE a) (ambO (some []) (ifB (roomA 1 [] a) (some (cat [] a)) none)) (ifB (roomA 1 [] a) (some (cat [] a)) none)
theorem F_cloneBy_eq (x : PI is_cloneBy) : F_cloneBy x = fnE T G_cloneBy H_cloneBy C_cloneBy (resOf Tryz.f86) is_cloneBy os_cloneBy x := by kernel_rfl
noncomputable abbrev R_cloneBy : GS := mkSpec false is_cloneBy os_cloneBy fun x => F_cloneBy x
theorem R_cloneBy_ok : GSOK Tryz.prog 86 R_cloneBy := spec_ok tok g_cloneBy fmo (Ht := H_cloneBy) (fn := Tryz.f86) (Tryz.func86) (c := C_cloneBy) (by kernel_rfl) (by kernel_rfl) (by kernel_rfl) (by decide +kernel) (by decide) F_cloneBy_eq
end Go.Proofs.Y
namespace Go.Proofs.Y
open Go.Rb Go.Kx
noncomputable def C_growBy : Code := bodyOf Tryz.f121
noncomputable def G_growBy : FuncId → Option GS := tabG []
theorem g_growBy : ΓOK Tryz.prog G_growBy := ΓOK_nil
def H_growBy : HT := ⟨tabL [], tabH []⟩
noncomputable def I_growBy : GS := inl T G_growBy H_growBy C_growBy (resOf Tryz.f121) (Tryz.f121.ntmps)
theorem I_growBy_ok : GSOK Tryz.prog 121 I_growBy := inl_ok tok g_growBy fmo (Ht := H_growBy) (fn := Tryz.f121) (Tryz.func121) (c := C_growBy) (by kernel_rfl) (by kernel_rfl) (by kernel_rfl)
end Go.Proofs.Y
namespace Go.Proofs.Y
open Go.Rb Go.Kx
noncomputable def C_concatBy : Code := bodyOf Tryz.f87
noncomputable def G_concatBy : FuncId → Option GS := tabG [(121, I_growBy)]
theorem g_concatBy : ΓOK Tryz.prog G_concatBy := ΓOK_cons (I_growBy_ok) (ΓOK_nil)
def H_concatBy : HT := ⟨tabL [(3, .it [] (dyn [.t 3 (.int .i64), .t 11 (.int .i64)])), (11, .it [] (dyn [.a 6 5 (.one (.int .u8)), .t 27 (.int .i64)]))], tabH [(10, [.trim 6])]⟩
abbrev is_concatBy : List IT := [.v (.one (.sl 25 (.one (.sl 5 (.one (.int .u8)))))) false]
abbrev os_concatBy : List OT := [⟨.one (.sl 5 (.one (.int .u8))), false, []⟩]
set_option maxRecDepth 100000
noncomputable def F_concatBy : List (List Int) → Option (List Int) := fun (a : List (List Int)) => loopN maxR (fun (x : Int × Int) => ifB (ltI x.2 (lenI a)) (bindO (atI a x.2) fun (y : List Int) => ifB (ltI (wadd .i64 x.1 (lenI y)) 0) none (some (Sum.inl (wadd .i64 x.1 (lenI y), wadd .i64 x.2 1)))) (mapO Sum.inr (ifB (ltI x.1 0) none (ifB (gtI (wsub .i64 x.1 (wsub .i64 0 0)) 0) (ifB (roomZ 1 (wsub .i64 x.1 (wsub .i64 0 0))) (ifB (in1 (repI (wsub .i64 x.1 (wsub .i64 0 0)) 0) 0) (ifB (inN (repI (wsub .i64 x.1 (wsub .i64 0 0)) 0) 0 (natI 0)) (loopN maxR (fun (x : Int × List Int) => ifB (ltI x.1 (lenI a)) (bindO (atI a x.1) fun (y : List Int) => ifB (roomA 1 x.2 y) (some (Sum.inl (wadd .i64 x.1 1, cat x.2 y))) none) (mapO Sum.inr (some x.2))) (0, subN (repI (wsub .i64 x.1 (wsub .i64 0 0)) 0) 0 (natI 0))) none) none) none) (loopN maxR (fun (x : Int × List Int) => ifB (ltI x.1 (lenI a)) (bindO (atI a x.1) fun (y : List Int) => ifB (roomA 1 x.2 y) (some (Sum.inl (wadd .i64 x.1 1, cat x.2 y))) none) (mapO Sum.inr (some x.2))) (0, [])))))) (0, 0)
theorem F_concatBy_eq (x : PI is_concatBy) : F_concatBy x = fnE T G_concatBy H_concatBy C_concatBy (resOf Tryz.f87) is_concatBy os_concatBy x := by kernel_rfl
noncomputable abbrev R_concatBy : GS := mkSpec false is_concatBy os_concatBy fun x => F_concatBy x
theorem R_concatBy_ok : GSOK Tryz.prog 87 R_concatBy := spec_ok tok g_concatBy fmo (Ht := H_concatBy) (fn := Tryz.f87) (Tryz.func87) (c := C_concatBy) (by kernel_rfl) (by kernel_rfl) (by kernel_rfl) (by decide +kernel) (by decide) F_concatBy_eq
end Go.Proofs.Y
namespace Go.Proofs.Y
open Go.Rb Go.Kx Go.Proofs
def atoi_ren : Go.Shelf.Ren := ⟨fun | 172 => 152 | 244 => 172 | 245 => 173 | 247 => 178 | 279 => 193 | 280 => 194 | 281 => 195 | 282 => 196 | 287 => 201 | 316 => 212 | 171 => 120 | 205 => 213 | 321 => 215 | 322 => 216 | 243 => 148 | 246 => 170 | 283 => 185 | 284 => 186 | 285 => 187 | 286 => 188 | 129 => 206 | 317 => 205 | 318 => 207 | 319 => 208 | 320 => 209 | 337 => 217 | 338 => 218 | n => n, fun | 9 => 9 | 3 => 3 | 75 => 183 | 76 => 184 | 4 => 4 | 5 => 5 | 167 => 224 | 37 => 25 | 0 => 0 | 85 => 187 | 2 => 2 | 168 => 225 | 53 => 202 | 175 => 232 | 46 => 174 | 210 => 244 | 127 => 215 | 145 => 251 | 143 => 249 | 21 => 21 | 171 => 218 | 173 => 221 | 212 => 238 | 51 => 199 | 20 => 20 | 213 => 239 | 232 => 256 | 233 => 257 | 80 => 198 | n => n, fun | 15 => 2 | 16 => 3 | 17 => 1 | 18 => 6 | 19 => 7 | n => n⟩
theorem atoi_lays : Go.Proofs.LaysC.n172 Tryz.prog atoi_ren := {
  mixed := by kernel_rfl
  f129 := Tryz.func206.trans (congrArg some (by kernel_rfl))
  f171 := Tryz.func120.trans (congrArg some (by kernel_rfl))
  f172 := Tryz.func152.trans (congrArg some (by kernel_rfl))
  f205 := Tryz.func213.trans (congrArg some (by kernel_rfl))
  f243 := Tryz.func148.trans (congrArg some (by kernel_rfl))
  f244 := Tryz.func172.trans (congrArg some (by kernel_rfl))
  f245 := Tryz.func173.trans (congrArg some (by kernel_rfl))
  f246 := Tryz.func170.trans (congrArg some (by kernel_rfl))
  f247 := Tryz.func178.trans (congrArg some (by kernel_rfl))
  f279 := Tryz.func193.trans (congrArg some (by kernel_rfl))
  f280 := Tryz.func194.trans (congrArg some (by kernel_rfl))
  f281 := Tryz.func195.trans (congrArg some (by kernel_rfl))
  f282 := Tryz.func196.trans (congrArg some (by kernel_rfl))
  f283 := Tryz.func185.trans (congrArg some (by kernel_rfl))
  f284 := Tryz.func186.trans (congrArg some (by kernel_rfl))
  f285 := Tryz.func187.trans (congrArg some (by kernel_rfl))
  f286 := Tryz.func188.trans (congrArg some (by kernel_rfl))
  f287 := Tryz.func201.trans (congrArg some (by kernel_rfl))
  f316 := Tryz.func212.trans (congrArg some (by kernel_rfl))
  f317 := Tryz.func205.trans (congrArg some (by kernel_rfl))
  f318 := Tryz.func207.trans (congrArg some (by kernel_rfl))
  f319 := Tryz.func208.trans (congrArg some (by kernel_rfl))
  f320 := Tryz.func209.trans (congrArg some (by kernel_rfl))
  f321 := Tryz.func215.trans (congrArg some (by kernel_rfl))
  f322 := Tryz.func216.trans (congrArg some (by kernel_rfl))
  f337 := Tryz.func217.trans (congrArg some (by kernel_rfl))
  f338 := Tryz.func218.trans (congrArg some (by kernel_rfl))
  t0 := Tryz.underlying0
  a0 := Tryz.isAgg0
  z0 := Tryz.sizeOf0
  v0 := Tryz.zeroValue0
  t2 := Tryz.underlying2
  a2 := Tryz.isAgg2
  z2 := Tryz.sizeOf2
  v2 := Tryz.zeroValue2
  t3 := Tryz.underlying3
  a3 := Tryz.isAgg3
  z3 := Tryz.sizeOf3
  v3 := Tryz.zeroValue3
  t4 := Tryz.underlying4
  a4 := Tryz.isAgg4
  z4 := Tryz.sizeOf4
  v4 := Tryz.zeroValue4
  t5 := Tryz.underlying5
  a5 := Tryz.isAgg5
  z5 := Tryz.sizeOf5
  v5 := Tryz.zeroValue5
  t9 := Tryz.underlying9
  a9 := Tryz.isAgg9
  z9 := Tryz.sizeOf9
  v9 := Tryz.zeroValue9
  t20 := Tryz.underlying20
  a20 := Tryz.isAgg20
  z20 := Tryz.sizeOf20
  v20 := Tryz.zeroValue20
  t21 := Tryz.underlying21
  a21 := Tryz.isAgg21
  z21 := Tryz.sizeOf21
  v21 := Tryz.zeroValue21
  t37 := Tryz.underlying25
  a37 := Tryz.isAgg25
  z37 := Tryz.sizeOf25
  v37 := Tryz.zeroValue25
  t46 := Tryz.underlying174
  a46 := Tryz.isAgg174
  z46 := Tryz.sizeOf174
  v46 := Tryz.zeroValue174
  t51 := Tryz.underlying199
  a51 := Tryz.isAgg199
  z51 := Tryz.sizeOf199
  v51 := Tryz.zeroValue199
  t53 := Tryz.underlying202
  a53 := Tryz.isAgg202
  z53 := Tryz.sizeOf202
  v53 := Tryz.zeroValue202
  t75 := Tryz.underlying183
  a75 := Tryz.isAgg183
  z75 := Tryz.sizeOf183
  v75 := Tryz.zeroValue183
  t76 := Tryz.underlying184
  a76 := Tryz.isAgg184
  z76 := Tryz.sizeOf184
  v76 := Tryz.zeroValue184
  t85 := Tryz.underlying187
  a85 := Tryz.isAgg187
  z85 := Tryz.sizeOf187
  v85 := Tryz.zeroValue187
  t127 := Tryz.underlying215
  a127 := Tryz.isAgg215
  z127 := Tryz.sizeOf215
  v127 := Tryz.zeroValue215
  t143 := Tryz.underlying249
  a143 := Tryz.isAgg249
  z143 := Tryz.sizeOf249
  v143 := Tryz.zeroValue249
  t145 := Tryz.underlying251
  a145 := Tryz.isAgg251
  z145 := Tryz.sizeOf251
  v145 := Tryz.zeroValue251
  t167 := Tryz.underlying224
  a167 := Tryz.isAgg224
  z167 := Tryz.sizeOf224
  v167 := Tryz.zeroValue224
  t168 := Tryz.underlying225
  a168 := Tryz.isAgg225
  z168 := Tryz.sizeOf225
  v168 := Tryz.zeroValue225
  t171 := Tryz.underlying218
  a171 := Tryz.isAgg218
  z171 := Tryz.sizeOf218
  v171 := Tryz.zeroValue218
  t173 := Tryz.underlying221
  a173 := Tryz.isAgg221
  z173 := Tryz.sizeOf221
  v173 := Tryz.zeroValue221
  t175 := Tryz.underlying232
  a175 := Tryz.isAgg232
  z175 := Tryz.sizeOf232
  v175 := Tryz.zeroValue232
  t210 := Tryz.underlying244
  a210 := Tryz.isAgg244
  z210 := Tryz.sizeOf244
  v210 := Tryz.zeroValue244
  t212 := Tryz.underlying238
  a212 := Tryz.isAgg238
  z212 := Tryz.sizeOf238
  v212 := Tryz.zeroValue238
  t213 := Tryz.underlying239
  a213 := Tryz.isAgg239
  z213 := Tryz.sizeOf239
  t232 := Tryz.underlying256
  a232 := Tryz.isAgg256
  z232 := Tryz.sizeOf256
  v232 := Tryz.zeroValue256
  t233 := Tryz.underlying257
  a233 := Tryz.isAgg257
  z233 := Tryz.sizeOf257
  v233 := Tryz.zeroValue257
  g15 := by kernel_rfl
  g16 := by kernel_rfl
  g17 := by kernel_rfl
  g18 := by kernel_rfl
  g19 := by kernel_rfl
  t80 := Tryz.underlying198
  a80 := Tryz.isAgg198
  z80 := Tryz.sizeOf198
  v80 := Tryz.zeroValue198
  i0 := by kernel_rfl
  i2 := by kernel_rfl
  i3 := by kernel_rfl
  i4 := by kernel_rfl
  i5 := by kernel_rfl
  i9 := by kernel_rfl
  i20 := by kernel_rfl
  i21 := by kernel_rfl
  i37 := by kernel_rfl
  i46 := by kernel_rfl
  i51 := by kernel_rfl
  i53 := by kernel_rfl
  i75 := by kernel_rfl
  i76 := by kernel_rfl
  i80 := by kernel_rfl
  i85 := by kernel_rfl
  i127 := by kernel_rfl
  i143 := by kernel_rfl
  i145 := by kernel_rfl
  i167 := by kernel_rfl
  i168 := by kernel_rfl
  i171 := by kernel_rfl
  i173 := by kernel_rfl
  i175 := by kernel_rfl
  i210 := by kernel_rfl
  i212 := by kernel_rfl
  i232 := by kernel_rfl
  i233 := by kernel_rfl
  m15 := by kernel_rfl
  m16 := by kernel_rfl
  m17 := by kernel_rfl
  m18 := by kernel_rfl
  m19 := by kernel_rfl
  c0 := by kernel_rfl
  c2 := by kernel_rfl
  c3 := by kernel_rfl
  c4 := by kernel_rfl
  c5 := by kernel_rfl
  c9 := by kernel_rfl
  c20 := by kernel_rfl
  c21 := by kernel_rfl
  c37 := by kernel_rfl
  c46 := by kernel_rfl
  c51 := by kernel_rfl
  c53 := by kernel_rfl
  c75 := by kernel_rfl
  c76 := by kernel_rfl
  c80 := by kernel_rfl
  c85 := by kernel_rfl
  c127 := by kernel_rfl
  c143 := by kernel_rfl
  c145 := by kernel_rfl
  c167 := by kernel_rfl
  c168 := by kernel_rfl
  c171 := by kernel_rfl
  c173 := by kernel_rfl
  c175 := by kernel_rfl
  c210 := by kernel_rfl
  c212 := by kernel_rfl
  c213 := by kernel_rfl
  c232 := by kernel_rfl
  c233 := by kernel_rfl }
theorem atoi_body : HasBody Tryz.prog (atoi_ren.f 172) := ⟨Tryz.f152, bodyOf Tryz.f152, Tryz.func152, by kernel_rfl, by kernel_rfl⟩
theorem atoi_gs : GSOK Tryz.prog 152 (.r (libS isS (fun x => atoiO x) gErr)) := atoi_spec atoi_lays atoi_body
def itoa_ren : Go.Shelf.Ren := ⟨fun | 171 => 120 | 243 => 148 | 246 => 170 | 283 => 185 | 284 => 186 | 285 => 187 | 286 => 188 | 129 => 206 | 317 => 205 | 318 => 207 | 319 => 208 | 320 => 209 | 337 => 217 | 338 => 218 | n => n, fun | 3 => 3 | 9 => 9 | 2 => 2 | 4 => 4 | 171 => 218 | 0 => 0 | 53 => 202 | 37 => 25 | 5 => 5 | 173 => 221 | 212 => 238 | 51 => 199 | 20 => 20 | 213 => 239 | 46 => 174 | 232 => 256 | 233 => 257 | n => n, fun | 17 => 1 | 18 => 6 | 19 => 7 | n => n⟩
theorem itoa_lays : Go.Proofs.LaysM.n171 Tryz.prog itoa_ren := {
  mixed := by kernel_rfl
  f129 := Tryz.func206.trans (congrArg some (by kernel_rfl))
  f171 := Tryz.func120.trans (congrArg some (by kernel_rfl))
  f243 := Tryz.func148.trans (congrArg some (by kernel_rfl))
  f246 := Tryz.func170.trans (congrArg some (by kernel_rfl))
  f283 := Tryz.func185.trans (congrArg some (by kernel_rfl))
  f284 := Tryz.func186.trans (congrArg some (by kernel_rfl))
  f285 := Tryz.func187.trans (congrArg some (by kernel_rfl))
  f286 := Tryz.func188.trans (congrArg some (by kernel_rfl))
  f317 := Tryz.func205.trans (congrArg some (by kernel_rfl))
  f318 := Tryz.func207.trans (congrArg some (by kernel_rfl))
  f319 := Tryz.func208.trans (congrArg some (by kernel_rfl))
  f320 := Tryz.func209.trans (congrArg some (by kernel_rfl))
  f337 := Tryz.func217.trans (congrArg some (by kernel_rfl))
  f338 := Tryz.func218.trans (congrArg some (by kernel_rfl))
  t0 := Tryz.underlying0
  a0 := Tryz.isAgg0
  z0 := Tryz.sizeOf0
  v0 := Tryz.zeroValue0
  t2 := Tryz.underlying2
  a2 := Tryz.isAgg2
  z2 := Tryz.sizeOf2
  v2 := Tryz.zeroValue2
  t3 := Tryz.underlying3
  a3 := Tryz.isAgg3
  z3 := Tryz.sizeOf3
  v3 := Tryz.zeroValue3
  t4 := Tryz.underlying4
  a4 := Tryz.isAgg4
  z4 := Tryz.sizeOf4
  v4 := Tryz.zeroValue4
  t5 := Tryz.underlying5
  a5 := Tryz.isAgg5
  z5 := Tryz.sizeOf5
  v5 := Tryz.zeroValue5
  t9 := Tryz.underlying9
  a9 := Tryz.isAgg9
  z9 := Tryz.sizeOf9
  v9 := Tryz.zeroValue9
  t20 := Tryz.underlying20
  a20 := Tryz.isAgg20
  z20 := Tryz.sizeOf20
  v20 := Tryz.zeroValue20
  t37 := Tryz.underlying25
  a37 := Tryz.isAgg25
  z37 := Tryz.sizeOf25
  v37 := Tryz.zeroValue25
  t46 := Tryz.underlying174
  a46 := Tryz.isAgg174
  z46 := Tryz.sizeOf174
  v46 := Tryz.zeroValue174
  t51 := Tryz.underlying199
  a51 := Tryz.isAgg199
  z51 := Tryz.sizeOf199
  v51 := Tryz.zeroValue199
  t53 := Tryz.underlying202
  a53 := Tryz.isAgg202
  z53 := Tryz.sizeOf202
  v53 := Tryz.zeroValue202
  t171 := Tryz.underlying218
  a171 := Tryz.isAgg218
  z171 := Tryz.sizeOf218
  v171 := Tryz.zeroValue218
  t173 := Tryz.underlying221
  a173 := Tryz.isAgg221
  z173 := Tryz.sizeOf221
  v173 := Tryz.zeroValue221
  t212 := Tryz.underlying238
  a212 := Tryz.isAgg238
  z212 := Tryz.sizeOf238
  v212 := Tryz.zeroValue238
  t213 := Tryz.underlying239
  a213 := Tryz.isAgg239
  z213 := Tryz.sizeOf239
  t232 := Tryz.underlying256
  a232 := Tryz.isAgg256
  z232 := Tryz.sizeOf256
  v232 := Tryz.zeroValue256
  t233 := Tryz.underlying257
  a233 := Tryz.isAgg257
  z233 := Tryz.sizeOf257
  v233 := Tryz.zeroValue257
  g17 := by kernel_rfl
  g18 := by kernel_rfl
  g19 := by kernel_rfl
  i0 := by kernel_rfl
  i2 := by kernel_rfl
  i3 := by kernel_rfl
  i4 := by kernel_rfl
  i5 := by kernel_rfl
  i9 := by kernel_rfl
  i20 := by kernel_rfl
  i37 := by kernel_rfl
  i46 := by kernel_rfl
  i51 := by kernel_rfl
  i53 := by kernel_rfl
  i171 := by kernel_rfl
  i173 := by kernel_rfl
  i212 := by kernel_rfl
  i232 := by kernel_rfl
  i233 := by kernel_rfl
  m17 := by kernel_rfl
  m18 := by kernel_rfl
  m19 := by kernel_rfl }
theorem itoa_body : HasBody Tryz.prog (itoa_ren.f 171) := ⟨Tryz.f120, bodyOf Tryz.f120, Tryz.func120, by kernel_rfl, by kernel_rfl⟩
theorem itoa_gs : GSOK Tryz.prog 120 (.r (libS isI (fun x => itoaO x) gStr)) := itoa_spec itoa_lays itoa_body
def cut_ren : Go.Shelf.Ren := ⟨fun | 145 => 122 | 220 => 149 | 219 => 171 | 217 => 189 | 225 => 190 | 224 => 191 | 267 => 192 | 266 => 210 | 314 => 211 | n => n, fun | 9 => 9 | 4 => 4 | 59 => 154 | 3 => 3 | 5 => 5 | 46 => 174 | 146 => 200 | 51 => 199 | n => n, fun | 1 => 0 | n => n⟩
theorem cut_lays : Go.Proofs.LaysM.n145 Tryz.prog cut_ren := {
  mixed := by kernel_rfl
  f145 := Tryz.func122.trans (congrArg some (by kernel_rfl))
  f217 := Tryz.func189.trans (congrArg some (by kernel_rfl))
  f219 := Tryz.func171.trans (congrArg some (by kernel_rfl))
  f220 := Tryz.func149.trans (congrArg some (by kernel_rfl))
  f224 := Tryz.func191.trans (congrArg some (by kernel_rfl))
  f225 := Tryz.func190.trans (congrArg some (by kernel_rfl))
  f266 := Tryz.func210.trans (congrArg some (by kernel_rfl))
  f267 := Tryz.func192.trans (congrArg some (by kernel_rfl))
  f314 := Tryz.func211.trans (congrArg some (by kernel_rfl))
  t3 := Tryz.underlying3
  a3 := Tryz.isAgg3
  z3 := Tryz.sizeOf3
  v3 := Tryz.zeroValue3
  t4 := Tryz.underlying4
  a4 := Tryz.isAgg4
  z4 := Tryz.sizeOf4
  v4 := Tryz.zeroValue4
  t5 := Tryz.underlying5
  a5 := Tryz.isAgg5
  z5 := Tryz.sizeOf5
  v5 := Tryz.zeroValue5
  t9 := Tryz.underlying9
  a9 := Tryz.isAgg9
  z9 := Tryz.sizeOf9
  v9 := Tryz.zeroValue9
  t46 := Tryz.underlying174
  a46 := Tryz.isAgg174
  z46 := Tryz.sizeOf174
  v46 := Tryz.zeroValue174
  t51 := Tryz.underlying199
  a51 := Tryz.isAgg199
  z51 := Tryz.sizeOf199
  v51 := Tryz.zeroValue199
  t59 := Tryz.underlying154
  a59 := Tryz.isAgg154
  z59 := Tryz.sizeOf154
  v59 := Tryz.zeroValue154
  t146 := Tryz.underlying200
  a146 := Tryz.isAgg200
  z146 := Tryz.sizeOf200
  v146 := Tryz.zeroValue200
  g1 := by kernel_rfl
  i3 := by kernel_rfl
  i4 := by kernel_rfl
  i5 := by kernel_rfl
  i9 := by kernel_rfl
  i46 := by kernel_rfl
  i51 := by kernel_rfl
  i59 := by kernel_rfl
  i146 := by kernel_rfl
  m1 := by kernel_rfl
  s1_3 := fun w h => Go.Proofs.cell_of_shapedOpen_int (zero := #[.int .i64 0]) (t := 3) h (of_decide_eq_true (by kernel_rfl)) (by kernel_rfl) rfl (by kernel_rfl) (by kernel_rfl) Tryz.underlying3 }
theorem cut_body : HasBody Tryz.prog (cut_ren.f 145) := ⟨Tryz.f122, bodyOf Tryz.f122, Tryz.func122, by kernel_rfl, by kernel_rfl⟩
theorem cut_gs : GSOK Tryz.prog 122 (.r (libS isSS (fun x => cutO (x.1) (x.2)) gCut)) := cut_spec cut_lays cut_body
def split_ren : Go.Shelf.Ren := ⟨fun | 146 => 150 | 221 => 154 | 268 => 175 | 138 => 176 | 143 => 177 | 195 => 198 | 197 => 199 | 218 => 200 | 219 => 171 | 260 => 214 | 217 => 189 | 225 => 190 | 224 => 191 | 267 => 192 | 266 => 210 | 314 => 211 | n => n, fun | 9 => 9 | 31 => 149 | 3 => 3 | 4 => 4 | 0 => 0 | 105 => 230 | 21 => 21 | 5 => 5 | 46 => 174 | 119 => 252 | 139 => 255 | 138 => 254 | 146 => 200 | 51 => 199 | n => n, fun | 1 => 0 | 3 => 4 | 4 => 5 | n => n⟩
theorem split_lays : Go.Proofs.LaysM.n146 Tryz.prog split_ren := {
  mixed := by kernel_rfl
  f138 := Tryz.func176.trans (congrArg some (by kernel_rfl))
  f143 := Tryz.func177.trans (congrArg some (by kernel_rfl))
  f146 := Tryz.func150.trans (congrArg some (by kernel_rfl))
  f195 := Tryz.func198.trans (congrArg some (by kernel_rfl))
  f197 := Tryz.func199.trans (congrArg some (by kernel_rfl))
  f217 := Tryz.func189.trans (congrArg some (by kernel_rfl))
  f218 := Tryz.func200.trans (congrArg some (by kernel_rfl))
  f219 := Tryz.func171.trans (congrArg some (by kernel_rfl))
  f221 := Tryz.func154.trans (congrArg some (by kernel_rfl))
  f224 := Tryz.func191.trans (congrArg some (by kernel_rfl))
  f225 := Tryz.func190.trans (congrArg some (by kernel_rfl))
  f260 := Tryz.func214.trans (congrArg some (by kernel_rfl))
  f266 := Tryz.func210.trans (congrArg some (by kernel_rfl))
  f267 := Tryz.func192.trans (congrArg some (by kernel_rfl))
  f268 := Tryz.func175.trans (congrArg some (by kernel_rfl))
  f314 := Tryz.func211.trans (congrArg some (by kernel_rfl))
  t0 := Tryz.underlying0
  a0 := Tryz.isAgg0
  z0 := Tryz.sizeOf0
  v0 := Tryz.zeroValue0
  t3 := Tryz.underlying3
  a3 := Tryz.isAgg3
  z3 := Tryz.sizeOf3
  v3 := Tryz.zeroValue3
  t4 := Tryz.underlying4
  a4 := Tryz.isAgg4
  z4 := Tryz.sizeOf4
  v4 := Tryz.zeroValue4
  t5 := Tryz.underlying5
  a5 := Tryz.isAgg5
  z5 := Tryz.sizeOf5
  v5 := Tryz.zeroValue5
  t9 := Tryz.underlying9
  a9 := Tryz.isAgg9
  z9 := Tryz.sizeOf9
  v9 := Tryz.zeroValue9
  t21 := Tryz.underlying21
  a21 := Tryz.isAgg21
  z21 := Tryz.sizeOf21
  v21 := Tryz.zeroValue21
  t31 := Tryz.underlying149
  a31 := Tryz.isAgg149
  z31 := Tryz.sizeOf149
  v31 := Tryz.zeroValue149
  t46 := Tryz.underlying174
  a46 := Tryz.isAgg174
  z46 := Tryz.sizeOf174
  v46 := Tryz.zeroValue174
  t51 := Tryz.underlying199
  a51 := Tryz.isAgg199
  z51 := Tryz.sizeOf199
  v51 := Tryz.zeroValue199
  t105 := Tryz.underlying230
  a105 := Tryz.isAgg230
  z105 := Tryz.sizeOf230
  v105 := Tryz.zeroValue230
  t119 := Tryz.underlying252
  a119 := Tryz.isAgg252
  z119 := Tryz.sizeOf252
  t138 := Tryz.underlying254
  a138 := Tryz.isAgg254
  z138 := Tryz.sizeOf254
  v138 := Tryz.zeroValue254
  t139 := Tryz.underlying255
  a139 := Tryz.isAgg255
  z139 := Tryz.sizeOf255
  v139 := Tryz.zeroValue255
  t146 := Tryz.underlying200
  a146 := Tryz.isAgg200
  z146 := Tryz.sizeOf200
  v146 := Tryz.zeroValue200
  g1 := by kernel_rfl
  g3 := by kernel_rfl
  g4 := by kernel_rfl
  i0 := by kernel_rfl
  i3 := by kernel_rfl
  i4 := by kernel_rfl
  i5 := by kernel_rfl
  i9 := by kernel_rfl
  i21 := by kernel_rfl
  i31 := by kernel_rfl
  i46 := by kernel_rfl
  i51 := by kernel_rfl
  i105 := by kernel_rfl
  i138 := by kernel_rfl
  i139 := by kernel_rfl
  i146 := by kernel_rfl
  m1 := by kernel_rfl
  s1_3 := fun w h => Go.Proofs.cell_of_shapedOpen_int (zero := #[.int .i64 0]) (t := 3) h (of_decide_eq_true (by kernel_rfl)) (by kernel_rfl) rfl (by kernel_rfl) (by kernel_rfl) Tryz.underlying3
  m3 := by kernel_rfl
  m4 := by kernel_rfl }
theorem split_body : HasBody Tryz.prog (split_ren.f 146) := ⟨Tryz.f150, bodyOf Tryz.f150, Tryz.func150, by kernel_rfl, by kernel_rfl⟩
theorem split_gs : GSOK Tryz.prog 150 (.r (libS isSS (fun x => splitO (x.1) (x.2)) (gStrs (9)))) := split_spec split_lays split_body
end Go.Proofs.Y
namespace Go.Proofs.Y
open Go.Rb Go.Kx
noncomputable abbrev R_cut : GS := .r (libS [.v (.one .str) false, .v (.one .str) false] (fun x => cutO (x.1) (x.2)) gCut)
theorem R_cut_ok : GSOK Tryz.prog 122 R_cut := cut_gs
end Go.Proofs.Y
namespace Go.Proofs.Y
open Go.Rb Go.Kx
noncomputable abbrev R_split : GS := .r (libS [.v (.one .str) false, .v (.one .str) false] (fun x => splitO (x.1) (x.2)) (gStrs 9))
theorem R_split_ok : GSOK Tryz.prog 150 R_split := split_gs
end Go.Proofs.Y
namespace Go.Proofs.Y
open Go.Rb Go.Kx
noncomputable def C_note_words : Code := bodyOf Tryz.f119
noncomputable def G_note_words : FuncId → Option GS := tabG []
theorem g_note_words : ΓOK Tryz.prog G_note_words := ΓOK_nil
def H_note_words : HT := ⟨tabL [], tabH []⟩
abbrev is_note_words : List IT := []
abbrev os_note_words : List OT := [⟨.one (.sl 9 (.one .str)), false, []⟩]
set_option maxRecDepth 100000
noncomputable def F_note_words : Option (List (List UInt8)) :=  some [[], [98, 97, 116, 99, 104], [115, 101, 97, 108], [109, 101, 114, 103, 101], [100, 114, 111, 112]]
theorem F_note_words_eq (x : PI is_note_words) : F_note_words  = fnE T G_note_words H_note_words C_note_words (resOf Tryz.f119) is_note_words os_note_words x := by kernel_rfl
noncomputable abbrev R_note_words : GS := mkSpec false is_note_words os_note_words fun x => F_note_words 
theorem R_note_words_ok : GSOK Tryz.prog 119 R_note_words := spec_ok tok g_note_words fmo (Ht := H_note_words) (fn := Tryz.f119) (Tryz.func119) (c := C_note_words) (by kernel_rfl) (by kernel_rfl) (by kernel_rfl) (by decide +kernel) (by decide) F_note_words_eq
end Go.Proofs.Y
namespace Go.Proofs.Y
open Go.Rb Go.Kx
noncomputable def C_indexS : Code := bodyOf Tryz.f151
noncomputable def G_indexS : FuncId → Option GS := tabG []
theorem g_indexS : ΓOK Tryz.prog G_indexS := ΓOK_nil
def H_indexS : HT := ⟨tabL [(2, .it [] (dyn [.t 8 (.int .i64)]))], tabH []⟩
abbrev is_indexS : List IT := [.v (.one (.sl 9 (.one .str))) false, .v (.one .str) false]
abbrev os_indexS : List OT := [⟨.one (.int .i64), false, []⟩]
set_option maxRecDepth 100000
noncomputable def F_indexS : List (List UInt8) → List UInt8 → Option Int := fun (a : List (List UInt8)) (b : List UInt8) => loopN maxR (fun (x : Int) => ifB (ltI x (lenI a)) (bindO (atI a x) fun (y : List UInt8) => ifB (eqS b y) (mapO Sum.inr (some x)) (some (Sum.inl (wadd .i64 x 1)))) (mapO Sum.inr (some (-1)))) 0
theorem F_indexS_eq (x : PI is_indexS) : F_indexS (x.1) (x.2) = fnE T G_indexS H_indexS C_indexS (resOf Tryz.f151) is_indexS os_indexS x := by kernel_rfl
noncomputable abbrev R_indexS : GS := mkSpec false is_indexS os_indexS fun x => F_indexS (x.1) (x.2)
theorem R_indexS_ok : GSOK Tryz.prog 151 R_indexS := spec_ok tok g_indexS fmo (Ht := H_indexS) (fn := Tryz.f151) (Tryz.func151) (c := C_indexS) (by kernel_rfl) (by kernel_rfl) (by kernel_rfl) (by decide +kernel) (by decide) F_indexS_eq
end Go.Proofs.Y
namespace Go.Proofs.Y
open Go.Rb Go.Kx
noncomputable abbrev R_atoi : GS := .r (libS [.v (.one .str) false] (fun x => atoiO x) gErr)
theorem R_atoi_ok : GSOK Tryz.prog 152 R_atoi := atoi_gs
end Go.Proofs.Y
namespace Go.Proofs.Y
open Go.Rb Go.Kx
noncomputable abbrev R_itoa : GS := .r (libS [.v (.one (.int .i64)) false] (fun x => itoaO x) gStr)
theorem R_itoa_ok : GSOK Tryz.prog 120 R_itoa := itoa_gs
end Go.Proofs.Y
