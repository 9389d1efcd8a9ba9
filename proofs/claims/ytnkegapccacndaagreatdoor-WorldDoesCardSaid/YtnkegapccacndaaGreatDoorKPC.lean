/-
  What is proved, part by part: points of a series: what the program's functions come to, in plain words. points of a series packed, unpacked: what the program's and the document's functions come to, in plain words. points of a series unpacked: what the program's and the document's functions come to, in plain words. points of a series unpacked by the document's function, in plain words. blocks: what the program's and the document's functions come to, in plain words. all series, as plain functions: points of a row, what is wrong with a shelf. all series, read: what the program's and the document's functions come to, in plain words. ranges: what the program's function comes to, in plain words. sums and buckets, as plain functions. sums and buckets: what the program's and the document's functions come to, in plain words. buckets by the document's function, in plain words. QuerySays: what the law's body comes to is true. QueryEach: what the law's body comes to is true. buckets: all together are the sum of all; twice as wide they are two each; they rise. shelves changed, as plain functions: put, sealed, merged, dropped; they stay right, and their points are as they should be. the program's shelf functions that copy and change: what they come to, in plain words. the program's shelf functions seal, merge, put: what they come to, in plain words. the document's shelf functions, and likeness of shelves: what they come to, in plain words. records and their replay, as plain functions; the points are those of all batches. ShelfSays, ShelfSame, ShelfAll, ShelfLast: what the laws' bodies come to is true. records checked, made of shelves, replayed: what the program's and the document's functions come to, in plain words. what slices.Grow[[]api.Rec,api.Rec] comes to. what slices.Concat[[]api.Rec,api.Rec] comes to. what slices.Equal[[]api.Entry,api.Entry] comes to. what note.Same comes to. what slices.Clone[[]byte,byte] comes to. what slices.Grow[[]byte,byte] comes to. what slices.Concat[[]byte,byte] comes to. the layings of the functions of Go's library that the program reaches. strings.Cut of Go's library is known by its answer. strings.Split of Go's library is known by its answer. what note.words comes to. what slices.Index[[]string,string] comes to. strconv.Atoi of Go's library is known by its answer. strconv.Itoa of Go's library is known by its answer. Conditions: none.
-/
import Derived.Test.YtnkegapccacndaaGreatDoorKPA
import Derived.Test.YtnkegapccacndaaGreatDoorKPB
import Derived.Test.YtnkegapccacndaaGreatDoorKED
import Derived.Shelf.LaysM
import Derived.Shelf.LaysC
import Derived.Test.YtnkegapccacndaaGreatDoorProg
import Derived.KernelRfl
set_option linter.unusedVariables false
set_option linter.unusedSimpArgs false
set_option linter.unnecessarySimpa false
set_option maxRecDepth 4000
namespace Go.Proofs.Y
open Go.Rb Go.Kx
theorem zfq (l : List Pt) (hl : l.length < 4611686018427387904) : YR l = some (zZ l) := by
 unfold YR zZ
 rw [zy, zb]
 by_cases h40 : (40 : Int) < l.length
 ·rw [if_pos h40, if_pos (by omega)]
 ·rw [if_neg h40, if_neg (by omega)]
  refine yD (G := fun (i : Int) => some (chk (z7D l i.toNat) (l.drop i.toNat))) (P := fun i => 0 ≤ i ∧ i ≤ l.length) (μ := fun i => l.length - i.toNat) ?_ maxR 0 ⟨by omega, by omega⟩ (by unfold maxR; omega)
  rintro i ⟨h0, h1⟩ k hk
  obtain ⟨j, rfl⟩ : ∃ j : Nat, i = j := ⟨i.toNat, by omega⟩
  simp only [zB, zu, Z7, zd, Zx, zx, Z0, ZA, Zt, zi, Zy, zy, zP, zf, zj, zC, ZD, ZK, ZQ, zI, ZE, Zu, Zv, Zw, Zr, Za, zH, ZR, zz, Z2, Zc, Z3, Zz, ZS, Zs, z7, Z1, Zf, Zg, zb, ZL, zY, zU, Z6, ZT, Zi, zL, ZF, Int.toNat_natCast]
  by_cases hj : j < l.length
  ·have hw := zF (j := j) (by omega)
   have hn := hk ((j + 1 : Nat) : Int) ⟨by omega, by omega⟩ (by omega)
   rw [if_pos (by omega), zN hj, z7, hw, hn, zsU hj, Int.toNat_natCast]
   by_cases h0 : j = 0
   ·subst h0
    rw [if_neg (show ¬ (0 : Int) < ((0 : Nat) : Int) by omega)]
    have hl0 : z7D l 0 = -1 := rfl
    rw [hl0]
    repeat' split
    all_goals first | rfl | (exfalso; omega)
   ·have e1 : wsub .i64 (j : Int) 1 = ((j - 1 : Nat) : Int) := by rw [ZU ⟨by omega, by omega⟩]; omega
    have hl0 : z7D l j = (l.getD (j - 1) default).1 := by unfold z7D; rw [if_neg h0]
    rw [if_pos (show (0 : Int) < (j : Int) by omega), e1, zN (by omega), z7, hl0]
    repeat' split
    all_goals first | rfl | (exfalso; omega)
  ·rw [if_neg (by omega), List.drop_of_length_le (by omega)]
   rfl
theorem z8i (p : Pt) : zG p = some (chkP p) := by
 unfold zG chkP badP
 rw [ju, ju, z7, z7, zC, zC, zO, zO]
 by_cases h : p.1 < 0 ∨ p.1 > 100000 ∨ p.2 < -1000000 ∨ p.2 > 1000000
 ·rw [if_pos h]
  split
  ·rw [if_neg (by omega)]
  ·rfl
 ·rw [if_neg h, if_pos (by omega), if_pos (by omega)]
theorem zjo (l : List Pt) (hl : l.length < 4611686018427387904) : yj l = some (zZ l) := by
 unfold yj zZ
 rw [zy, zb]
 by_cases h40 : (40 : Int) < l.length
 ·rw [if_pos h40, if_pos (by omega)]
 ·rw [if_neg h40, if_neg (by omega)]
  refine zQ l (fun j (s : Int) => (s, (j : Int))) (G := fun rest s => some (chk s rest)) (P := fun _ _ => True) ?_ ?_ (s0 := -1) trivial (by omega)
  ·rintro j s hj _ k hk
   generalize hp : l.getD j default = p
   simp only [zB, zu, Z7, zd, Zx, zx, Z0, ZA, Zt, zi, Zy, zy, zP, zf, zj, zC, ZD, ZK, ZQ, zI, ZE, Zu, Zv, Zw, Zr, Za, zH, ZR, zz, Z2, Zc, Z3, Zz, ZS, Zs, z7, Z1, Zf, Zg, zb, ZL, zY, zU, Z6, ZT, Zi, zL, ZF]
   rw [if_pos (by omega), zN hj, z7, hp, zF (by omega), hk _ trivial, chk]
   have := zid p
   rw [show ((p.1, p.2) : Pt) = p from rfl, z8i, z7]
   unfold badP PtIn at this
   repeat' split
   all_goals first | rfl | (exfalso; omega) | (congr 1; omega)
  ·rintro s _ k
   simp only [zB, zu, Z7, zd, Zx, zx, Z0, ZA, Zt, zi, Zy, zy, zP, zf, zj, zC, ZD, ZK, ZQ, zI, ZE, Zu, Zv, Zw, Zr, Za, zH, ZR, zz, Z2, Zc, Z3, Zz, ZS, Zs, z7, Z1, Zf, Zg, zb, ZL, zY, zU, Z6, ZT, Zi, zL, ZF]
   rw [if_neg (by omega)]
   rfl
theorem zun (l : List Pt) (hl : l.length < 4611686018427387904) : z0C l = some (Jw l) := by
 unfold z0C Jw
 rw [zfq l hl, z7, zj]
 by_cases hc : zZ l = 0
 ·have hall := z9Y hc
  have hlen := Yv hc
  rw [if_pos hc, if_pos hc, ← z7F]
  refine zQ l (fun j (s : List Bool × Int × Int × Int) => (s.1, s.2.1, (j : Int), s.2.2.1, s.2.2.2)) (G := fun rest s => some (s.1 ++ YM (s.2.2.1, s.2.2.2) s.2.1 rest, (0 : Int))) (P := fun j s => PtIn (s.2.2.1, s.2.2.2) ∧ -100000 ≤ s.2.1 ∧ s.2.1 ≤ 100000 ∧ s.1.length ≤ 64 * j) ?_ ?_ (s0 := ([], 0, 0, 0)) ⟨z3t, by show (-100000 : Int) ≤ 0; omega, by show (0 : Int) ≤ 100000; omega, by simp⟩ (by omega)
  ·rintro j ⟨out, step, lt, lv⟩ hj ⟨h0, h1, h2, h3⟩ k hk
   have hp := hall _ (yi hj)
   have hat := zN hj
   generalize l.getD j default = p at *
   simp only at h0 h1 h2 h3
   unfold PtIn at h0 hp
   simp only at h0
   simp only [zB, zu, Z7, zd, Zx, zx, Z0, ZA, Zt, zi, Zy, zy, zP, zf, zj, zC, ZD, ZK, ZQ, zI, ZE, Zu, Zv, Zw, Zr, Za, zH, ZR, zz, Z2, Zc, Z3, Zz, ZS, Zs, z7, Z1, Zf, Zg, zb, ZL, zY, zU, Z6, ZT, Zi, zL, ZF]
   rw [if_pos (by omega), hat, z7, ZU (a := p.1) (b := lt) ⟨by omega, by omega⟩, ZU (a := p.1 - lt) (b := step) ⟨by omega, by omega⟩, ZU (a := p.2) (b := lv) ⟨by omega, by omega⟩, zF (by omega)]
   rw [zoZ _ _ (by omega), z3s ⟨by omega, by omega⟩, z7]
   have hz1 := z3q 8 (ZG (p.1 - lt - step))
   have hz2 := z3q 8 (ZG (p.2 - lv))
   rw [zoZ _ _ (by simp only [List.length_append]; omega), z3s ⟨by omega, by omega⟩, z7]
   rw [hk (_, _, _, _) ⟨by unfold PtIn; exact hp, by show -100000 ≤ p.1 - lt; omega, by show p.1 - lt ≤ 100000; omega, by simp only [List.length_append]; omega⟩]
   simp only [YM, vg, List.append_assoc]
  ·rintro s _ k
   simp only [zB, zu, Z7, zd, Zx, zx, Z0, ZA, Zt, zi, Zy, zy, zP, zf, zj, zC, ZD, ZK, ZQ, zI, ZE, Zu, Zv, Zw, Zr, Za, zH, ZR, zz, Z2, Zc, Z3, Zz, ZS, Zs, z7, Z1, Zf, Zg, zb, ZL, zY, zU, Z6, ZT, Zi, zL, ZF]
   rw [if_neg (by omega)]
   simp [YM]
 ·rw [if_neg hc, if_neg hc]
end Go.Proofs.Y
namespace Go.Proofs.Y
open Go.Rb Go.Kx
theorem zrl (l : List Pt) (hl : l.length < 4611686018427387904) : Y6 l = some (Jw l) := by
 unfold Y6 Jw
 rw [zjo l hl, z7, zj]
 by_cases hc : zZ l = 0
 ·have hlen := Yv hc
  rw [if_pos hc, if_pos hc]
  refine zQ l (fun j (s : List Bool) => (s, (j : Int))) (G := fun _ _ => some (Yh l l.length, (0 : Int))) (P := fun j s => s = Yh l j) ?_ ?_ (s0 := []) (by simp [Yh]) (by omega)
  ·rintro j s hj rfl k hk
   obtain ⟨hp, hq, hst, hst'⟩ := ztK hc hj
   have hsec := second (l := l) (i := j)
   have hat := zN hj
   have hpl := zgL l j
   have hnx := hk _ (z8g l j).symm
   have hpk : ∀ i, i < l.length → PtIn (l.getD i default) := fun i hi => (ztK hc hi).1
   have two : ∀ v w : Int, v = (l.getD j default).1 - (YF l j).1 - vI l j → w = (l.getD j default).2 - (YF l j).2 →
     (z6 (Z4 (Yh l j) v) fun (y_4 : List Bool × Int) => z6 (Z4 (Prod.fst y_4) w) fun (y : List Bool × Int) => k (Prod.fst y, ((j + 1 : Nat) : Int))) = some (Yh l l.length, 0) := by
    rintro v w rfl rfl
    unfold PtIn at hp hq
    have hz1 := z3q 8 (ZG ((l.getD j default).1 - (YF l j).1 - vI l j))
    rw [zmm _ _ (by omega), z3s ⟨by omega, by omega⟩, z7, zmm _ _ (by simp only [List.length_append]; omega), z3s ⟨by omega, by omega⟩, z7]
    rw [← hnx]
    unfold vg
    rw [← List.append_assoc]
   simp only [zB, zu, Z7, zd, Zx, zx, Z0, ZA, Zt, zi, Zy, zy, zP, zf, zj, zC, ZD, ZK, ZQ, zI, ZE, Zu, Zv, Zw, Zr, Za, zH, ZR, zz, Z2, Zc, Z3, Zz, ZS, Zs, z7, Z1, Zf, Zg, zb, ZL, zY, zU, Z6, ZT, Zi, zL, ZF]
   rw [if_pos (by omega), hat, z7, zF (by omega)]
   have e0 : ∀ a b : Int, -100000000 ≤ a → a ≤ 100000000 → -100000000 ≤ b → b ≤ 100000000 → wsub .i64 a b = a - b := fun a b _ _ _ _ => ZU ⟨by omega, by omega⟩
   have e1 : ∀ a b : Int, -100000000 ≤ a → a ≤ 100000000 → -100000000 ≤ b → b ≤ 100000000 → wadd .i64 a b = a + b := fun a b _ _ _ _ => ZM ⟨by omega, by omega⟩
   have e2 : ∀ b : Int, -100000000 ≤ b → b ≤ 100000000 → wmul .i64 2 b = 2 * b := fun b _ _ => vr ⟨by omega, by omega⟩
   unfold PtIn at hp hpk
   by_cases h0 : j = 0
   ·rw [if_neg (by omega), if_neg (by omega)]
    obtain ⟨s1, s2, s3⟩ := hsec.1 h0
    exact two _ _ (by omega) (by omega)
   ·have h1 := hpk (j - 1) (by omega)
    have w1 : wsub .i64 (j : Int) 1 = ((j - 1 : Nat) : Int) := by rw [ZU ⟨by omega, by omega⟩]; omega
    have s1 := hsec.2.1 (by omega)
    rw [if_pos (by omega), w1, zN (by omega), z7, z7]
    by_cases h2 : j = 1
    ·rw [if_neg (by omega)]
     have s2 := hsec.2.2.1 h2
     refine two _ _ ?_ ?_
     ·rw [e2 _ (by omega) (by omega), e0 _ _ (by omega) (by omega) (by omega) (by omega), s2, s1]; omega
     ·rw [e0 _ _ (by omega) (by omega) (by omega) (by omega), s1]
    ·have h3 := hpk (j - 2) (by omega)
     have w2 : wsub .i64 (j : Int) 2 = ((j - 2 : Nat) : Int) := by rw [ZU ⟨by omega, by omega⟩]; omega
     have s2 := hsec.2.2.2 (by omega)
     rw [if_pos (by omega), w2, zN (by omega), z7]
     refine two _ _ ?_ ?_
     ·rw [e2 _ (by omega) (by omega), e0 _ _ (by omega) (by omega) (by omega) (by omega), e1 _ _ (by omega) (by omega) (by omega) (by omega), s2, s1]; omega
     ·rw [e0 _ _ (by omega) (by omega) (by omega) (by omega), s1]
  ·rintro s rfl k
   simp only [zB, zu, Z7, zd, Zx, zx, Z0, ZA, Zt, zi, Zy, zy, zP, zf, zj, zC, ZD, ZK, ZQ, zI, ZE, Zu, Zv, Zw, Zr, Za, zH, ZR, zz, Z2, Zc, Z3, Zz, ZS, Zs, z7, Z1, Zf, Zg, zb, ZL, zY, zU, Z6, ZT, Zi, zL, ZF]
   rw [if_neg (by omega)]
 ·rw [if_neg hc, if_neg hc]
end Go.Proofs.Y
namespace Go.Proofs.Y
open Go.Rb Go.Kx
theorem zrm {k : Nat} {last : Pt} {step : Int} {b : List Bool} (h : vh k last (nxt last step b) = 0) : PtIn (nxt last step b) := by
 rcases z9Z k last (nxt last step b) with ⟨_, h1⟩ | ⟨_, _, _, h1⟩ | ⟨h1, _⟩
 ·rw [h1] at h; cases h
 ·rw [h1] at h; cases h
 ·exact h1
theorem zrn (a : List Bool) (n : Int) (ha : a.length ≤ 140737488355200) : VS a n = some (ZV a n) := by
 unfold VS ZV
 rw [zi, zy]
 by_cases h0 : n < 0
 ·rw [if_pos h0, if_pos (.inl h0)]
 by_cases h1 : 40 < n
 ·rw [if_neg h0, if_pos h1, if_pos (.inr h1)]
 rw [if_neg h0, if_neg h1, if_neg (show ¬ (n < 0 ∨ n > 40) by omega)]
 refine (yD (G := fun (x : List Bool × Int × Int × Int × Int × List Pt) => some (unpk (n - x.2.2.1).toNat x.2.2.1.toNat (x.2.2.2.1, x.2.2.2.2.1) x.2.1 x.2.2.2.2.2 x.1))
  (P := fun (x : List Bool × Int × Int × Int × Int × List Pt) => 0 ≤ x.2.2.1 ∧ x.2.2.1 ≤ n ∧ PtIn (x.2.2.2.1, x.2.2.2.2.1) ∧ -100000 ≤ x.2.1 ∧ x.2.1 ≤ 100000 ∧ x.2.2.2.2.2.length = x.2.2.1.toNat ∧ (0 < x.2.2.1 → x.2.2.2.2.2.getD (x.2.2.1.toNat - 1) default = (x.2.2.2.1, x.2.2.2.2.1)) ∧ x.1.length ≤ 140737488355200)
  (μ := fun x => (n - x.2.2.1).toNat) ?_ maxR (a, 0, 0, 0, 0, []) ⟨Int.le_refl 0, by show 0 ≤ n; omega, z3t, by show (-100000 : Int) ≤ 0; omega, by show (0 : Int) ≤ 100000; omega, rfl, fun h => absurd h (Int.lt_irrefl 0), ha⟩ (by show (n - 0).toNat < maxR; unfold maxR; omega)).trans (by simp)
 rintro ⟨b, step, i, lt, lv, out⟩ ⟨g0, g1, g2, g3, g4, g5, g6, g7⟩ K hk
 simp only at g0 g1 g2 g3 g4 g5 g6 g7
 obtain ⟨k, rfl⟩ : ∃ k : Nat, i = k := ⟨i.toNat, by omega⟩
 simp only [Int.toNat_natCast] at g5 g6 ⊢
 rw [za, zi]
 by_cases hi : (k : Int) < n
 ·obtain ⟨f, hf⟩ : ∃ f, (n - (k : Int)).toNat = f + 1 := ⟨(n - (k : Int)).toNat - 1, by omega⟩
  have hzi := z7E b
  rw [if_pos hi, hf, zml b (by omega), z7, za, zd, zj]
  by_cases hz : (zw b).2.2 = 0
  ·obtain ⟨hz1, hz2⟩ := z7C hz
   have hzj := z7E (Zd b)
   rw [if_pos hz, za, zB, zI, if_pos ⟨hz1, hz2⟩, Z6]
   rw [show b.drop (zw b).2.1.toNat = Zd b from rfl]
   have hbl := zcs b
   rw [zml (Zd b) (by omega), z7, za, zd, zj]
   by_cases hy : (zw (Zd b)).2.2 = 0
   ·obtain ⟨hy1, hy2⟩ := z7C hy
    have hbl1 : (Zd b).length = b.length - (zw b).2.1.toNat := by unfold Zd; rw [List.length_drop]
    have hs : wadd .i64 (zw b).2.1 (zw (Zd b)).2.1 = (zw b).2.1 + (zw (Zd b)).2.1 := ZM ⟨by omega, by omega⟩
    unfold PtIn at g2
    simp only at g2
    have hP : (wadd .i64 (wadd .i64 lt step) (zw b).1, wadd .i64 lv (zw (Zd b)).1) = nxt (lt, lv) step b := by
     rw [ZM (a := lt) ⟨by omega, by omega⟩, ZM ⟨by omega, by omega⟩, ZM ⟨by omega, by omega⟩]; rfl
    have hp1 : wadd .i64 (wadd .i64 lt step) (zw b).1 = (nxt (lt, lv) step b).1 := congrArg Prod.fst hP
    have hp2 : wadd .i64 lv (zw (Zd b)).1 = (nxt (lt, lv) step b).2 := congrArg Prod.snd hP
    simp only [hs, hp1, hp2]
    generalize hp : nxt (lt, lv) step b = p at *
    have hm : maxI 0 (wsub .i64 (lenI out) 1) = ((k - 1 : Nat) : Int) := by
     rw [zb, g5, ZU ⟨by omega, by omega⟩]
     show max (0 : Int) (k - 1) = _
     omega
    have hsub : subN out (k - 1) (subI ((k - 1 : Nat) : Int) (lenI out)) = out.drop (out.length - 1) := by
     have : (out.drop (k - 1)).length ≤ (lenI out).toNat - ((k - 1 : Nat) : Int).toNat := by rw [List.length_drop, zb]; omega
     unfold subN subI
     rw [List.take_of_length_le this, g5]
    have hck := zrh (acc := out) (last := (lt, lv)) (p := p) (k := k) g5 (by unfold PtIn; exact g2) (fun h => g6 (by omega))
    have hdl : (out.drop (out.length - 1)).length ≤ 1 := by rw [List.length_drop]; omega
    rw [if_pos hy, za, zB, zI, if_pos ⟨by omega, by omega⟩]
    rw [hm, zL, Int.toNat_natCast, hsub]
    rw [za, zB, ZD, ZE, if_pos ⟨by omega, by rw [zb, g5]; omega, by rw [zb]; omega⟩, zf, if_pos rfl]
    rw [za, zB, ZD, Za, if_pos (by unfold subI; rw [zb]; omega), zz, if_pos (by simp only [List.length_cons, List.length_nil]; omega)]
    rw [za, zB, Zs, if_neg (by unfold subI capN; rw [zb, ZL]; simp only [List.length_cons, List.length_nil, reduceCtorEq, false_or]; omega)]
    rw [zY, zfq _ (by simp only [List.length_append, List.length_cons, List.length_nil]; omega), zx, z7, show ((p.1, p.2) : Pt) = p from rfl, hck, za, zd, zj]
    by_cases hst : vh k (lt, lv) p = 0
    ·have hpin : PtIn p := by rw [← hp]; exact zrm (by rw [hp]; exact hst)
     unfold PtIn at hpin
     rw [if_pos hst, za, zB, zu, zz, if_pos (by simp only [List.length_cons, List.length_nil]; omega), Z6, zsV hz hy, ZU ⟨by omega, by omega⟩, zF (by omega), zY]
     have hb2 := zjl b
     rw [hk _ ⟨by show (0 : Int) ≤ ((k + 1 : Nat) : Int); omega, by show ((k + 1 : Nat) : Int) ≤ n; omega, by show PtIn (p.1, p.2); unfold PtIn; exact hpin, by show -100000 ≤ p.1 - lt; omega, by show p.1 - lt ≤ 100000; omega, by show (out ++ [p]).length = ((k + 1 : Nat) : Int).toNat; simp only [List.length_append, List.length_cons, List.length_nil]; omega, fun _ => by
       show (out ++ [p]).getD (((k + 1 : Nat) : Int).toNat - 1) default = p
       rw [Int.toNat_natCast, Nat.add_sub_cancel, ← g5]; simp [List.getD], by show (z3I b).length ≤ _; omega⟩ (by show (n - ((k + 1 : Nat) : Int)).toNat < (n - (k : Int)).toNat; omega)]
     simp only [Int.toNat_natCast]
     rw [show (n - ((k + 1 : Nat) : Int)).toNat = f by omega, un_d (f := f + 1) (by omega) hz hy (by rw [hp]; exact hst), hp]
     rfl
    ·rw [if_neg hst, un_c (f := f + 1) (by omega) hz hy (by rw [hp]; exact hst), hp]
   ·rw [if_neg hy, un_b (f := f + 1) (by omega) hz hy]
  ·rw [if_neg hz, un_a (f := f + 1) (by omega) hz]
 ·have hkn : (n - (k : Int)).toNat = 0 := by omega
  rw [if_neg hi, zd, hkn, zy, zb]
  by_cases hb : (0 : Int) < b.length
  ·rw [if_pos hb, un_e (by omega)]
  ·rw [if_neg hb, un_f (by omega)]
end Go.Proofs.Y
namespace Go.Proofs.Y
open Go.Rb Go.Kx
theorem ztk (b : List Bool) : YS b = ((zw b).1, (if (zw b).2.2 = 0 then Zd b else []), (zw b).2.2) := rfl
theorem znZ (a : List Bool) (n : Int) (ha : a.length ≤ 140737488355200) : yK a n = some (ZV a n) := by
 unfold yK ZV
 rw [ju, z7, zC, zO]
 by_cases h0 : 0 ≤ n ∧ n ≤ 40
 ·rw [if_pos h0, if_neg (show ¬ (n < 0 ∨ n > 40) by omega)]
  refine (yD (G := fun (x : List Bool × Int × List Pt) => some (unpk (n - x.2.1).toNat x.2.1.toNat (x.2.2.getD (x.2.1.toNat + 1) default) ((x.2.2.getD (x.2.1.toNat + 1) default).1 - (x.2.2.getD x.2.1.toNat default).1) (x.2.2.drop 2) x.1))
   (P := fun (x : List Bool × Int × List Pt) => 0 ≤ x.2.1 ∧ x.2.1 ≤ n ∧ x.2.2.length = x.2.1.toNat + 2 ∧ PtIn (x.2.2.getD (x.2.1.toNat + 1) default) ∧ PtIn (x.2.2.getD x.2.1.toNat default) ∧ x.1.length ≤ 140737488355200)
   (μ := fun x => (n - x.2.1).toNat) ?_ maxR (a, 0, [(0, 0), (0, 0)]) ⟨Int.le_refl 0, by show 0 ≤ n; omega, rfl, z3t, z3t, ha⟩ (by show (n - 0).toNat < maxR; unfold maxR; omega)).trans (by simp)
  rintro ⟨b, i, out⟩ ⟨g0, g1, g2, g3, g4, g5⟩ K hk
  simp only at g0 g1 g2 g3 g4 g5
  obtain ⟨k, rfl⟩ : ∃ k : Nat, i = k := ⟨i.toNat, by omega⟩
  simp only [Int.toNat_natCast] at g2 g3 g4 ⊢
  rw [za, zi]
  by_cases hi : (k : Int) < n
  ·obtain ⟨f, hf⟩ : ∃ f, (n - (k : Int)).toNat = f + 1 := ⟨(n - (k : Int)).toNat - 1, by omega⟩
   have hzi := z7E b
   have hw1 : wadd .i64 (k : Int) 1 = ((k + 1 : Nat) : Int) := zF (by omega)
   rw [if_pos hi, hf, zgO b (by omega), ztk, z7, za, zd, zj]
   by_cases hz : (zw b).2.2 = 0
   ·have hzj := z7E (Zd b)
    have hbl := zcs b
    simp only [if_pos hz]
    rw [zgO (Zd b) (by omega), ztk, z7, za, zd, zj]
    by_cases hy : (zw (Zd b)).2.2 = 0
    ·simp only [if_pos hy]
     rw [za, zB, zH, if_pos ⟨by omega, by omega⟩, zL, Int.toNat_natCast, yw (by omega), z7]
     rw [za, zB, hw1, zH, if_pos ⟨by omega, by omega⟩, zL, Int.toNat_natCast, yw (by omega), z7]
     generalize hX : out.getD k default = X at *
     generalize hY : out.getD (k + 1) default = Y at *
     unfold PtIn at g3 g4
     have hP : (wadd .i64 (wsub .i64 (wmul .i64 2 Y.1) X.1) (zw b).1, wadd .i64 Y.2 (zw (Zd b)).1) = nxt Y (Y.1 - X.1) b := by
      rw [vr (a := 2) (b := Y.1) ⟨by omega, by omega⟩, ZU ⟨by omega, by omega⟩, ZM (a := 2 * Y.1 - X.1) ⟨by omega, by omega⟩, ZM ⟨by omega, by omega⟩]
      show _ = ((Y.1 + (Y.1 - X.1) + (zw b).1, Y.2 + (zw (b.drop (zw b).2.1.toNat)).1) : Int × Int)
      rw [show 2 * Y.1 - X.1 + (zw b).1 = Y.1 + (Y.1 - X.1) + (zw b).1 by omega]; rfl
     have hp1 : wadd .i64 (wsub .i64 (wmul .i64 2 Y.1) X.1) (zw b).1 = (nxt Y (Y.1 - X.1) b).1 := congrArg Prod.fst hP
     have hp2 : wadd .i64 Y.2 (zw (Zd b)).1 = (nxt Y (Y.1 - X.1) b).2 := congrArg Prod.snd hP
     simp only [hp1, hp2]
     generalize hp : nxt Y (Y.1 - X.1) b = p at *
     rw [show ((p.1, p.2) : Pt) = p from rfl, z8i, zx, z7, za, zd, zj]
     have hor := z9Z k Y p
     have hco := zid p
     have bad : ∀ e, vh k Y p = e → ¬ e = 0 → some (([] : List Pt), e) = some (unpk (f + 1) k Y (Y.1 - X.1) (out.drop 2) b) := by
      rintro e rfl he
      rw [un_c (f := f + 1) (by omega) hz hy (by rw [hp]; exact he), hp]
     have good : vh k Y p = 0 → yJ (ifB (zh 16 out [p]) (some (Sum.inl (Zd (Zd b), ((k + 1 : Nat) : Int), cat out [p]))) none) K = some (unpk (f + 1) k Y (Y.1 - X.1) (out.drop 2) b) := by
      intro hst
      have hpin : PtIn p := by rw [← hp]; exact zrm (by rw [hp]; exact hst)
      have hb2 := zjl b
      have hg1 : (out ++ [p]).getD (k + 1 + 1) default = p := by rw [← g2]; simp [List.getD]
      have hg2 : (out ++ [p]).getD (k + 1) default = Y := by rw [← hY]; simp [List.getD, List.getElem?_append_left (show k + 1 < out.length by omega)]
      rw [zz, if_pos (by simp only [List.length_cons, List.length_nil]; omega), zu, zY]
      rw [hk _ ⟨by show (0 : Int) ≤ ((k + 1 : Nat) : Int); omega, by show ((k + 1 : Nat) : Int) ≤ n; omega, by show (out ++ [p]).length = ((k + 1 : Nat) : Int).toNat + 2; simp only [List.length_append, List.length_cons, List.length_nil]; omega,
       by show PtIn ((out ++ [p]).getD (((k + 1 : Nat) : Int).toNat + 1) default); rw [Int.toNat_natCast, hg1]; exact hpin, by show PtIn ((out ++ [p]).getD ((k + 1 : Nat) : Int).toNat default); rw [Int.toNat_natCast, hg2]; unfold PtIn; exact g3, by show (z3I b).length ≤ _; omega⟩ (by show (n - ((k + 1 : Nat) : Int)).toNat < (n - (k : Int)).toNat; omega)]
      simp only [Int.toNat_natCast, hg1, hg2]
      rw [show (n - ((k + 1 : Nat) : Int)).toNat = f by omega, un_d (f := f + 1) (by omega) hz hy (by rw [hp]; exact hst), hp, List.drop_append_of_le_length (by omega)]
      rfl
     have hb11 : Zd (Zd b) = Zd (Zd b) := rfl
     rcases hor with ⟨k1, k2⟩ | ⟨k1, k2, k3, k4⟩ | ⟨k1, k2, k3⟩
     ·rcases hco with ⟨_, c2⟩ | ⟨c1, _⟩
      ·rw [c2, if_neg (by decide)]; exact bad _ k2 (by decide)
      ·exfalso; unfold badP at k1; unfold PtIn at c1; omega
     ·rcases hco with ⟨c1, _⟩ | ⟨_, c2⟩
      ·exfalso; unfold badP at c1; unfold PtIn at k1; omega
      ·rw [c2, if_pos rfl, za, zy, if_pos (by omega), za, zd, Zy, if_pos k3]
       exact bad _ k4 (by decide)
     ·rcases hco with ⟨c1, _⟩ | ⟨_, c2⟩
      ·exfalso; unfold badP at c1; unfold PtIn at k1; omega
      ·rw [c2, if_pos rfl, za, zy]
       by_cases hk0 : 0 < k
       ·rw [if_pos (by omega), za, zd, Zy, if_neg (by omega)]
        exact good k3
       ·rw [if_neg (by omega)]
        exact good k3
    ·rw [if_neg hy, un_b (f := f + 1) (by omega) hz hy]
   ·rw [if_neg hz, un_a (f := f + 1) (by omega) hz]
  ·have hkn : (n - (k : Int)).toNat = 0 := by omega
   rw [if_neg hi, zd, hkn, zy, zb]
   by_cases hb : (0 : Int) < b.length
   ·rw [if_pos hb, un_e (by omega)]
   ·have hsub : subN out (addN 0 (natI 2)) (Zh (lenN out) 2) = out.drop 2 := by
     have : (out.drop 2).length ≤ out.length - 2 := by rw [List.length_drop]; omega
     exact List.take_of_length_le this
    rw [if_neg hb, un_f (by omega), zI, if_pos ⟨by omega, by omega⟩, Za, if_pos (by show 0 + 2 + (out.length - 2) ≤ out.length; omega), hsub]
 ·rw [if_neg h0, if_pos (by omega)]
end Go.Proofs.Y
namespace Go.Proofs.Y
open Go.Rb Go.Kx
theorem z1u {a : List Pt} (h : a.length ≤ 8796093022208) : Zq a = some a := z1s 16 a (by omega) (by omega)
theorem zuo (x y : Pt) : eqL [x.1, x.2] [y.1, y.2] = decide (x = y) := by
 obtain ⟨a, b⟩ := x; obtain ⟨c, d⟩ := y
 unfold eqL; exact decide_eq_decide.2 (by simp)
theorem zcx {a b : List Pt} (h : a.length < 4611686018427387904) : z3m a b = some (decide (a = b))  := by
 have h9 := z3Z (α := Int × Int) (fun x y => eqL [x.1, x.2] [y.1, y.2]) zuo a b h
 exact h9
theorem zq0 {a : List (List Pt)} (h : a.length < 4611686018427387904) (h2 : a.flatten.length ≤ 8796093022208) : z7r a = some a.flatten := by
 have h3 : a.flatten.length * 16 ≤ 140737488355328 := by omega
 have h9 := z5d (α := Int × Int) 16 (0, 0) a h (by decide) h3 (by decide)
 exact h9
theorem zdK {l : List Pt} (h0 : 0 < l.length) (h : l.length < 4611686018427387904) : wsub .i64 (lenI l) 1 = ((l.length - 1 : Nat) : Int) := by rw [zb, ZU ⟨by omega, by omega⟩]; omega
theorem at0 {l : List Pt} (h0 : 0 < l.length) : atI l 0 = some (l.getD 0 default) := zN (j := 0) h0
theorem zp1 (l : List Pt) (hl : l.length < 4611686018427387904) : Y7 l = some (VH l) := by
 unfold Y7 VH
 rw [zun l hl, z7, zj, zf, zb]
 by_cases h : (Jw l).2 = 0
 ·rw [if_pos h, if_neg (not_not_intro h)]
  by_cases h0 : l.length = 0
  ·rw [if_pos (by omega), if_pos h0]; rfl
  ·rw [if_neg (by omega), if_neg h0, at0 (by omega), z7, ← zb, zdK (by omega) hl, zN (by omega), z7]
 ·rw [if_neg h, if_pos h]; rfl
theorem zgP (l : List Pt) (hl : l.length < 4611686018427387904) : yI l = some (VH l) := by
 unfold yI VH
 rw [zrl l hl, z7]
 simp only [zj, zf, zb]
 by_cases h : (Jw l).2 = 0
 ·rw [if_pos h, if_neg (not_not_intro h)]
  by_cases h0 : l.length = 0
  ·rw [if_pos (by omega), if_pos h0]; rfl
  ·rw [if_neg (by omega), if_neg h0, if_pos h, at0 (by omega), z7, ← zb, zdK (by omega) hl, zN (by omega), z7]
 ·rw [if_neg h, if_pos h, if_neg h]; rfl
theorem zcy (x : Bk) (hx : x.2.2.2.length ≤ 140737488355200) : YJ x = some (ptsR x) := by
 unfold YJ ptsR
 have hl := z8h x.2.2.2 x.1
 rw [zrn _ _ hx, z7]
 generalize ZV x.2.2.2 x.1 = u at *
 simp only [zj, zf, zb]
 by_cases h : u.2 = 0
 ·rw [if_pos h, if_neg (not_not_intro h)]
  by_cases h0 : u.1.length = 0
  ·rw [if_pos (by omega), if_pos (.inl h0)]
  ·rw [if_neg (by omega), at0 (by omega), z7, ← zb, zdK (by omega) (by omega), zN (by omega), z7]
   by_cases h1 : (u.1.getD 0 default).1 = x.2.1
   ·rw [if_pos h1]
    by_cases h2 : (u.1.getD (u.1.length - 1) default).1 = x.2.2.1
    ·rw [if_pos h2, if_neg (by simp only [h0, h1, h2, not_true_eq_false, or_self, not_false_eq_true])]
    ·rw [if_neg h2, if_pos (.inr (.inr h2))]
   ·rw [if_neg h1, if_pos (.inr (.inl h1))]
 ·rw [if_neg h, if_pos h]
theorem z8j (x : Bk) (hx : x.2.2.2.length ≤ 140737488355200) : yh x = some (ptsR x) := by
 unfold yh ptsR
 have hl := z8h x.2.2.2 x.1
 rw [znZ _ _ hx, z7]
 generalize ZV x.2.2.2 x.1 = u at *
 simp only [zj, zf, zb]
 by_cases h : u.2 = 0
 ·rw [if_pos h, if_neg (not_not_intro h)]
  by_cases h0 : u.1.length = 0
  ·rw [if_pos (by omega), if_pos (.inl h0)]
  ·rw [if_neg (by omega), at0 (by omega), z7, ← zb, zdK (by omega) (by omega), zN (by omega), z7]
   by_cases h1 : (u.1.getD 0 default).1 = x.2.1
   ·rw [if_pos h1.symm]
    by_cases h2 : (u.1.getD (u.1.length - 1) default).1 = x.2.2.1
    ·rw [if_pos h2.symm, if_pos h, if_neg (by simp only [h0, h1, h2, not_true_eq_false, or_self, not_false_eq_true])]
    ·rw [if_neg (fun e => h2 e.symm), if_pos (.inr (.inr h2))]
   ·rw [if_neg (fun e => h1 e.symm), if_pos (.inr (.inl h1))]
 ·rw [if_neg h, if_pos h, if_neg h]
theorem zsY (x y : Bk) (hx : x.2.2.2.length ≤ 140737488355200) (hy : y.2.2.2.length ≤ 140737488355200) : Yd x y = some (YH x y) := by
 unfold Yd YH
 have hlx := z3u x
 have hly := z3u y
 rw [show ((x.1, x.2.1, x.2.2.1, x.2.2.2) : Bk) = x from rfl, show ((y.1, y.2.1, y.2.2.1, y.2.2.2) : Bk) = y from rfl, zcy x hx, zcy y hy, z7, z7, zj, zj]
 by_cases h : (ptsR x).2 = 0
 ·rw [if_pos h, if_neg (not_not_intro h)]
  by_cases h1 : (ptsR y).2 = 0
  ·rw [if_pos h1, if_neg (not_not_intro h1), zq0 (by simp) (by rw [z3l, List.length_append]; omega), z3l, z7, zp1 _ (by rw [List.length_append]; omega), z7]
  ·rw [if_neg h1, if_pos h1]; rfl
 ·rw [if_neg h, if_pos h]; rfl
theorem zro (x y : Bk) (hx : x.2.2.2.length ≤ 140737488355200) (hy : y.2.2.2.length ≤ 140737488355200) : Yu x y = some (YH x y) := by
 unfold Yu YH
 have hlx := z3u x
 have hly := z3u y
 rw [show ((x.1, x.2.1, x.2.2.1, x.2.2.2) : Bk) = x from rfl, show ((y.1, y.2.1, y.2.2.1, y.2.2.2) : Bk) = y from rfl, z8j x hx, z8j y hy, z7, z7, zj, zj]
 by_cases h : (ptsR x).2 = 0
 ·rw [if_pos h, if_neg (not_not_intro h)]
  by_cases h1 : (ptsR y).2 = 0
  ·rw [if_pos h1, if_neg (not_not_intro h1), z1u (by omega), z7, zz, if_pos (by omega), zY, zgP _ (by rw [List.length_append]; omega), z7]
  ·rw [if_neg h1, if_pos h1]; rfl
 ·rw [if_neg h, if_pos h]; rfl
theorem zup (x : Bk) (hx : x.2.2.2.length ≤ 140737488355200) : zS x = some x := by
 unfold zS
 rw [zcw (by omega), z7]
theorem zuq (x y : Bk) (hx : x.2.2.2.length ≤ 140737488355200) : jW x y = some (decide (x = y)) := by
 unfold jW
 rw [zjn (by omega), z7]
 obtain ⟨a, b, c, d⟩ := x; obtain ⟨a', b', c', d'⟩ := y
 simp only [zf]
 by_cases h1 : a = a' <;> by_cases h2 : b = b' <;> by_cases h3 : c = c' <;> simp [h1, h2, h3]
theorem zmn (x y : Bk) (hx : x.2.2.2.length ≤ 140737488355200) : yX x y = some (decide (x = y)) := by
 unfold yX
 rw [zjn (by omega), z7]
 obtain ⟨a, b, c, d⟩ := x; obtain ⟨a', b', c', d'⟩ := y
 simp only [zf]
 by_cases h1 : a = a' <;> by_cases h2 : b = b' <;> by_cases h3 : c = c' <;> simp [h1, h2, h3]
end Go.Proofs.Y
namespace Go.Rb
def rp : List Bk → List Pt → List Pt × Int
 | [], acc => (acc, 0)
 | b :: r, acc => if (ptsR b).2 = 0 then rp r (acc ++ (ptsR b).1) else ([], (ptsR b).2)
def allR (r : Rowd) : List Pt × Int := if r.1.length > 8 then ([], 2) else if (rp r.1 []).2 = 0 then ((rp r.1 []).1 ++ r.2, zZ ((rp r.1 []).1 ++ r.2)) else ([], (rp r.1 []).2)
def z5f : List Rowd → Int
 | [] => 0
 | r :: rs => if (allR r).2 = 0 then z5f rs else (allR r).2
def chkS (s : Shf) : Int := if s.length = 4 then z5f s else 4
def allS (s : Shf) (i : Int) : List Pt × Int := if chkS s = 0 then (if i < 0 ∨ (s.length : Int) ≤ i then ([], 5) else allR (s.getD i.toNat default)) else ([], chkS s)
def okB (b : Bk) : Prop := b.2.2.2.length ≤ 140737488355200
def okR (r : Rowd) : Prop := (∀ b ∈ r.1, okB b) ∧ r.1.length < 4611686018427387904 ∧ r.2.length ≤ 8796093022100
def okS (s : Shf) : Prop := s.length < 4611686018427387904 ∧ ∀ r ∈ s, okR r
theorem zgQ : ∀ {s : List Rowd}, z5f s = 0 ↔ ∀ r ∈ s, (allR r).2 = 0
 | [] => by simp [z5f]
 | r :: s => by
  rw [z5f]
  split
  ·rename_i h; rw [zgQ]; simp [h]
  ·rename_i h; simp [h]
theorem chkS_zero {s : Shf} : chkS s = 0 ↔ s.length = 4 ∧ ∀ r ∈ s, (allR r).2 = 0 := by
 unfold chkS
 split
 ·rename_i h; rw [zgQ]; simp [h]
 ·rename_i h; simp [h]
theorem zp2 {r : Rowd} (h : (allR r).2 = 0) : r.1.length ≤ 8 ∧ (rp r.1 []).2 = 0 ∧ (allR r).1 = (rp r.1 []).1 ++ r.2 ∧ zZ ((rp r.1 []).1 ++ r.2) = 0 := by
 unfold allR at h ⊢
 split at h
 ·cases h
 ·rename_i h8
  split at h
  ·rename_i h0
   rw [if_neg h8, if_pos h0]
   exact ⟨by omega, h0, rfl, h⟩
  ·rename_i h0; exact absurd h h0
theorem zsZ {r : Rowd} (h : (allR r).2 = 0) : zZ (allR r).1 = 0 := by
 obtain ⟨_, _, h1, h2⟩ := zp2 h
 rw [h1]; exact h2
theorem zur {s : Shf} {i : Int} (h : (allS s i).2 = 0) : chkS s = 0 ∧ 0 ≤ i ∧ i < 4 ∧ (allS s i) = allR (s.getD i.toNat default) ∧ zZ (allS s i).1 = 0 := by
 unfold allS at h ⊢
 split at h
 ·rename_i hc
  have h4 := (chkS_zero.1 hc).1
  split at h
  ·cases h
  ·rename_i hi
   rw [if_pos hc, if_neg hi]
   exact ⟨hc, by omega, by omega, rfl, zsZ h⟩
 ·rename_i hc; exact absurd h hc
/-! ### Rising points -/
def Rise (l : List Pt) : Prop := l.Pairwise fun p q => p.1 < q.1
theorem zmo : ∀ {l : List Pt} {L : Int}, chk L l = 0 → Rise l ∧ ∀ p ∈ l, L < p.1
 | [], _, _ => ⟨.nil, by simp⟩
 | p :: l, L, h => by
  obtain ⟨h1, h2, h3⟩ := zfp h
  obtain ⟨h4, h5⟩ := zmo h3
  refine ⟨List.pairwise_cons.2 ⟨h5, h4⟩, fun q hq => ?_⟩
  rcases List.mem_cons.1 hq with rfl | hq
  ·exact h2
  ·have := h5 q hq; omega
theorem z8k {l : List Pt} (h : zZ l = 0) : Rise l := (zmo (z2w h)).1
def z0X (a b : Int) (p : Pt) : Bool := decide (a ≤ p.1) && decide (p.1 < b)
def z41 (l : List Pt) (a b : Int) : List Pt := l.filter (z0X a b)
end Go.Rb
namespace Go.Proofs.Y
open Go.Rb Go.Kx
theorem zp3 {r : Rowd} (h : okR r) {i : Nat} (hi : i < r.1.length) : okB (r.1.getD i default) := h.1 _ (yi hi)
theorem zmp (r : Rowd) (hr : okR r) : yB r = some (allR r) := by
 unfold yB allR
 have hok := hr
 obtain ⟨h1, h2, h3⟩ := hr
 rw [zy, zb]
 by_cases h8 : (8 : Int) < r.1.length
 ·rw [if_pos h8, if_pos (by omega)]
 ·rw [if_neg h8, if_neg (by omega)]
  refine zQ r.1 (fun j (s : List Pt) => ((j : Int), s)) (G := fun rest s => some (if (rp rest s).2 = 0 then ((rp rest s).1 ++ r.2, zZ ((rp rest s).1 ++ r.2)) else ([], (rp rest s).2))) (P := fun j s => s.length ≤ 40 * j) ?_ ?_ (s0 := []) (by simp) (by omega)
  ·rintro j s hj hp k hk
   have hb := zp3 hok hj
   have hat := zN hj
   generalize r.1.getD j default = b at *
   have hpl := z3u b
   simp only [zB, zu, Z7, zd, Zx, zx, Z0, ZA, Zt, zi, Zy, zy, zP, zf, zj, zC, ZD, ZK, ZQ, zI, ZE, Zu, Zv, Zw, Zr, Za, zH, ZR, zz, Z2, Zc, Z3, Zz, ZS, Zs, z7, Z1, Zf, Zg, zb, ZL, zY, zU, Z6, ZT, Zi, zL, ZF]
   rw [if_pos (by omega), hat, z7, show ((b.1, b.2.1, b.2.2.1, b.2.2.2) : Bk) = b from rfl, zcy b hb, z7, zF (by omega)]
   by_cases hz : (ptsR b).2 = 0
   ·rw [if_pos hz, if_pos (by omega), hk _ (by simp only [List.length_append]; omega)]
    simp only [rp, if_pos hz]
   ·rw [if_neg hz]
    simp only [rp, if_neg hz]
  ·rintro s hp k
   simp only [zB, zu, Z7, zd, Zx, zx, Z0, ZA, Zt, zi, Zy, zy, zP, zf, zj, zC, ZD, ZK, ZQ, zI, ZE, Zu, Zv, Zw, Zr, Za, zH, ZR, zz, Z2, Zc, Z3, Zz, ZS, Zs, z7, Z1, Zf, Zg, zb, ZL, zY, zU, Z6, ZT, Zi, zL, ZF]
   rw [if_neg (by omega), if_pos (by omega), zfq _ (by simp only [List.length_append]; omega), z7]
   simp [rp]
def z7G (q : List Pt × Int) : List Pt × Int := if q.2 = 0 then q else ([], q.2)
theorem zcz (r : Rowd) (hr : okR r) : ya r = some (z7G (allR r)) := by
 unfold ya
 have hok := hr
 obtain ⟨h1, h2, h3⟩ := hr
 rw [zy, zb]
 by_cases h8 : (8 : Int) < r.1.length
 ·have : allR r = ([], 2) := by unfold allR; rw [if_pos (by omega)]
  rw [if_pos h8, this]; rfl
 ·have : allR r = if (rp r.1 []).2 = 0 then ((rp r.1 []).1 ++ r.2, zZ ((rp r.1 []).1 ++ r.2)) else ([], (rp r.1 []).2) := by
   unfold allR; rw [if_neg (by omega)]
  rw [if_neg h8, this]
  refine zQ r.1 (fun j (s : List Pt) => ((j : Int), s)) (G := fun rest s => some (z7G (if (rp rest s).2 = 0 then ((rp rest s).1 ++ r.2, zZ ((rp rest s).1 ++ r.2)) else ([], (rp rest s).2)))) (P := fun j s => s.length ≤ 40 * j) ?_ ?_ (s0 := []) (by simp) (by omega)
  ·rintro j s hj hp k hk
   have hb := zp3 hok hj
   have hat := zN hj
   generalize r.1.getD j default = b at *
   have hpl := z3u b
   simp only [zB, zu, Z7, zd, Zx, zx, Z0, ZA, Zt, zi, Zy, zy, zP, zf, zj, zC, ZD, ZK, ZQ, zI, ZE, Zu, Zv, Zw, Zr, Za, zH, ZR, zz, Z2, Zc, Z3, Zz, ZS, Zs, z7, Z1, Zf, Zg, zb, ZL, zY, zU, Z6, ZT, Zi, zL, ZF]
   rw [if_pos (by omega), hat, z7, show ((b.1, b.2.1, b.2.2.1, b.2.2.2) : Bk) = b from rfl, z8j b hb, z7, zF (by omega)]
   by_cases hz : (ptsR b).2 = 0
   ·rw [if_pos hz, if_pos (by omega), hk _ (by simp only [List.length_append]; omega)]
    simp only [rp, if_pos hz]
   ·rw [if_neg hz]
    simp only [rp, if_neg hz, z7G]
  ·rintro s hp k
   simp only [zB, zu, Z7, zd, Zx, zx, Z0, ZA, Zt, zi, Zy, zy, zP, zf, zj, zC, ZD, ZK, ZQ, zI, ZE, Zu, Zv, Zw, Zr, Za, zH, ZR, zz, Z2, Zc, Z3, Zz, ZS, Zs, z7, Z1, Zf, Zg, zb, ZL, zY, zU, Z6, ZT, Zi, zL, ZF]
   rw [if_neg (by omega), if_pos (by omega), zjo _ (by simp only [List.length_append]; omega), z7]
   simp only [rp, if_true, z7G]
   split
   ·rename_i h; rw [h]
   ·rfl
theorem z1v (s : Shf) (hs : okS s) : yP s = some (chkS s) := by
 unfold yP chkS
 obtain ⟨h1, h2⟩ := hs
 rw [zj, zb]
 by_cases h4 : (s.length : Int) = 4
 ·rw [if_pos h4, if_pos (by omega)]
  refine zQ s (fun j (_ : Unit) => (j : Int)) (G := fun rest _ => some (z5f rest)) (P := fun _ _ => True) ?_ ?_ (s0 := ()) trivial (by omega)
  ·rintro j _ hj _ k hk
   have hr := h2 _ (yi hj)
   have hat := zN hj
   generalize s.getD j default = r at *
   simp only [zB, zu, Z7, zd, Zx, zx, Z0, ZA, Zt, zi, Zy, zy, zP, zf, zj, zC, ZD, ZK, ZQ, zI, ZE, Zu, Zv, Zw, Zr, Za, zH, ZR, zz, Z2, Zc, Z3, Zz, ZS, Zs, z7, Z1, Zf, Zg, zb, ZL, zY, zU, Z6, ZT, Zi, zL, ZF]
   rw [if_pos (by omega), hat, z7, show ((r.1, r.2) : Rowd) = r from rfl, zmp r hr, z7, zF (by omega), hk () trivial, z5f]
   split <;> rfl
  ·rintro _ _ k
   simp only [zB, zu, Z7, zd, Zx, zx, Z0, ZA, Zt, zi, Zy, zy, zP, zf, zj, zC, ZD, ZK, ZQ, zI, ZE, Zu, Zv, Zw, Zr, Za, zH, ZR, zz, Z2, Zc, Z3, Zz, ZS, Zs, z7, Z1, Zf, Zg, zb, ZL, zY, zU, Z6, ZT, Zi, zL, ZF]
   rw [if_neg (by omega)]; rfl
 ·rw [if_neg h4, if_neg (by omega)]
theorem zkn (s : Shf) (hs : okS s) : yL s = some (chkS s) := by
 unfold yL chkS
 obtain ⟨h1, h2⟩ := hs
 rw [zj, zb]
 by_cases h4 : (s.length : Int) = 4
 ·rw [if_pos h4, if_pos (by omega)]
  refine zQ s (fun j (_ : Unit) => (j : Int)) (G := fun rest _ => some (z5f rest)) (P := fun _ _ => True) ?_ ?_ (s0 := ()) trivial (by omega)
  ·rintro j _ hj _ k hk
   have hr := h2 _ (yi hj)
   have hat := zN hj
   generalize s.getD j default = r at *
   simp only [zB, zu, Z7, zd, Zx, zx, Z0, ZA, Zt, zi, Zy, zy, zP, zf, zj, zC, ZD, ZK, ZQ, zI, ZE, Zu, Zv, Zw, Zr, Za, zH, ZR, zz, Z2, Zc, Z3, Zz, ZS, Zs, z7, Z1, Zf, Zg, zb, ZL, zY, zU, Z6, ZT, Zi, zL, ZF]
   rw [if_pos (by omega), hat, z7, show ((r.1, r.2) : Rowd) = r from rfl, zcz r hr, z7, zF (by omega), hk () trivial, z5f]
   unfold z7G
   by_cases hz : (allR r).2 = 0
   ·rw [if_pos hz, if_pos hz, if_pos hz]
   ·rw [if_neg hz, if_neg hz, if_neg hz]
  ·rintro _ _ k
   simp only [zB, zu, Z7, zd, Zx, zx, Z0, ZA, Zt, zi, Zy, zy, zP, zf, zj, zC, ZD, ZK, ZQ, zI, ZE, Zu, Zv, Zw, Zr, Za, zH, ZR, zz, Z2, Zc, Z3, Zz, ZS, Zs, z7, Z1, Zf, Zg, zb, ZL, zY, zU, Z6, ZT, Zi, zL, ZF]
   rw [if_neg (by omega)]; rfl
 ·rw [if_neg h4, if_neg (by omega)]
theorem zp4 (s : Shf) (i : Int) (hs : okS s) : ja s i = some (allS s i) := by
 unfold ja allS
 rw [z1v s hs, z7, zj, zi, zP, zb]
 by_cases hc : chkS s = 0
 ·rw [if_pos hc, if_pos hc]
  by_cases h0 : i < 0
  ·rw [if_pos h0, if_pos (.inl h0)]
  ·rw [if_neg h0]
   by_cases h1 : (s.length : Int) ≤ i
   ·rw [if_pos h1, if_pos (.inr h1)]
   ·have hr := hs.2 _ (yi (l := s) (i := i.toNat) (by omega))
    rw [if_neg h1, if_neg (by omega), zoV (by omega) (by omega), z7]
    generalize s.getD i.toNat default = r at *
    rw [show ((r.1, r.2) : Rowd) = r from rfl, zmp r hr, z7]
 ·rw [if_neg hc, if_neg hc]
theorem zt0 {s : Shf} {i : Int} (h : (allS s i).2 = 0) : (allS s i).1.length ≤ 40 := Yv (zur h).2.2.2.2
end Go.Proofs.Y
namespace Go.Proofs.Y
open Go.Rb Go.Kx
theorem zfr {α : Type} {l : List α} {i : Nat} {x : α} (h : i < l.length) : (l.set i x).take (i + 1) = l.take i ++ [x] := by
 have hl : (l.take i).length = i := by rw [List.length_take]; omega
 rw [List.set_eq_take_append_cons_drop, if_pos h, List.take_append, hl, List.take_of_length_le (by omega), Nat.add_sub_cancel_left]
 rfl
theorem zfs {α : Type} {l : List α} {i j : Nat} {x : α} (h : i < j) : (l.set i x).drop j = l.drop j := by
 rw [List.drop_set, if_pos h]
theorem zjp {α : Type} [Inhabited α] {a b : List α} {j : Nat} (h : a.drop j = b.drop j) (ha : j < a.length) (hb : j < b.length) : a.getD j default = b.getD j default := by
 rw [V0 ha, V0 hb] at h
 exact (List.cons.inj h).1
theorem z2x {α : Type} {a b : List α} {j : Nat} (h : a.drop j = b.drop j) : a.drop (j + 1) = b.drop (j + 1) := by
 rw [← List.drop_drop, ← List.drop_drop, h]
theorem z3J {α : Type} [Inhabited α] (f : α → Bool) {l : List α} {j : Nat} (h : j < l.length) : (l.take (j + 1)).filter f = (l.take j).filter f ++ (if f (l.getD j default) = true then [l.getD j default] else []) := by
 rw [z3Y h, List.filter_append]
 congr 1
 rw [List.filter_cons, List.filter_nil]
theorem zjq {α : Type} (rows : List α) (i : Nat) (z : α) (h : i ≤ rows.length) {β : Type} (e : List α → Option β) :
  ifB (in1 rows (i : Int)) (ifB (inN rows (addN 0 (natI (i : Int))) (Zh (lenN rows) (i : Int))) (ifB (in1 (zK rows (addN 0 (natI (i : Int))) (repN (Zh (lenN rows) (i : Int)) z)) (i : Int))
   (ifB (inN (zK rows (addN 0 (natI (i : Int))) (repN (Zh (lenN rows) (i : Int)) z)) 0 (natI (i : Int))) (e (subN (zK rows (addN 0 (natI (i : Int))) (repN (Zh (lenN rows) (i : Int)) z)) 0 (natI (i : Int)))) none) none) none) none = e (rows.take i) := by
 have e1 : addN 0 (natI (i : Int)) = i := by simp [addN, natI]
 have e2 : Zh (lenN rows) (i : Int) = rows.length - i := by simp [Zh, lenN]
 have e3 : natI (i : Int) = i := rfl
 rw [e1, e2, e3]
 have hl : (zK rows i (repN (rows.length - i) z)).length = rows.length := by simp [zK, repN]; omega
 have hs : subN (zK rows i (repN (rows.length - i) z)) 0 i = rows.take i := by
  unfold subN zK
  rw [List.drop_zero, List.append_assoc, List.take_append_of_le_length (by simp; omega), List.take_take, Nat.min_self]
 rw [zI, if_pos ⟨by omega, by omega⟩, Za, if_pos (by omega), zI, if_pos ⟨by omega, by omega⟩, Za, if_pos (by omega), hs]
theorem zq1 (l : List Pt) (c d : Int) (x : Nat) (hx : x < l.length) (hl : l.length < 4611686018427387904) (hpre : ∀ p ∈ l.take x, z0X c d p = true) (hnot : z0X c d (l.getD x default) = false) :
  zk maxR (fun (x : Int × Int × List (Int × Int)) => ifB (ltI (Prod.fst (Prod.snd x)) (lenI (Prod.snd (Prod.snd x)))) (ifB (ltL (Prod.fst (Prod.snd x)) (Prod.snd (Prod.snd x)))
    (z6 (atN (Prod.snd (Prod.snd x)) (natI (Prod.fst (Prod.snd x)))) fun (y : Int × Int) => ifB (ltI (Prod.fst y) c) (some (Sum.inl (Prod.fst x, wadd IntKind.i64 (Prod.fst (Prod.snd x)) 1, Prod.snd (Prod.snd x))))
     (ifB (notB (geI (Prod.fst y) d)) (ifB (ltL (Prod.fst x) (Prod.snd (Prod.snd x))) (z6 (atN (Prod.snd (Prod.snd x)) (natI (Prod.fst x))) fun (y_2 : Int × Int) =>
       some (Sum.inl (wadd IntKind.i64 (Prod.fst x) 1, wadd IntKind.i64 (Prod.fst (Prod.snd x)) 1, setN (Prod.snd (Prod.snd x)) (natI (Prod.fst x)) (Prod.fst y, Prod.snd y)))) none)
      (some (Sum.inl (Prod.fst x, wadd IntKind.i64 (Prod.fst (Prod.snd x)) 1, Prod.snd (Prod.snd x)))))) none)
   (mapO Sum.inr (ifB (in1 (Prod.snd (Prod.snd x)) (Prod.fst x)) (ifB (inN (Prod.snd (Prod.snd x)) (addN 0 (natI (Prod.fst x))) (Zh (lenN (Prod.snd (Prod.snd x))) (Prod.fst x)))
    (ifB (in1 (zK (Prod.snd (Prod.snd x)) (addN 0 (natI (Prod.fst x))) (repN (Zh (lenN (Prod.snd (Prod.snd x))) (Prod.fst x)) (0, 0))) (Prod.fst x))
     (ifB (inN (zK (Prod.snd (Prod.snd x)) (addN 0 (natI (Prod.fst x))) (repN (Zh (lenN (Prod.snd (Prod.snd x))) (Prod.fst x)) (0, 0))) 0 (natI (Prod.fst x)))
      (some (subN (zK (Prod.snd (Prod.snd x)) (addN 0 (natI (Prod.fst x))) (repN (Zh (lenN (Prod.snd (Prod.snd x))) (Prod.fst x)) (0, 0))) 0 (natI (Prod.fst x)), (0 : Int))) none) none) none) none)))
   ((x : Int), wadd IntKind.i64 (x : Int) 1, l) = some (z41 l c d, 0) := by
 rw [zF (by omega)]
 have hst : (l.take (x + 1)).filter (z0X c d) = l.take x := by
  rw [z3J _ hx, hnot, List.filter_eq_self.2 hpre]; simp
 refine yD (G := fun _ => some (z41 l c d, (0 : Int))) (P := fun (y : Int × Int × List Pt) => 0 ≤ y.1 ∧ y.1 < y.2.1 ∧ y.2.1 ≤ l.length ∧ y.2.2.length = l.length ∧ y.2.2.take y.1.toNat = (l.take y.2.1.toNat).filter (z0X c d) ∧ y.2.2.drop y.2.1.toNat = l.drop y.2.1.toNat) (μ := fun y => l.length - y.2.1.toNat) ?_ maxR _ ⟨by show (0 : Int) ≤ x; omega, by show (x : Int) < ((x + 1 : Nat) : Int); omega, by show ((x + 1 : Nat) : Int) ≤ l.length; omega, rfl, hst.symm, rfl⟩ (by show l.length - ((x + 1 : Nat) : Int).toNat < maxR; unfold maxR; omega)
 rintro ⟨i0, j0, rows⟩ ⟨g0, g1, g2, g3, g4, g5⟩ K hk
 simp only at g0 g1 g2 g3 g4 g5
 obtain ⟨i, rfl⟩ : ∃ i : Nat, i0 = i := ⟨i0.toNat, by omega⟩
 obtain ⟨j, rfl⟩ : ∃ j : Nat, j0 = j := ⟨j0.toNat, by omega⟩
 simp only [Int.toNat_natCast] at g4 g5
 rw [za, zd, zi, zb]
 by_cases hj : (j : Int) < rows.length
 ·rw [if_pos hj]
  simp only [za, zx, zu, zB]
  rw [zH, if_pos ⟨by omega, hj⟩, zL, Int.toNat_natCast, yw (by omega), z7, zjp g5 (by omega) (by omega), zF (by omega), zF (j := i) (by omega)]
  have hft := z3J (z0X c d) (l := l) (j := j) (by omega)
  have hkp : z0X c d (l.getD j default) = (decide (c ≤ (l.getD j default).1) && decide ((l.getD j default).1 < d)) := rfl
  generalize l.getD j default = p at *
  have skip : z0X c d p = false → K ((i : Int), ((j + 1 : Nat) : Int), rows) = some (z41 l c d, 0) := by
   intro hkf
   rw [hkf] at hft
   exact hk _ ⟨g0, by show (i : Int) < ((j + 1 : Nat) : Int); omega, by show ((j + 1 : Nat) : Int) ≤ l.length; omega, g3, by show rows.take i = _; rw [Int.toNat_natCast, hft, g4]; simp, by show rows.drop ((j + 1 : Nat) : Int).toNat = _; rw [Int.toNat_natCast]; exact z2x g5⟩ (by show l.length - ((j + 1 : Nat) : Int).toNat < l.length - ((j : Nat) : Int).toNat; omega)
  rw [zi]
  by_cases h1 : p.1 < c
  ·rw [if_pos h1]; exact skip (by rw [hkp]; simp; omega)
  ·rw [if_neg h1, zC, zP]
   by_cases h2 : d ≤ p.1
   ·rw [if_pos h2]; exact skip (by rw [hkp]; simp; omega)
   ·have hkt : z0X c d p = true := by rw [hkp]; simp; omega
    rw [hkt] at hft
    rw [if_neg h2, zH, if_pos ⟨by omega, by omega⟩, zL, Int.toNat_natCast, yw (by omega), z7, Zi]
    refine hk _ ⟨by show (0 : Int) ≤ ((i + 1 : Nat) : Int); omega, by show ((i + 1 : Nat) : Int) < ((j + 1 : Nat) : Int); omega, by show ((j + 1 : Nat) : Int) ≤ l.length; omega, by show (rows.set i p).length = _; rw [List.length_set]; exact g3, ?_, ?_⟩ (by show l.length - ((j + 1 : Nat) : Int).toNat < l.length - ((j : Nat) : Int).toNat; omega)
    ·show (rows.set i p).take ((i + 1 : Nat) : Int).toNat = (l.take ((j + 1 : Nat) : Int).toNat).filter (z0X c d)
     rw [Int.toNat_natCast, Int.toNat_natCast, zfr (by omega), hft, g4]; simp
    ·show (rows.set i p).drop ((j + 1 : Nat) : Int).toNat = l.drop ((j + 1 : Nat) : Int).toNat
     rw [Int.toNat_natCast, zfs (by omega)]; exact z2x g5
 ·rw [if_neg hj]
  have hjl : j = l.length := by omega
  rw [hjl, List.take_length] at g4
  rw [zjq rows i (0, 0) (by omega) (fun r => some (r, (0 : Int))), g4]
  rfl
theorem zt1 (s : Shf) (i c d : Int) (hs : okS s) : VW s i c d = some (if (allS s i).2 = 0 then (z41 (allS s i).1 c d, 0) else ([], (allS s i).2)) := by
 unfold VW
 rw [zp4 s i hs, z7, zj]
 by_cases h : (allS s i).2 = 0
 ·have hl := zt0 h
  rw [if_pos h, if_pos h]
  generalize allS s i = q at *
  obtain ⟨l, e⟩ := q
  simp only at h hl ⊢
  refine yD (G := fun _ => some (z41 l c d, (0 : Int))) (P := fun (y : Int) => 0 ≤ y ∧ y ≤ l.length ∧ ∀ p ∈ l.take y.toNat, z0X c d p = true) (μ := fun y => l.length - y.toNat) ?_ maxR 0 ⟨Int.le_refl 0, by omega, by simp⟩ (by show l.length - Int.toNat 0 < maxR; unfold maxR; omega)
  rintro y ⟨g0, g1, g2⟩ K hk
  obtain ⟨x, rfl⟩ : ∃ x : Nat, y = x := ⟨y.toNat, by omega⟩
  rw [Int.toNat_natCast] at g2
  rw [za, zd, zi, zb]
  by_cases hx : (x : Int) < l.length
  ·rw [if_pos hx]
   simp only [za, zx, zu, zB, zd]
   rw [zH, if_pos ⟨by omega, hx⟩, zL, Int.toNat_natCast, yw (by omega), z7, zf, if_neg (by omega)]
   have hkp : z0X c d (l.getD x default) = (decide (c ≤ (l.getD x default).1) && decide ((l.getD x default).1 < d)) := rfl
   have hcm := zq1 l c d x (by omega) (by omega) g2
   have hnx := z3Y (l := l) (i := x) (by omega)
   generalize l.getD x default = p at *
   rw [zi]
   by_cases h1 : p.1 < c
   ·rw [if_pos h1]; exact hcm (by rw [hkp]; simp; omega)
   ·rw [if_neg h1, zP]
    by_cases h2 : d ≤ p.1
    ·rw [if_pos h2]; exact hcm (by rw [hkp]; simp; omega)
    ·rw [if_neg h2, zF (by omega)]
     refine hk _ ⟨by omega, by omega, fun q hq => ?_⟩ (by omega)
     rw [Int.toNat_natCast, hnx, List.mem_append, List.mem_singleton] at hq
     rcases hq with hq | rfl
     ·exact g2 q hq
     ·rw [hkp]; simp; omega
  ·rw [if_neg hx]
   have hxl : x = l.length := by omega
   rw [hxl, List.take_length] at g2
   show some (l, (0 : Int)) = some (z41 l c d, 0)
   unfold z41
   rw [List.filter_eq_self.2 g2]
 ·rw [if_neg h, if_neg h]
end Go.Proofs.Y
namespace Go.Rb
open Go.Kx
end Go.Rb
namespace Go.Proofs.Y
open Go.Rb Go.Kx
end Go.Proofs.Y
namespace Go.Proofs.Y
open Go.Rb Go.Kx
end Go.Proofs.Y
namespace Go.Proofs.Y
open Go.Rb Go.Kx
end Go.Proofs.Y
namespace Go.Proofs.Y
open Go.Rb Go.Kx
end Go.Proofs.Y
namespace Go.Rb
open Go.Kx
/-! ### Twice as wide -/
/-! ### They rise -/
end Go.Rb
namespace Go.Rb
open Go.Kx
instance decRowd : DecidableEq Rowd := instDecidableEqProd
theorem zrp : ∀ {l : List Pt} {L : Int}, Rise l → (∀ p ∈ l, PtIn p) → (∀ p ∈ l, L < p.1) → chk L l = 0
 | [], _, _, _, _ => rfl
 | p :: l, L, hr, hi, hL => zmi (hi p List.mem_cons_self) (hL p List.mem_cons_self) (zrp (List.pairwise_cons.1 hr).2 (fun q hq => hi q (List.mem_cons_of_mem _ hq)) (List.pairwise_cons.1 hr).1)
theorem zq2 {l : List Pt} : zZ l = 0 ↔ l.length ≤ 40 ∧ Rise l ∧ ∀ p ∈ l, PtIn p := by
 constructor
 ·intro h; exact ⟨Yv h, z8k h, z9Y h⟩
 ·rintro ⟨h1, h2, h3⟩
  unfold zZ; rw [if_neg (by omega)]
  exact zrp h2 h3 fun p hp => by have := h3 p hp; unfold PtIn at this; omega
theorem z5g {l m : List Pt} (h : zZ m = 0) (hs : l.Sublist m) : zZ l = 0 := by
 rw [zq2] at h ⊢
 exact ⟨by have := hs.length_le; omega, h.2.1.sublist hs, fun p hp => h.2.2 p (hs.subset hp)⟩
def okBs (bs : List Bk) : Prop := ∀ b ∈ bs, (ptsR b).2 = 0
def yk (bs : List Bk) : List Pt := (bs.map fun b => (ptsR b).1).flatten
theorem z42 (a b : List Bk) : yk (a ++ b) = yk a ++ yk b := by simp [yk]
theorem VI (a : Bk) (b : List Bk) : yk (a :: b) = (ptsR a).1 ++ yk b := by simp [yk]
theorem zrq (a : Bk) : yk [a] = (ptsR a).1 := by simp [yk]
theorem zq3 : ∀ {bs : List Bk} {acc : List Pt}, okBs bs → rp bs acc = (acc ++ yk bs, 0)
 | [], acc, _ => by simp [rp, yk]
 | b :: r, acc, h => by
  rw [rp, if_pos (h b List.mem_cons_self), zq3 fun c hc => h c (List.mem_cons_of_mem _ hc), VI, List.append_assoc]
theorem zp5 : ∀ {bs : List Bk} {acc : List Pt}, (rp bs acc).2 = 0 → okBs bs
 | [], _, _ => fun b hb => by cases hb
 | b :: r, acc, h => by
  rw [rp] at h
  split at h
  ·rename_i h0
   intro c hc
   rcases List.mem_cons.1 hc with rfl | hc
   ·exact h0
   ·exact zp5 h c hc
  ·rename_i h0; exact absurd h h0
theorem z9e {r : Rowd} (h1 : r.1.length ≤ 8) (h2 : okBs r.1) (h3 : zZ (yk r.1 ++ r.2) = 0) : allR r = (yk r.1 ++ r.2, 0) := by
 unfold allR
 rw [if_neg (by omega), zq3 h2, if_pos rfl, List.nil_append, h3]
theorem Zm {r : Rowd} (h : (allR r).2 = 0) : r.1.length ≤ 8 ∧ okBs r.1 ∧ zZ (yk r.1 ++ r.2) = 0 ∧ allR r = (yk r.1 ++ r.2, 0) := by
 obtain ⟨h1, h2, h3, h4⟩ := zp2 h
 have hb := zp5 h2
 rw [zq3 hb, List.nil_append] at h4
 exact ⟨h1, hb, h4, z9e h1 hb h4⟩
theorem zdL {b : Bk} (h : (ptsR b).2 = 0) : 0 < (ptsR b).1.length ∧ zZ (ptsR b).1 = 0 ∧ b = mkB (ptsR b).1 := by
 unfold ptsR at h
 split at h
 ·rename_i h0; exact absurd h h0
 ·rename_i h0
  split at h
  ·cases h
  ·rename_i h1
   have hp : ptsR b = ((ZV b.2.2.2 b.1).1, 0) := by unfold ptsR; rw [if_neg h0, if_neg h1]
   have h0' : (ZV b.2.2.2 b.1).2 = 0 := by rwa [Classical.not_not] at h0
   obtain ⟨g1, g2, g3⟩ := zpX h0'
   rw [not_or, not_or, Classical.not_not, Classical.not_not] at h1
   rw [hp]
   refine ⟨by have := h1.1; show 0 < (ZV b.2.2.2 b.1).1.length; omega, g3, ?_⟩
   have hk := (zjm g3).1
   rw [g1] at hk
   obtain ⟨n, f, t, bits⟩ := b
   simp only at *
   unfold mkB
   rw [← (Prod.mk.inj hk).1, h1.2.1, h1.2.2, g2]
theorem zrr {b : Bk} (h : (ptsR b).2 = 0) : b.2.2.2.length ≤ 2560 := by
 obtain ⟨h1, h2, h3⟩ := zdL h
 rw [h3]; exact zsX (Yv h2)
theorem yn {r : Rowd} (h : (allR r).2 = 0) : okR r := by
 obtain ⟨h1, h2, h3, _⟩ := Zm h
 have := Yv h3
 rw [List.length_append] at this
 exact ⟨fun b hb => by have := zrr (h2 b hb); unfold okB; omega, by omega, by omega⟩
theorem J4 {s : Shf} (h : chkS s = 0) : okS s := by
 obtain ⟨h1, h2⟩ := chkS_zero.1 h
 exact ⟨by omega, fun r hr => yn (h2 r hr)⟩
theorem zft {s : Shf} (h : chkS s = 0) {r : Rowd} (hr : (allR r).2 = 0) (i : Nat) : chkS (s.set i r) = 0 := by
 obtain ⟨h1, h2⟩ := chkS_zero.1 h
 refine chkS_zero.2 ⟨by rw [List.length_set]; exact h1, fun q hq => ?_⟩
 rcases List.mem_or_eq_of_mem_set hq with hq | rfl
 ·exact h2 q hq
 ·exact hr
theorem z6i {s : Shf} (h : chkS s = 0) {i : Nat} (hi : i < 4) : (allR (s.getD i default)).2 = 0 := by
 obtain ⟨h1, h2⟩ := chkS_zero.1 h
 exact h2 _ (yi (by omega))
theorem zmq {α : Type} [Inhabited α] {l : List α} {i : Nat} {x : α} (h : i < l.length) (j : Nat) : (l.set i x).getD j default = if j = i then x else l.getD j default := by
 simp only [List.getD, List.getElem?_set]
 by_cases hj : i = j
 ·subst hj; simp [h]
 ·rw [if_neg hj, if_neg (fun h => hj h.symm)]
/-! ### One row -/
def Y3 (n : Int) (r : Rowd) : Rowd × Int :=
 if n < 1 ∨ (r.2.length : Int) < n then (r, 3) else if r.1.length = 8 then (r, 2) else if ¬ (VH (r.2.take n.toNat)).2 = 0 then (r, (VH (r.2.take n.toNat)).2)
 else ((r.1 ++ [(VH (r.2.take n.toNat)).1], r.2.drop n.toNat), 0)
def yM (k : Int) (r : Rowd) : Rowd × Int :=
 if k < 0 ∨ (r.1.length : Int) - 1 ≤ k then (r, 3) else
 if ¬ (YH (r.1.getD k.toNat default) (r.1.getD (k.toNat + 1) default)).2 = 0 then (r, (YH (r.1.getD k.toNat default) (r.1.getD (k.toNat + 1) default)).2)
 else ((r.1.take k.toNat ++ (YH (r.1.getD k.toNat default) (r.1.getD (k.toNat + 1) default)).1 :: r.1.drop (k.toNat + 2), r.2), 0)
def z2y (n : Int) (r : Rowd) : Rowd := (r.1.filter fun b => decide (n ≤ b.2.2.1), r.2)
def putW (x : Ent) (r : Rowd) : Rowd := (r.1, r.2 ++ [(x.2.1, x.2.2)])
def V1 (s : Shf) (i : Int) (q : Rowd → Rowd × Int) : Shf × Int :=
 if i < 0 ∨ (s.length : Int) ≤ i then ([], 5) else if (q (s.getD i.toNat default)).2 = 0 then (s.set i.toNat (q (s.getD i.toNat default)).1, 0) else ([], (q (s.getD i.toNat default)).2)
def Jx (s : Shf) (i n : Int) : Shf × Int := if chkS s = 0 then V1 s i (Y3 n) else ([], chkS s)
def Vs (s : Shf) (i k : Int) : Shf × Int := if chkS s = 0 then V1 s i (yM k) else ([], chkS s)
def Jy (s : Shf) (n : Int) : Shf × Int := if chkS s = 0 then (if n < 0 ∨ 100001 < n then ([], 3) else (s.map (z2y n), 0)) else ([], chkS s)
def putE : Shf → List Ent → Shf × Int
 | s, [] => (s, 0)
 | s, x :: l => if x.1 < 0 ∨ 4 ≤ x.1 then ([], 5) else if (allR (putW x (s.getD x.1.toNat default))).2 = 0 then putE (s.set x.1.toNat (putW x (s.getD x.1.toNat default))) l else ([], (allR (putW x (s.getD x.1.toNat default))).2)
def putS (s : Shf) (l : List Ent) : Shf × Int := if chkS s = 0 then (if 10 < l.length then ([], 2) else putE s l) else ([], chkS s)
theorem zmr {r : Rowd} (h : (allR r).2 = 0) {n : Int} (hn : 1 ≤ n) (hl : n ≤ r.2.length) : VH (r.2.take n.toNat) = (mkB (r.2.take n.toNat), 0) ∧ ptsR (mkB (r.2.take n.toNat)) = (r.2.take n.toNat, 0) := by
 obtain ⟨_, _, h3, _⟩ := Zm h
 exact z6h (z5g h3 ((List.take_sublist _ _).trans (List.sublist_append_right _ _))) (by rw [List.length_take]; omega)
theorem zt2 {r : Rowd} (h : (allR r).2 = 0) {n : Int} (he : (Y3 n r).2 = 0) : allR (Y3 n r).1 = allR r := by
 obtain ⟨h1, h2, h3, h4⟩ := Zm h
 unfold Y3 at he ⊢
 split at he
 ·cases he
 ·rename_i hn
  split at he
  ·cases he
  ·rename_i h8
   obtain ⟨g1, g2⟩ := zmr h (n := n) (by omega) (by omega)
   rw [g1] at he ⊢
   rw [if_neg hn, if_neg h8, if_neg (by simp)]
   have hp : yk (r.1 ++ [mkB (r.2.take n.toNat)]) ++ r.2.drop n.toNat = yk r.1 ++ r.2 := by
    rw [z42, zrq, g2, List.append_assoc, List.take_append_drop]
   rw [h4, ← hp]
   refine z9e (r := (r.1 ++ [mkB (r.2.take n.toNat)], r.2.drop n.toNat)) ?_ ?_ ?_
   ·show (r.1 ++ [mkB (r.2.take n.toNat)]).length ≤ 8
    rw [List.length_append, List.length_singleton]; omega
   ·intro b hb
    rcases List.mem_append.1 hb with hb | hb
    ·exact h2 b hb
    ·rw [List.mem_singleton] at hb; subst hb; rw [g2]
   ·show zZ (yk (r.1 ++ [mkB (r.2.take n.toNat)]) ++ r.2.drop n.toNat) = 0
    rw [hp]; exact h3
theorem zjr {α : Type} [Inhabited α] {l : List α} {k : Nat} (h : k + 1 < l.length) : l = l.take k ++ (l.getD k default :: l.getD (k + 1) default :: l.drop (k + 2)) := by
 have h1 := V0 (l := l) (i := k) (by omega)
 have h2 := V0 (l := l) (i := k + 1) (by omega)
 conv => lhs; rw [← List.take_append_drop k l, h1, h2]
theorem zrs {r : Rowd} (h : (allR r).2 = 0) {k : Nat} (hk : k + 1 < r.1.length) : ∃ m, YH (r.1.getD k default) (r.1.getD (k + 1) default) = (m, 0) ∧ (ptsR m).2 = 0 ∧ (ptsR m).1 = (ptsR (r.1.getD k default)).1 ++ (ptsR (r.1.getD (k + 1) default)).1 := by
 obtain ⟨h1, h2, h3, h4⟩ := Zm h
 have hs := zjr hk
 have a1 := h2 _ (yi (l := r.1) (i := k) (by omega))
 have a2 := h2 _ (yi (l := r.1) (i := k + 1) (by omega))
 generalize r.1.getD k default = x at *
 generalize r.1.getD (k + 1) default = y at *
 rw [hs, z42, VI, VI] at h3
 obtain ⟨x1, x2, x3⟩ := zdL a1
 obtain ⟨y1, y2, y3⟩ := zdL a2
 have hc : zZ ((ptsR x).1 ++ (ptsR y).1) = 0 := by
  refine z5g h3 ?_
  rw [← List.append_assoc (ptsR x).1]
  exact ((List.sublist_append_left _ _).trans (List.sublist_append_right _ _)).trans (List.sublist_append_left _ _)
 have hm := zrj x2 y2 x1 y1 hc
 rw [← x3, ← y3] at hm
 have hp := (z6h hc (by rw [List.length_append]; omega)).2
 exact ⟨_, hm, by rw [hp], by rw [hp]⟩
theorem zrt {r : Rowd} (h : (allR r).2 = 0) {k : Int} (he : (yM k r).2 = 0) : allR (yM k r).1 = allR r := by
 obtain ⟨h1, h2, h3, h4⟩ := Zm h
 unfold yM at he ⊢
 split at he
 ·cases he
 ·rename_i hk
  obtain ⟨m, g1, g2, g3⟩ := zrs h (k := k.toNat) (by omega)
  rw [g1] at he ⊢
  rw [if_neg hk, if_neg (by simp)]
  have hs := zjr (l := r.1) (k := k.toNat) (by omega)
  have hp : yk (r.1.take k.toNat ++ m :: r.1.drop (k.toNat + 2)) = yk r.1 := by
   conv => rhs; rw [hs]
   rw [z42, z42, VI, VI, VI, g3, List.append_assoc]
  have hle : (r.1.take k.toNat ++ m :: r.1.drop (k.toNat + 2)).length ≤ 8 := by
   rw [List.length_append, List.length_take, List.length_cons, List.length_drop]; omega
  have := z9e (r := (r.1.take k.toNat ++ m :: r.1.drop (k.toNat + 2), r.2)) hle (fun b hb => ?_) (by show zZ (yk _ ++ r.2) = 0; rw [hp]; exact h3)
  ·rw [h4]; rw [this]; simp only; rw [hp]
  ·rcases List.mem_append.1 hb with hb | hb
   ·exact h2 b (List.mem_of_mem_take hb)
   ·rcases List.mem_cons.1 hb with rfl | hb
    ·exact g2
    ·exact h2 b (List.mem_of_mem_drop hb)
theorem zfu {b : Bk} (h : (ptsR b).2 = 0) : (∀ p ∈ (ptsR b).1, p.1 ≤ b.2.2.1) ∧ ∃ p ∈ (ptsR b).1, p.1 = b.2.2.1 := by
 obtain ⟨h1, h2, h3⟩ := zdL h
 have hr := z8k h2
 have ht : b.2.2.1 = ((ptsR b).1.getD ((ptsR b).1.length - 1) default).1 := congrArg (fun c : Bk => c.2.2.1) h3
 refine ⟨fun p hp => ?_, _, yi (l := (ptsR b).1) (i := (ptsR b).1.length - 1) (by omega), ht.symm⟩
 rw [ht]
 obtain ⟨i, hi, rfl⟩ := List.mem_iff_getElem.1 hp
 by_cases hlt : i < (ptsR b).1.length - 1
 ·have := List.pairwise_iff_getElem.1 hr i ((ptsR b).1.length - 1) hi (by omega) hlt
  simp [List.getD, List.getElem?_eq_getElem (show (ptsR b).1.length - 1 < (ptsR b).1.length by omega)]; omega
 ·have : i = (ptsR b).1.length - 1 := by omega
  subst this
  simp [List.getD, List.getElem?_eq_getElem hi]
theorem zeD (n : Int) : ∀ {bs : List Bk}, okBs bs → Rise (yk bs) → ∃ j, bs.filter (fun b => decide (n ≤ b.2.2.1)) = bs.drop j ∧ ∀ b ∈ bs.take j, b.2.2.1 < n
 | [], _, _ => ⟨0, rfl, fun b hb => by cases hb⟩
 | b :: bs, hk, hr => by
  have hb := hk b List.mem_cons_self
  have hbs : okBs bs := fun c hc => hk c (List.mem_cons_of_mem _ hc)
  rw [VI] at hr
  unfold Rise at hr
  rw [List.pairwise_append] at hr
  obtain ⟨_, hr2, hr3⟩ := hr
  by_cases h : n ≤ b.2.2.1
  ·refine ⟨0, ?_, fun c hc => by cases hc⟩
   rw [List.drop_zero, List.filter_eq_self]
   intro c hc
   rcases List.mem_cons.1 hc with rfl | hc
   ·simpa using h
   ·obtain ⟨_, p, hp, hp2⟩ := zfu hb
    obtain ⟨hq, q, hq1, hq2⟩ := zfu (hbs c hc)
    have hm : q ∈ yk bs := by
     unfold yk
     rw [List.mem_flatten]
     exact ⟨_, List.mem_map.2 ⟨c, hc, rfl⟩, hq1⟩
    have := hr3 p hp q hm
    simp; omega
  ·obtain ⟨j, g1, g2⟩ := zeD n hbs hr2
   refine ⟨j + 1, ?_, fun c hc => ?_⟩
   ·rw [List.filter_cons, if_neg (by simpa using h), g1]; rfl
   ·rw [List.take_succ_cons] at hc
    rcases List.mem_cons.1 hc with rfl | hc
    ·omega
    ·exact g2 c hc
theorem zms {r : Rowd} (h : (allR r).2 = 0) (n : Int) : (allR (z2y n r)).2 = 0 ∧ ∃ k, (allR (z2y n r)).1 = (allR r).1.drop k ∧ k ≤ (allR r).1.length ∧ ∀ p ∈ (allR r).1.take k, p.1 < n := by
 obtain ⟨h1, h2, h3, h4⟩ := Zm h
 have hrise : Rise (yk r.1) := (List.pairwise_append.1 (z8k h3)).1
 obtain ⟨j, g1, g2⟩ := zeD n h2 hrise
 have hd : z2y n r = (r.1.drop j, r.2) := by unfold z2y; rw [g1]
 have hsp : yk r.1 = yk (r.1.take j) ++ yk (r.1.drop j) := by rw [← z42, List.take_append_drop]
 have h5 := z9e (r := (r.1.drop j, r.2)) (by show (r.1.drop j).length ≤ 8; rw [List.length_drop]; omega) (fun b hb => h2 b (List.mem_of_mem_drop hb))
  (by
   show zZ (yk (r.1.drop j) ++ r.2) = 0
   rw [hsp, List.append_assoc] at h3
   exact z5g h3 (List.sublist_append_right _ _))
 rw [hd, h5, h4]
 refine ⟨rfl, (yk (r.1.take j)).length, ?_, ?_, ?_⟩
 ·rw [hsp, List.append_assoc, List.drop_left]
 ·simp only; rw [hsp, List.append_assoc, List.length_append]; omega
 ·rw [hsp, List.append_assoc, List.take_left]
  intro p hp
  unfold yk at hp
  rw [List.mem_flatten] at hp
  obtain ⟨l, hl, hp⟩ := hp
  obtain ⟨b, hb, rfl⟩ := List.mem_map.1 hl
  have := (zfu (h2 b (List.mem_of_mem_take hb))).1 p hp
  have := g2 b hb
  omega
theorem zus {r : Rowd} {x : Ent} (h : (allR (putW x r)).2 = 0) : (allR r).2 = 0 ∧ (allR (putW x r)).1 = (allR r).1 ++ [(x.2.1, x.2.2)] := by
 obtain ⟨h1, h2, h3, h4⟩ := Zm h
 have h3' : zZ ((yk r.1 ++ r.2) ++ [(x.2.1, x.2.2)]) = 0 := by rw [List.append_assoc]; exact h3
 have h5 := z9e (r := r) h1 h2 (z5g h3' (List.sublist_append_left _ _))
 rw [h5, h4]
 exact ⟨rfl, by show yk r.1 ++ (r.2 ++ _) = _; rw [List.append_assoc]⟩
/-! ### Shelves -/
theorem zmt {s : Shf} (h : chkS s = 0) {i : Int} {q : Rowd → Rowd × Int} (hq : ∀ r, (allR r).2 = 0 → (q r).2 = 0 → allR (q r).1 = allR r) (he : (V1 s i q).2 = 0) : chkS (V1 s i q).1 = 0 ∧ ∀ j, allS (V1 s i q).1 j = allS s j := by
 have h4 := (chkS_zero.1 h).1
 unfold V1 at he ⊢
 split at he
 ·cases he
 ·rename_i hi
  split at he
  ·rename_i hz
   rw [if_neg hi, if_pos hz]
   have h0 := z6i h (i := i.toNat) (by omega)
   have h1 := hq _ h0 hz
   have hc := zft h (r := (q (s.getD i.toNat default)).1) (by rw [h1]; exact h0) i.toNat
   refine ⟨hc, fun j => ?_⟩
   unfold allS
   simp only [hc, h, if_true, List.length_set]
   split
   ·rfl
   ·rw [zmq (by omega)]
    split
    ·rename_i hj; rw [h1, hj]
    ·rfl
  ·rename_i hz; exact absurd he hz
theorem zfv {s : Shf} {i n : Int} (he : (Jx s i n).2 = 0) : chkS s = 0 ∧ chkS (Jx s i n).1 = 0 ∧ ∀ j, allS (Jx s i n).1 j = allS s j := by
 unfold Jx at he ⊢
 split at he
 ·rename_i h
  rw [if_pos h]
  exact ⟨h, zmt h (fun r hr hq => zt2 hr hq) he⟩
 ·rename_i h; exact absurd he h
theorem zcA {s : Shf} {i n : Int} (he : (Vs s i n).2 = 0) : chkS s = 0 ∧ chkS (Vs s i n).1 = 0 ∧ ∀ j, allS (Vs s i n).1 j = allS s j := by
 unfold Vs at he ⊢
 split at he
 ·rename_i h
  rw [if_pos h]
  exact ⟨h, zmt h (fun r hr hq => zrt hr hq) he⟩
 ·rename_i h; exact absurd he h
theorem zfw {s : Shf} {n : Int} (he : (Jy s n).2 = 0) : chkS s = 0 ∧ (0 ≤ n ∧ n ≤ 100001) ∧ chkS (Jy s n).1 = 0 ∧ ∀ j : Int, 0 ≤ j → j < 4 → ∃ k, (allS (Jy s n).1 j).1 = (allS s j).1.drop k ∧ k ≤ (allS s j).1.length ∧ ∀ p ∈ (allS s j).1.take k, p.1 < n := by
 unfold Jy at he ⊢
 split at he
 ·rename_i h
  obtain ⟨h4, hr⟩ := chkS_zero.1 h
  split at he
  ·cases he
  ·rename_i hn
   rw [if_pos h, if_neg hn]
   have hc : chkS (s.map (z2y n)) = 0 := chkS_zero.2 ⟨by rw [List.length_map]; exact h4, fun r hr' => by
    obtain ⟨q, hq, rfl⟩ := List.mem_map.1 hr'
    exact (zms (hr q hq) n).1⟩
   refine ⟨h, by omega, hc, fun j h0 h1 => ?_⟩
   have hg : (s.map (z2y n)).getD j.toNat default = z2y n (s.getD j.toNat default) := by
    simp [List.getD, List.getElem?_map, List.getElem?_eq_getElem (show j.toNat < s.length by omega)]
   unfold allS
   rw [if_pos hc, if_pos h, List.length_map, if_neg (by omega), if_neg (by omega), hg]
   exact (zms (z6i h (by omega)) n).2
 ·rename_i h; exact absurd he h
def entP (j : Int) (l : List Ent) : List Pt := (l.filter fun x => decide (x.1 = j)).map fun x => (x.2.1, x.2.2)
theorem zp6 : ∀ {l : List Ent} {s : Shf}, chkS s = 0 → (putE s l).2 = 0 → chkS (putE s l).1 = 0 ∧ ∀ j : Int, 0 ≤ j → j < 4 → (allS (putE s l).1 j).1 = (allS s j).1 ++ entP j l
 | [], s, h, _ => ⟨h, fun j _ _ => by simp [putE, entP]⟩
 | x :: l, s, h, he => by
  have h4 := (chkS_zero.1 h).1
  rw [putE] at he ⊢
  split at he
  ·cases he
  ·rename_i hx
   split at he
   ·rename_i hz
    rw [if_neg hx, if_pos hz]
    have hs := zft h hz x.1.toNat
    obtain ⟨g1, g2⟩ := zp6 hs he
    refine ⟨g1, fun j h0 h1 => ?_⟩
    rw [g2 j h0 h1]
    unfold allS entP
    rw [if_pos hs, if_pos h, List.length_set, if_neg (by omega), if_neg (by omega), zmq (by omega), List.filter_cons]
    by_cases hj : x.1 = j
    ·subst hj
     rw [if_pos rfl, if_pos (by simp), (zus hz).2]
     simp
    ·rw [if_neg (by omega), if_neg (by simpa using hj)]
   ·rename_i hz; exact absurd he hz
theorem zif {s : Shf} {l : List Ent} (he : (putS s l).2 = 0) : chkS s = 0 ∧ l.length ≤ 10 ∧ chkS (putS s l).1 = 0 ∧ ∀ j : Int, 0 ≤ j → j < 4 → (allS (putS s l).1 j).1 = (allS s j).1 ++ entP j l := by
 unfold putS at he ⊢
 split at he
 ·rename_i h
  split at he
  ·cases he
  ·rename_i hl
   rw [if_pos h, if_neg hl]
   exact ⟨h, by omega, zp6 h he⟩
 ·rename_i h; exact absurd he h
end Go.Rb
namespace Go.Proofs.Y
open Go.Rb Go.Kx
theorem z5h {a : Shf} (h : a.length ≤ 4000000000000) : YC a = some a := z1s 48 a (by omega) (by omega)
theorem z2z {a : List Bk} (h : a.length ≤ 4000000000000) : Ze a = some a := z1s 48 a (by omega) (by omega)
noncomputable def cpy {β : Type} (B : List Bk) (x : Int × List Bk) : Option (Sum (Int × List Bk) β) :=
 z6 (atI B (Prod.fst x)) fun (y : Int × Int × Int × List Bool) => z6 (zS (Prod.fst y, Prod.fst (Prod.snd y), Prod.fst (Prod.snd (Prod.snd y)), Prod.snd (Prod.snd (Prod.snd y)))) fun (y : Int × Int × Int × List Bool) =>
  ifB (ltL (Prod.fst x) (Prod.snd x)) (z6 (atN (Prod.snd x) (natI (Prod.fst x))) fun (_ : Int × Int × Int × List Bool) =>
   some (Sum.inl (wadd IntKind.i64 (Prod.fst x) 1, setN (Prod.snd x) (natI (Prod.fst x)) (Prod.fst y, Prod.fst (Prod.snd y), Prod.fst (Prod.snd (Prod.snd y)), Prod.snd (Prod.snd (Prod.snd y)))))) none
theorem zt3 {α : Type} [Inhabited α] {l : List α} {j : Nat} (h : j < l.length) : l.set j (l.getD j default) = l := by
 apply List.ext_getElem
 ·simp
 ·intro i h1 h2
  rw [List.getElem_set]
  split
  ·rename_i he; subst he; simp [List.getD, List.getElem?_eq_getElem h]
  ·rfl
theorem za0 {α : Type} (B : List Bk) (hB : ∀ b ∈ B, okB b) (hl : B.length < 4611686018427387904) (K : Int × List Bk → Option α) :
  zk maxR (fun (x : Int × List Bk) => ifB (ltI (Prod.fst x) (lenI B)) (cpy B x) (mapO Sum.inr (K x))) (0, B) = K ((B.length : Int), B) := by
 refine zQ B (fun j (s : List Bk) => ((j : Int), s)) (G := fun _ _ => K ((B.length : Int), B)) (P := fun _ s => s = B) ?_ ?_ (s0 := B) rfl (by omega)
 ·rintro j s hj rfl k hk
  have hb := hB _ (yi hj)
  have hat := zN hj
  have hss := zt3 hj
  have han := yw hj
  unfold cpy
  generalize s.getD j default = b at *
  simp only [za, zx, zd, zB, zu]
  rw [zi, zb, if_pos (by omega), hat, z7, show ((b.1, b.2.1, b.2.2.1, b.2.2.2) : Bk) = b from rfl, zup _ hb, z7, zH, if_pos ⟨by omega, by omega⟩, zL, Int.toNat_natCast, han, z7, Zi, hss, zF (by omega)]
  exact hk _ rfl
 ·rintro s rfl k
  simp only [za, zd]
  rw [zi, zb, if_neg (by omega)]
theorem len4 {α : Type} {s : List α} (h : s.length = 4) : ∃ a b c d, s = [a, b, c, d] := by
 match s, h with
 | [a, b, c, d], _ => exact ⟨a, b, c, d, rfl⟩
theorem zgR {α : Type} (r0 r1 r2 r3 : Rowd) (h0 : okR r0) (h1 : okR r1) (h2 : okR r2) (h3 : okR r3) (g0 : r0.1.length ≤ 8) (g1 : r1.1.length ≤ 8) (g2 : r2.1.length ≤ 8) (g3 : r3.1.length ≤ 8)
  (K : List Pt → List Pt → List Pt → List Pt → (Int × List Bk) → (Int × List Bk) → (Int × List Bk) → (Int × List Bk) → Option α) :
  (z6 (YC [r0, r1, r2, r3]) fun (y : List (List (Int × Int × Int × List Bool) × List (Int × Int))) => z6 (four y) fun (y : (List (Int × Int × Int × List Bool) × List (Int × Int)) × (List (Int × Int × Int × List Bool) × List (Int × Int)) × (List (Int × Int × Int × List Bool) × List (Int × Int)) × List (Int × Int × Int × List Bool) × List (Int × Int)) =>
   z6 (Ze (Prod.fst (Prod.fst y))) fun (y_1 : List (Int × Int × Int × List Bool)) => z6 (Zq (Prod.snd (Prod.fst y))) fun (y_2 : List (Int × Int)) =>
   zk maxR (fun (x : Int × List (Int × Int × Int × List Bool)) => ifB (ltI (Prod.fst x) (lenI (Prod.fst (Prod.fst y)))) (cpy (Prod.fst (Prod.fst y)) x) (mapO Sum.inr
    (z6 (Ze (Prod.fst (Prod.fst (Prod.snd y)))) fun (y_3 : List (Int × Int × Int × List Bool)) => z6 (Zq (Prod.snd (Prod.fst (Prod.snd y)))) fun (y_4 : List (Int × Int)) =>
    zk maxR (fun (x_1 : Int × List (Int × Int × Int × List Bool)) => ifB (ltI (Prod.fst x_1) (lenI (Prod.fst (Prod.fst (Prod.snd y))))) (cpy (Prod.fst (Prod.fst (Prod.snd y))) x_1) (mapO Sum.inr
     (z6 (Ze (Prod.fst (Prod.fst (Prod.snd (Prod.snd y))))) fun (y_5 : List (Int × Int × Int × List Bool)) => z6 (Zq (Prod.snd (Prod.fst (Prod.snd (Prod.snd y))))) fun (y_6 : List (Int × Int)) =>
     zk maxR (fun (x_2 : Int × List (Int × Int × Int × List Bool)) => ifB (ltI (Prod.fst x_2) (lenI (Prod.fst (Prod.fst (Prod.snd (Prod.snd y)))))) (cpy (Prod.fst (Prod.fst (Prod.snd (Prod.snd y)))) x_2) (mapO Sum.inr
      (z6 (Ze (Prod.fst (Prod.snd (Prod.snd (Prod.snd y))))) fun (y_7 : List (Int × Int × Int × List Bool)) => z6 (Zq (Prod.snd (Prod.snd (Prod.snd (Prod.snd y))))) fun (y_8 : List (Int × Int)) =>
      zk maxR (fun (x_3 : Int × List (Int × Int × Int × List Bool)) => ifB (ltI (Prod.fst x_3) (lenI (Prod.fst (Prod.snd (Prod.snd (Prod.snd y)))))) (cpy (Prod.fst (Prod.snd (Prod.snd (Prod.snd y)))) x_3) (mapO Sum.inr (K y_2 y_4 y_6 y_8 x x_1 x_2 x_3))) (0, y_7)))) (0, y_5)))) (0, y_3)))) (0, y_1))
   = K r0.2 r1.2 r2.2 r3.2 ((r0.1.length : Int), r0.1) ((r1.1.length : Int), r1.1) ((r2.1.length : Int), r2.1) ((r3.1.length : Int), r3.1) := by
 rw [z5h (by simp), z7, show four [r0, r1, r2, r3] = some (r0, r1, r2, r3) from rfl, z7]
 simp only
 rw [z2z (by omega), z7, z1u (by have := h0.2.2; omega), z7]
 refine (za0 r0.1 h0.1 h0.2.1 _).trans ?_
 rw [z2z (by omega), z7, z1u (by have := h1.2.2; omega), z7]
 refine (za0 r1.1 h1.1 h1.2.1 _).trans ?_
 rw [z2z (by omega), z7, z1u (by have := h2.2.2; omega), z7]
 refine (za0 r2.1 h2.1 h2.2.1 _).trans ?_
 rw [z2z (by omega), z7, z1u (by have := h3.2.2; omega), z7]
 exact za0 r3.1 h3.1 h3.2.1 _
theorem zo0 {α : Type} [Inhabited α] (z : α) (gone : α → Bool) (w : α → α) (hw : ∀ y, w y = y) (l : List α) (x : Nat) (hx : x < l.length) (hl : l.length < 4611686018427387904) (hpre : ∀ p ∈ l.take x, (!gone p) = true) (hnot : (!gone (l.getD x default)) = false) :
  zk maxR (fun (x : Int × Int × List α) => ifB (ltI (Prod.fst (Prod.snd x)) (lenI (Prod.snd (Prod.snd x)))) (ifB (ltL (Prod.fst (Prod.snd x)) (Prod.snd (Prod.snd x)))
    (z6 (atN (Prod.snd (Prod.snd x)) (natI (Prod.fst (Prod.snd x)))) fun (y : α) => ifB (notB (gone y)) (ifB (ltL (Prod.fst x) (Prod.snd (Prod.snd x))) (z6 (atN (Prod.snd (Prod.snd x)) (natI (Prod.fst x))) fun (y_2 : α) =>
       some (Sum.inl (wadd IntKind.i64 (Prod.fst x) 1, wadd IntKind.i64 (Prod.fst (Prod.snd x)) 1, setN (Prod.snd (Prod.snd x)) (natI (Prod.fst x)) (w y)))) none)
      (some (Sum.inl (Prod.fst x, wadd IntKind.i64 (Prod.fst (Prod.snd x)) 1, Prod.snd (Prod.snd x))))) none)
   (mapO Sum.inr (ifB (in1 (Prod.snd (Prod.snd x)) (Prod.fst x)) (ifB (inN (Prod.snd (Prod.snd x)) (addN 0 (natI (Prod.fst x))) (Zh (lenN (Prod.snd (Prod.snd x))) (Prod.fst x)))
    (ifB (in1 (zK (Prod.snd (Prod.snd x)) (addN 0 (natI (Prod.fst x))) (repN (Zh (lenN (Prod.snd (Prod.snd x))) (Prod.fst x)) z)) (Prod.fst x))
     (ifB (inN (zK (Prod.snd (Prod.snd x)) (addN 0 (natI (Prod.fst x))) (repN (Zh (lenN (Prod.snd (Prod.snd x))) (Prod.fst x)) z)) 0 (natI (Prod.fst x)))
      (some (subN (zK (Prod.snd (Prod.snd x)) (addN 0 (natI (Prod.fst x))) (repN (Zh (lenN (Prod.snd (Prod.snd x))) (Prod.fst x)) z)) 0 (natI (Prod.fst x)))) none) none) none) none)))
   ((x : Int), wadd IntKind.i64 (x : Int) 1, l) = some (l.filter fun y => !gone y) := by
 rw [zF (by omega)]
 have hst : (l.take (x + 1)).filter (fun y => !gone y) = l.take x := by
  rw [z3J _ hx, hnot, List.filter_eq_self.2 hpre]; simp
 refine yD (G := fun _ => some (l.filter fun y => !gone y)) (P := fun (y : Int × Int × List α) => 0 ≤ y.1 ∧ y.1 < y.2.1 ∧ y.2.1 ≤ l.length ∧ y.2.2.length = l.length ∧ y.2.2.take y.1.toNat = (l.take y.2.1.toNat).filter (fun y => !gone y) ∧ y.2.2.drop y.2.1.toNat = l.drop y.2.1.toNat) (μ := fun y => l.length - y.2.1.toNat) ?_ maxR _ ⟨by show (0 : Int) ≤ x; omega, by show (x : Int) < ((x + 1 : Nat) : Int); omega, by show ((x + 1 : Nat) : Int) ≤ l.length; omega, rfl, hst.symm, rfl⟩ (by show l.length - ((x + 1 : Nat) : Int).toNat < maxR; unfold maxR; omega)
 rintro ⟨i0, j0, rows⟩ ⟨g0, g1, g2, g3, g4, g5⟩ K hk
 simp only at g0 g1 g2 g3 g4 g5
 obtain ⟨i, rfl⟩ : ∃ i : Nat, i0 = i := ⟨i0.toNat, by omega⟩
 obtain ⟨j, rfl⟩ : ∃ j : Nat, j0 = j := ⟨j0.toNat, by omega⟩
 simp only [Int.toNat_natCast] at g4 g5
 rw [za, zd, zi, zb]
 by_cases hj : (j : Int) < rows.length
 ·rw [if_pos hj]
  simp only [za, zx, zu, zB]
  rw [zH, if_pos ⟨by omega, hj⟩, zL, Int.toNat_natCast, yw (by omega), z7, zjp g5 (by omega) (by omega), zF (j := i) (by omega), zF (j := j) (by omega)]
  have hft := z3J (fun y => !gone y) (l := l) (j := j) (by omega)
  generalize l.getD j default = p at *
  cases hg : gone p with
  | true =>
   rw [hg] at hft
   exact hk _ ⟨g0, by show (i : Int) < ((j + 1 : Nat) : Int); omega, by show ((j + 1 : Nat) : Int) ≤ l.length; omega, g3, by show rows.take i = _; rw [Int.toNat_natCast, hft, g4]; simp, by show rows.drop ((j + 1 : Nat) : Int).toNat = _; rw [Int.toNat_natCast]; exact z2x g5⟩ (by show l.length - ((j + 1 : Nat) : Int).toNat < l.length - ((j : Nat) : Int).toNat; omega)
  | false =>
   rw [hg] at hft
   rw [zC, ZA, zH, if_pos ⟨by omega, by omega⟩, zL, Int.toNat_natCast, yw (by omega), z7, Zi, hw]
   refine hk _ ⟨by show (0 : Int) ≤ ((i + 1 : Nat) : Int); omega, by show ((i + 1 : Nat) : Int) < ((j + 1 : Nat) : Int); omega, by show ((j + 1 : Nat) : Int) ≤ l.length; omega, by show (rows.set i p).length = _; rw [List.length_set]; exact g3, ?_, ?_⟩ (by show l.length - ((j + 1 : Nat) : Int).toNat < l.length - ((j : Nat) : Int).toNat; omega)
   ·show (rows.set i p).take ((i + 1 : Nat) : Int).toNat = (l.take ((j + 1 : Nat) : Int).toNat).filter (fun y => !gone y)
    rw [Int.toNat_natCast, Int.toNat_natCast, zfr (by omega), hft, g4]; simp
   ·show (rows.set i p).drop ((j + 1 : Nat) : Int).toNat = l.drop ((j + 1 : Nat) : Int).toNat
    rw [Int.toNat_natCast, zfs (by omega)]; exact z2x g5
 ·rw [if_neg hj]
  have hjl : j = l.length := by omega
  rw [hjl, List.take_length] at g4
  rw [zjq rows i z (by omega) (fun r => some r), g4]
theorem Jz (a : List Bk) (n : Int) (hl : a.length < 4611686018427387904) : YD a n = some (a.filter fun b => decide (n ≤ b.2.2.1)) := by
 unfold YD
 have hf : (fun b : Bk => decide (n ≤ b.2.2.1)) = fun b : Bk => !(ltI b.2.2.1 n) := by
  funext b
  unfold ltI
  rw [← decide_not]
  exact decide_eq_decide.2 (by omega)
 rw [hf]
 refine yD (G := fun _ => some (a.filter fun b : Bk => !(ltI b.2.2.1 n))) (P := fun (y : Int) => 0 ≤ y ∧ y ≤ a.length ∧ ∀ p ∈ a.take y.toNat, (!(ltI (Prod.fst (Prod.snd (Prod.snd p))) n)) = true) (μ := fun y => a.length - y.toNat) ?_ maxR 0 ⟨Int.le_refl 0, by omega, by simp⟩ (by show a.length - Int.toNat 0 < maxR; unfold maxR; omega)
 rintro y ⟨g0, g1, g2⟩ K hk
 obtain ⟨x, rfl⟩ : ∃ x : Nat, y = x := ⟨y.toNat, by omega⟩
 rw [Int.toNat_natCast] at g2
 rw [za, zd, zi, zb]
 by_cases hx : (x : Int) < a.length
 ·rw [if_pos hx]
  simp only [za, zx, zu, zB, zd]
  rw [zH, if_pos ⟨by omega, hx⟩, zL, Int.toNat_natCast, yw (by omega), z7, zf, if_neg (by omega)]
  have hcm := zo0 ((0, 0, 0, []) : Bk) (fun b : Bk => ltI (Prod.fst (Prod.snd (Prod.snd b))) n) (fun b => (Prod.fst b, Prod.fst (Prod.snd b), Prod.fst (Prod.snd (Prod.snd b)), Prod.snd (Prod.snd (Prod.snd b)))) (fun _ => rfl) a x (by omega) (by omega) g2
  have hnx := z3Y (l := a) (i := x) (by omega)
  generalize a.getD x default = p at *
  cases hg : ltI (Prod.fst (Prod.snd (Prod.snd p))) n with
  | true => rw [Z0]; exact hcm (by rw [hg]; rfl)
  | false =>
   rw [ZA, zF (by omega)]
   refine hk _ ⟨by omega, by omega, fun q hq => ?_⟩ (by omega)
   rw [Int.toNat_natCast, hnx, List.mem_append, List.mem_singleton] at hq
   rcases hq with hq | rfl
   ·exact g2 q hq
   ·rw [hg]; rfl
 ·rw [if_neg hx]
  have hxl : x = a.length := by omega
  rw [hxl, List.take_length] at g2
  rw [List.filter_eq_self.2 g2]
theorem zq4 (a : List Bk) (i j : Nat) (h1 : i ≤ j) (h2 : j ≤ a.length) (hl : a.length < 4611686018427387904) : vZ a (i : Int) (j : Int) = some (a.take i ++ a.drop j) := by
 unfold vZ
 have e0 : ∀ k : Nat, addN 0 (natI (k : Int)) = k := fun k => by simp [addN, natI]
 have e1 : Zh (lenN a) (j : Int) = a.length - j := by simp [Zh, lenN]
 have e2 : subN a j (a.length - j) = a.drop j := by unfold subN; rw [List.take_of_length_le (by simp)]
 have e3 : lenN (a.drop j) = a.length - j := by simp [lenN]
 have e4 : addN (natI (i : Int)) (a.length - j) = i + (a.length - j) := by simp [addN, natI]
 simp only [e0, e1, e2, e3, e4]
 have e5 : zK a i (a.drop j) = a.take i ++ a.drop j ++ a.drop (i + (a.length - j)) := by simp [zK]
 have e6 : (zK a i (a.drop j)).length = a.length := by rw [e5]; simp; omega
 have e7 : addN 0 (natI (intN (i + (a.length - j)))) = i + (a.length - j) := by rw [ZF]; exact e0 _
 have e8 : subI (intN (i + (a.length - j))) (lenI a) = a.length - (i + (a.length - j)) := by simp only [subI, intN, lenI]; omega
 simp only [e7, e8]
 have e9 : ∀ z : List Bk, z.length = a.length - (i + (a.length - j)) → subN (zK (zK a i (a.drop j)) (i + (a.length - j)) z) 0 (i + (a.length - j)) = a.take i ++ a.drop j := by
  intro z hz
  unfold subN
  rw [List.drop_zero]
  have h3 : (a.take i ++ a.drop j).length = i + (a.length - j) := by simp; omega
  have h4 : (zK a i (a.drop j)).take (i + (a.length - j)) = a.take i ++ a.drop j := by
   rw [e5, List.take_append_of_le_length (by omega), List.take_of_length_le (by omega)]
  unfold zK at h4 ⊢
  rw [h4, List.append_assoc, List.take_append_of_le_length (by omega), List.take_of_length_le (by omega)]
 have hz : (repN (a.length - (i + (a.length - j))) ((0, 0, 0, []) : Bk)).length = a.length - (i + (a.length - j)) := by simp [repN]
 have e10 : (zK (zK a i (a.drop j)) (i + (a.length - j)) (repN (a.length - (i + (a.length - j))) ((0, 0, 0, []) : Bk))).length = a.length := by
  generalize repN (a.length - (i + (a.length - j))) ((0, 0, 0, []) : Bk) = z at *
  rw [zK, List.length_append, List.length_append, List.length_take, List.length_drop, e6, hz]; omega
 have hd : (a.drop j).length = a.length - j := List.length_drop
 rw [ZD, ZE, if_pos ⟨by omega, by omega, by omega⟩, zf, if_pos rfl, zf]
 by_cases hij : (i : Int) = j
 ·rw [if_pos hij]
  have : i = j := by omega
  subst this
  rw [List.take_append_drop]
 ·rw [if_neg hij, zI, if_pos ⟨by omega, by omega⟩, zI, if_pos ⟨by omega, by omega⟩, Za, if_pos (by omega), Za, if_pos (by omega), Zr, if_pos ?_, Za, if_pos (by omega), Za, if_pos (by omega), e9 _ hz]
  refine ⟨by rw [ZF]; omega, by rw [ZF, zb]; omega, ?_⟩
  rw [zb, capN, lenN, e6]; omega
theorem zut (s : Shf) (n : Int) (hs : okS s) : jV s n = some (Jy s n) := by
 unfold jV Jy
 rw [z1v s hs, z7, zj]
 by_cases hc : chkS s = 0
 ·obtain ⟨h4, hr⟩ := chkS_zero.1 hc
  rw [if_pos hc, if_pos hc, zi, zy]
  by_cases h0 : n < 0
  ·rw [if_pos h0, if_pos (.inl h0)]
  by_cases h1 : 100001 < n
  ·rw [if_neg h0, if_pos h1, if_pos (.inr h1)]
  rw [if_neg h0, if_neg h1, if_neg (by omega)]
  obtain ⟨r0, r1, r2, r3, rfl⟩ := len4 h4
  simp only [List.mem_cons, List.not_mem_nil, or_false, forall_eq_or_imp, forall_eq] at hr
  obtain ⟨a0, a1, a2, a3⟩ := hr
  have b0 := (Zm a0).1; have b1 := (Zm a1).1; have b2 := (Zm a2).1; have b3 := (Zm a3).1
  refine (zgR r0 r1 r2 r3 (yn a0) (yn a1) (yn a2) (yn a3) b0 b1 b2 b3 _).trans ?_
  simp only
  rw [Jz _ _ (by omega), z7, Jz _ _ (by omega), z7, Jz _ _ (by omega), z7, Jz _ _ (by omega), z7]
  rfl
 ·rw [if_neg hc, if_neg hc]
end Go.Proofs.Y
namespace Go.Proofs.Y
open Go.Rb Go.Kx
theorem z5i (r : Rowd) (h : (allR r).2 = 0) (c : Int) (E : List Bk → List Pt → Shf) :
  ifB (ltI c 1) (some (([] : Shf), (3 : Int))) (ifB (gtI c (lenI r.2)) (some ([], 3)) (ifB (eqI (lenI r.1) 8) (some ([], 2)) (ifB (in1 r.2 c) (ifB (inN r.2 0 (natI c))
   (z6 (Y7 (subN r.2 0 (natI c))) fun (y : (Int × Int × Int × List Bool) × Int) => ifB (neI (Prod.snd y) 0) (some ([], Prod.snd y))
    (ifB (zh 48 r.1 [(Prod.fst (Prod.fst y), Prod.fst (Prod.snd (Prod.fst y)), Prod.fst (Prod.snd (Prod.snd (Prod.fst y))), Prod.snd (Prod.snd (Prod.snd (Prod.fst y))))])
     (ifB (in1 r.2 c) (some (E (cat r.1 [(Prod.fst (Prod.fst y), Prod.fst (Prod.snd (Prod.fst y)), Prod.fst (Prod.snd (Prod.snd (Prod.fst y))), Prod.snd (Prod.snd (Prod.snd (Prod.fst y))))]) (yF r.2 c), 0)) none) none)) none) none)))
   = some (if (Y3 c r).2 = 0 then (E (Y3 c r).1.1 (Y3 c r).1.2, 0) else ([], (Y3 c r).2)) := by
 have h8 := (Zm h).1
 have hl := (yn h).2.2
 rw [zi, zy, zf, zb, zb]
 by_cases h1 : c < 1
 ·have hv : Y3 c r = (r, 3) := by unfold Y3; rw [if_pos (.inl h1)]
  rw [if_pos h1, hv]; rfl
 by_cases h2 : (r.2.length : Int) < c
 ·have hv : Y3 c r = (r, 3) := by unfold Y3; rw [if_pos (.inr h2)]
  rw [if_neg h1, if_pos h2, hv]; rfl
 have h12 : ¬ (c < 1 ∨ (r.2.length : Int) < c) := by omega
 rw [if_neg h1, if_neg h2]
 by_cases h3 : r.1.length = 8
 ·have hv : Y3 c r = (r, 2) := by unfold Y3; rw [if_neg h12, if_pos h3]
  rw [if_pos (by omega), hv]; rfl
 have hs : subN r.2 0 (natI c) = r.2.take c.toNat := rfl
 rw [if_neg (by omega), zI, if_pos ⟨by omega, by omega⟩, Za, if_pos (by rw [zL]; omega), hs, zp1 _ (by rw [List.length_take]; omega), z7, zj]
 by_cases h4 : (VH (r.2.take c.toNat)).2 = 0
 ·have hv : Y3 c r = ((r.1 ++ [(VH (r.2.take c.toNat)).1], r.2.drop c.toNat), 0) := by unfold Y3; rw [if_neg h12, if_neg h3, if_neg (not_not_intro h4)]
  rw [if_pos h4, zz, if_pos (by simp only [List.length_cons, List.length_nil]; omega), zI, if_pos ⟨by omega, by omega⟩, hv]; rfl
 ·have hv : Y3 c r = (r, (VH (r.2.take c.toNat)).2) := by unfold Y3; rw [if_neg h12, if_neg h3, if_pos h4]
  rw [if_neg h4, hv]
  simp only
  rw [if_neg h4]
theorem i4 {i : Int} (h0 : ¬ i < 0) (h1 : ¬ 4 ≤ i) : i = 0 ∨ i = 1 ∨ i = 2 ∨ i = 3 := by omega
theorem zuu (s : Shf) (i n : Int) (hs : okS s) : jU s i n = some (Jx s i n) := by
 unfold jU Jx
 rw [z1v s hs, z7, zj]
 by_cases hc : chkS s = 0
 ·obtain ⟨h4, hr⟩ := chkS_zero.1 hc
  unfold V1
  rw [if_pos hc, if_pos hc, zi, zP, zb, h4]
  by_cases h0 : i < 0
  ·rw [if_pos h0, if_pos (.inl h0)]
  by_cases h1 : ((4 : Nat) : Int) ≤ i
  ·rw [if_neg h0, if_pos h1, if_pos (.inr h1)]
  rw [if_neg h0, if_neg h1, if_neg (show ¬ (i < 0 ∨ ((4 : Nat) : Int) ≤ i) by omega)]
  obtain ⟨r0, r1, r2, r3, rfl⟩ := len4 h4
  simp only [List.mem_cons, List.not_mem_nil, or_false, forall_eq_or_imp, forall_eq] at hr
  obtain ⟨a0, a1, a2, a3⟩ := hr
  have b0 := (Zm a0).1; have b1 := (Zm a1).1; have b2 := (Zm a2).1; have b3 := (Zm a3).1
  refine (zgR r0 r1 r2 r3 (yn a0) (yn a1) (yn a2) (yn a3) b0 b1 b2 b3 _).trans ?_
  simp only
  rcases i4 h0 (by omega) with rfl | rfl | rfl | rfl
  ·rw [zf, if_pos rfl]; exact z5i r0 a0 n (fun b h => [(b, h), r1, r2, r3])
  ·rw [zf, if_neg (by decide), zf, if_pos rfl]; exact z5i r1 a1 n (fun b h => [r0, (b, h), r2, r3])
  ·rw [zf, if_neg (by decide), zf, if_neg (by decide), zf, if_pos rfl]; exact z5i r2 a2 n (fun b h => [r0, r1, (b, h), r3])
  ·rw [zf, if_neg (by decide), zf, if_neg (by decide), zf, if_neg (by decide), zf, if_pos rfl]; exact z5i r3 a3 n (fun b h => [r0, r1, r2, (b, h)])
 ·rw [if_neg hc, if_neg hc]
theorem z3K (r : Rowd) (h : (allR r).2 = 0) (c : Int) (E : List Bk → Shf) :
  ifB (ltI c 0) (some (([] : Shf), (3 : Int))) (ifB (geI c (wsub IntKind.i64 (lenI r.1) 1)) (some ([], 3)) (ifB (ltL c r.1) (z6 (atN r.1 (natI c)) fun (y : Int × Int × Int × List Bool) => ifB (ltL (wadd IntKind.i64 c 1) r.1)
   (z6 (atN r.1 (natI (wadd IntKind.i64 c 1))) fun (y_9 : Int × Int × Int × List Bool) => z6 (Yd (Prod.fst y, Prod.fst (Prod.snd y), Prod.fst (Prod.snd (Prod.snd y)), Prod.snd (Prod.snd (Prod.snd y))) (Prod.fst y_9, Prod.fst (Prod.snd y_9), Prod.fst (Prod.snd (Prod.snd y_9)), Prod.snd (Prod.snd (Prod.snd y_9)))) fun (y : (Int × Int × Int × List Bool) × Int) =>
    ifB (neI (Prod.snd y) 0) (some ([], Prod.snd y)) (ifB (ltL c r.1) (z6 (atN r.1 (natI c)) fun (_ : Int × Int × Int × List Bool) =>
     z6 (vZ (setN r.1 (natI c) (Prod.fst (Prod.fst y), Prod.fst (Prod.snd (Prod.fst y)), Prod.fst (Prod.snd (Prod.snd (Prod.fst y))), Prod.snd (Prod.snd (Prod.snd (Prod.fst y))))) (wadd IntKind.i64 c 1) (wadd IntKind.i64 c 2)) fun (y : List (Int × Int × Int × List Bool)) => some (E y, 0)) none)) none) none))
   = some (if (yM c r).2 = 0 then (E (yM c r).1.1, 0) else ([], (yM c r).2)) := by
 have h8 := (Zm h).1
 have hb := (yn h).1
 rw [zi, zP, zb, ZU ⟨by omega, by omega⟩]
 by_cases h1 : c < 0
 ·have hv : yM c r = (r, 3) := by unfold yM; rw [if_pos (.inl h1)]
  rw [if_pos h1, hv]; rfl
 by_cases h2 : (r.1.length : Int) - 1 ≤ c
 ·have hv : yM c r = (r, 3) := by unfold yM; rw [if_pos (.inr h2)]
  rw [if_neg h1, if_pos h2, hv]; rfl
 obtain ⟨k, rfl⟩ : ∃ k : Nat, c = k := ⟨c.toNat, by omega⟩
 have h12 : ¬ ((k : Int) < 0 ∨ (r.1.length : Int) - 1 ≤ k) := by omega
 have hw2 : wadd .i64 (k : Int) 2 = ((k + 2 : Nat) : Int) := by rw [ZM ⟨by omega, by omega⟩]; rfl
 have e1 : ∀ b : Bk, ((b.1, b.2.1, b.2.2.1, b.2.2.2) : Bk) = b := fun _ => rfl
 have hmw : yM (k : Int) r = if ¬ (YH (r.1.getD k default) (r.1.getD (k + 1) default)).2 = 0 then (r, (YH (r.1.getD k default) (r.1.getD (k + 1) default)).2)
  else ((r.1.take k ++ (YH (r.1.getD k default) (r.1.getD (k + 1) default)).1 :: r.1.drop (k + 2), r.2), 0) := by unfold yM; rw [if_neg h12, Int.toNat_natCast]
 rw [if_neg h1, if_neg h2, zH, if_pos ⟨by omega, by omega⟩, zF (by omega), hw2, zL, zL, Int.toNat_natCast, Int.toNat_natCast, yw (by omega), z7, zH, if_pos ⟨by omega, by omega⟩, yw (by omega), z7, hmw]
 simp only [e1]
 have x1 := hb _ (yi (l := r.1) (i := k) (by omega))
 have x2 := hb _ (yi (l := r.1) (i := k + 1) (by omega))
 generalize r.1.getD (k + 1) default = y at *
 generalize r.1.getD k default = x at *
 rw [zsY x y x1 x2, z7, zj]
 generalize YH x y = q
 by_cases h4 : q.2 = 0
 ·have hd : (r.1.set k q.1).take (k + 1) ++ (r.1.set k q.1).drop (k + 2) = r.1.take k ++ q.1 :: r.1.drop (k + 2) := by
   rw [zfr (by omega), zfs (by omega), List.append_assoc]; rfl
  rw [if_pos h4, zH, if_pos ⟨by omega, by omega⟩, z7, Zi, zq4 _ _ _ (by omega) (by rw [List.length_set]; omega) (by rw [List.length_set]; omega), z7, if_neg (not_not_intro h4), hd]
  rfl
 ·rw [if_neg h4, if_pos h4]
  simp only
  rw [if_neg h4]
theorem zru (s : Shf) (i n : Int) (hs : okS s) : VT s i n = some (Vs s i n) := by
 unfold VT Vs
 rw [z1v s hs, z7, zj]
 by_cases hc : chkS s = 0
 ·obtain ⟨h4, hr⟩ := chkS_zero.1 hc
  unfold V1
  rw [if_pos hc, if_pos hc, zi, zP, zb, h4]
  by_cases h0 : i < 0
  ·rw [if_pos h0, if_pos (.inl h0)]
  by_cases h1 : ((4 : Nat) : Int) ≤ i
  ·rw [if_neg h0, if_pos h1, if_pos (.inr h1)]
  rw [if_neg h0, if_neg h1, if_neg (show ¬ (i < 0 ∨ ((4 : Nat) : Int) ≤ i) by omega)]
  obtain ⟨r0, r1, r2, r3, rfl⟩ := len4 h4
  simp only [List.mem_cons, List.not_mem_nil, or_false, forall_eq_or_imp, forall_eq] at hr
  obtain ⟨a0, a1, a2, a3⟩ := hr
  have b0 := (Zm a0).1; have b1 := (Zm a1).1; have b2 := (Zm a2).1; have b3 := (Zm a3).1
  refine (zgR r0 r1 r2 r3 (yn a0) (yn a1) (yn a2) (yn a3) b0 b1 b2 b3 _).trans ?_
  simp only
  have e : ∀ r : Rowd, (yM n r).1.2 = r.2 := by
   intro r
   unfold yM
   split
   ·rfl
   ·split <;> rfl
  rcases i4 h0 (by omega) with rfl | rfl | rfl | rfl
  ·rw [zf, if_pos rfl]; refine (z3K r0 a0 n (fun b => [(b, r0.2), r1, r2, r3])).trans ?_; rw [← e r0]; rfl
  ·rw [zf, if_neg (by decide), zf, if_pos rfl]; refine (z3K r1 a1 n (fun b => [r0, (b, r1.2), r2, r3])).trans ?_; rw [← e r1]; rfl
  ·rw [zf, if_neg (by decide), zf, if_neg (by decide), zf, if_pos rfl]; refine (z3K r2 a2 n (fun b => [r0, r1, (b, r2.2), r3])).trans ?_; rw [← e r2]; rfl
  ·rw [zf, if_neg (by decide), zf, if_neg (by decide), zf, if_neg (by decide), zf, if_pos rfl]; refine (z3K r3 a3 n (fun b => [r0, r1, r2, (b, r3.2)])).trans ?_; rw [← e r3]; rfl
 ·rw [if_neg hc, if_neg hc]
theorem z7H {β : Type} (r : Rowd) (h : (allR r).2 = 0) (x : Ent) (E : List Pt → β) :
  ifB (zh 16 r.2 [(Prod.fst (Prod.snd x), Prod.snd (Prod.snd x))]) (z6 (yB (r.1, cat r.2 [(Prod.fst (Prod.snd x), Prod.snd (Prod.snd x))])) fun (y_9 : List (Int × Int) × Int) =>
   ifB (neI (Prod.snd y_9) 0) (mapO Sum.inr (some (([] : Shf), Prod.snd y_9))) (some (Sum.inl (E (cat r.2 [(Prod.fst (Prod.snd x), Prod.snd (Prod.snd x))]))))) none
   = if (allR (putW x r)).2 = 0 then some (Sum.inl (E (putW x r).2)) else some (Sum.inr ([], (allR (putW x r)).2)) := by
 have hl := (yn h)
 have hl2 : r.2.length ≤ 40 := by
  have := Yv (Zm h).2.2.1
  rw [List.length_append] at this; omega
 have hk : okR (putW x r) := ⟨hl.1, hl.2.1, by show (r.2 ++ [_]).length ≤ _; rw [List.length_append, List.length_singleton]; omega⟩
 rw [zz, if_pos (by simp only [List.length_cons, List.length_nil]; omega), zY, show yB (r.1, r.2 ++ [(x.2.1, x.2.2)]) = some (allR (putW x r)) from zmp _ hk, z7, zj]
 rfl
theorem zo1 (s : Shf) (l : List Ent) (hs : okS s) (hl : l.length < 4611686018427387904) : z0B s l = some (putS s l) := by
 unfold z0B putS
 rw [z1v s hs, z7, zj]
 by_cases hc : chkS s = 0
 ·obtain ⟨h4, hr⟩ := chkS_zero.1 hc
  rw [if_pos hc, if_pos hc, zy, zb]
  by_cases h10 : 10 < l.length
  ·rw [if_pos (by omega), if_pos h10]
  rw [if_neg (by omega), if_neg h10]
  obtain ⟨r0, r1, r2, r3, rfl⟩ := len4 h4
  simp only [List.mem_cons, List.not_mem_nil, or_false, forall_eq_or_imp, forall_eq] at hr
  obtain ⟨a0, a1, a2, a3⟩ := hr
  have b0 := (Zm a0).1; have b1 := (Zm a1).1; have b2 := (Zm a2).1; have b3 := (Zm a3).1
  refine (zgR r0 r1 r2 r3 (yn a0) (yn a1) (yn a2) (yn a3) b0 b1 b2 b3 _).trans ?_
  simp only
  refine zQ l (fun j (s : List Pt × List Pt × List Pt × List Pt) => ((j : Int), s.1, s.2.1, s.2.2.1, s.2.2.2)) (G := fun rest s => some (putE [(r0.1, s.1), (r1.1, s.2.1), (r2.1, s.2.2.1), (r3.1, s.2.2.2)] rest))
   (P := fun _ s => (allR (r0.1, s.1)).2 = 0 ∧ (allR (r1.1, s.2.1)).2 = 0 ∧ (allR (r2.1, s.2.2.1)).2 = 0 ∧ (allR (r3.1, s.2.2.2)).2 = 0) ?_ ?_ (s0 := (r0.2, r1.2, r2.2, r3.2)) ⟨a0, a1, a2, a3⟩ (by omega)
  ·rintro j ⟨h0, h1, h2, h3⟩ hj ⟨c0, c1, c2, c3⟩ k hk
   have hat := zN hj
   simp only at c0 c1 c2 c3
   generalize l.getD j default = x at *
   simp only
   rw [za, zd, zi, if_pos (by omega), hat, zx, z7, za, zd, zi, putE]
   by_cases x0 : x.1 < 0
   ·rw [if_pos x0, if_pos (.inl x0)]
   rw [if_neg x0, za, zd, zP]
   by_cases x4 : 4 ≤ x.1
   ·rw [if_pos x4, if_pos (.inr x4)]
   rw [if_neg x4, if_neg (show ¬ (x.1 < 0 ∨ 4 ≤ x.1) by omega), za, zf]
   simp only [zF (show (j : Int) < 4611686018427387904 by omega)]
   have f0 := z7H (r0.1, h0) c0 x (fun h => (((j + 1 : Nat) : Int), h, h1, h2, h3))
   have f1 := z7H (r1.1, h1) c1 x (fun h => (((j + 1 : Nat) : Int), h0, h, h2, h3))
   have f2 := z7H (r2.1, h2) c2 x (fun h => (((j + 1 : Nat) : Int), h0, h1, h, h3))
   have f3 := z7H (r3.1, h3) c3 x (fun h => (((j + 1 : Nat) : Int), h0, h1, h2, h))
   rcases i4 x0 x4 with e | e | e | e
   ·rw [if_pos e, e]
    refine (congrArg (fun z => yJ z k) f0).trans ?_
    show _ = some (if (allR (putW x (r0.1, h0))).2 = 0 then putE [putW x (r0.1, h0), (r1.1, h1), (r2.1, h2), (r3.1, h3)] (l.drop (j + 1)) else ([], (allR (putW x (r0.1, h0))).2))
    by_cases hz : (allR (putW x (r0.1, h0))).2 = 0
    ·rw [if_pos hz, if_pos hz]; exact hk (_, h1, h2, h3) ⟨hz, c1, c2, c3⟩
    ·rw [if_neg hz, if_neg hz]; rfl
   ·rw [if_neg (by omega), za, zf, if_pos e, e]
    refine (congrArg (fun z => yJ z k) f1).trans ?_
    show _ = some (if (allR (putW x (r1.1, h1))).2 = 0 then putE [(r0.1, h0), putW x (r1.1, h1), (r2.1, h2), (r3.1, h3)] (l.drop (j + 1)) else ([], (allR (putW x (r1.1, h1))).2))
    by_cases hz : (allR (putW x (r1.1, h1))).2 = 0
    ·rw [if_pos hz, if_pos hz]; exact hk (h0, _, h2, h3) ⟨c0, hz, c2, c3⟩
    ·rw [if_neg hz, if_neg hz]; rfl
   ·rw [if_neg (by omega), za, zf, if_neg (by omega), za, zf, if_pos e, e]
    refine (congrArg (fun z => yJ z k) f2).trans ?_
    show _ = some (if (allR (putW x (r2.1, h2))).2 = 0 then putE [(r0.1, h0), (r1.1, h1), putW x (r2.1, h2), (r3.1, h3)] (l.drop (j + 1)) else ([], (allR (putW x (r2.1, h2))).2))
    by_cases hz : (allR (putW x (r2.1, h2))).2 = 0
    ·rw [if_pos hz, if_pos hz]; exact hk (h0, h1, _, h3) ⟨c0, c1, hz, c3⟩
    ·rw [if_neg hz, if_neg hz]; rfl
   ·rw [if_neg (by omega), za, zf, if_neg (by omega), za, zf, if_neg (by omega), za, zf, if_pos e, e]
    refine (congrArg (fun z => yJ z k) f3).trans ?_
    show _ = some (if (allR (putW x (r3.1, h3))).2 = 0 then putE [(r0.1, h0), (r1.1, h1), (r2.1, h2), putW x (r3.1, h3)] (l.drop (j + 1)) else ([], (allR (putW x (r3.1, h3))).2))
    by_cases hz : (allR (putW x (r3.1, h3))).2 = 0
    ·rw [if_pos hz, if_pos hz]; exact hk (h0, h1, h2, _) ⟨c0, c1, c2, hz⟩
    ·rw [if_neg hz, if_neg hz]; rfl
  ·rintro ⟨h0, h1, h2, h3⟩ _ k
   simp only
   rw [za, zd, zi, if_neg (by omega)]
   rfl
 ·rw [if_neg hc, if_neg hc]
end Go.Proofs.Y
namespace Go.Proofs.Y
open Go.Rb Go.Kx
theorem zgS {γ α : Type} [Inhabited γ] [DecidableEq γ] (A B : List γ) (hl : A.length < 4611686018427387904) (hn : A.length = B.length) (R F : Option α) (T : Int → γ → γ → Option (Sum Int α))
  (hT : ∀ (i : Int) (x y : γ), x ∈ A → T i x y = if x = y then some (Sum.inl (wadd .i64 i 1)) else mapO Sum.inr F) :
  zk maxR (fun (i : Int) => ifB (ltI i (lenI A)) (z6 (atI A i) fun (y : γ) => z6 (atI B i) fun (y3 : γ) => T i y y3) (mapO Sum.inr R)) 0 = if A = B then R else F := by
 refine yD (G := fun _ => if A = B then R else F) (P := fun (i : Int) => 0 ≤ i ∧ i ≤ A.length ∧ ∀ j : Nat, (j : Int) < i → A.getD j default = B.getD j default) (μ := fun (i : Int) => A.length - i.toNat) ?_ maxR 0 ⟨by omega, by omega, fun j hj => by omega⟩ (by unfold maxR; omega)
 rintro i ⟨h0, h1, h2⟩ k hk
 obtain ⟨j, rfl⟩ : ∃ j : Nat, i = j := ⟨i.toNat, by omega⟩
 rw [za, zd, zi, zb]
 by_cases hj : j < A.length
 ·rw [if_pos (by omega), zN hj, zN (by omega : j < B.length), z7, z7, hT _ _ _ (yi hj), zF (by omega)]
  by_cases hq : A.getD j default = B.getD j default
  ·rw [if_pos hq, zu]
   exact hk _ ⟨by omega, by omega, fun j' hj' => by
    by_cases h : j' = j
    ·subst h; exact hq
    ·exact h2 j' (by omega)⟩ (by omega)
  ·have hne : ¬ A = B := by rintro rfl; exact hq rfl
   rw [if_neg hq, if_neg hne, zd]
 ·rw [if_neg (by omega)]
  have : A = B := zlZ hn fun j' hj' => h2 j' (by omega)
  rw [if_pos this]
theorem zcB (a b : Shf) (ha : okS a) : yz a b = some (decide (a = b)) := by
 unfold yz
 rw [zj, zb, zb]
 by_cases hn : (a.length : Int) = b.length
 ·rw [if_pos hn]
  refine (zgS a b ha.1 (by omega) _ (some false) _ ?_).trans ?_
  ·intro i x y hx
   have hok := ha.2 x hx
   rw [zcx (by have := hok.2.2; omega), z7, zO, zj, zb, zb]
   by_cases h2 : x.2 = y.2
   ·rw [if_pos h2]
    by_cases hm : (x.1.length : Int) = y.1.length
    ·rw [if_pos hm]
     refine (zgS x.1 y.1 hok.2.1 (by omega) _ (mapO Sum.inr (some false)) _ ?_).trans ?_
     ·intro i2 u v hu
      rw [show ∀ b : Bk, ((b.1, b.2.1, b.2.2.1, b.2.2.2) : Bk) = b from fun _ => rfl, show ∀ b : Bk, ((b.1, b.2.1, b.2.2.1, b.2.2.2) : Bk) = b from fun _ => rfl, zuq u v (hok.1 u hu), z7, zC, zO]
     ·by_cases h1 : x.1 = y.1
      ·rw [if_pos h1, if_pos (Prod.ext h1 h2)]
      ·rw [if_neg h1, if_neg (fun h => h1 (congrArg Prod.fst h))]
    ·rw [if_neg hm, if_neg (fun h => hm (by rw [h]))]
   ·rw [if_neg h2, if_neg (fun h => h2 (congrArg Prod.snd h))]
  ·by_cases h : a = b
   ·simp [h]
   ·simp [h]
 ·have : ¬ a = b := by rintro rfl; exact hn rfl
  rw [if_neg hn, decide_eq_false this]
theorem zcC (a b : Shf) (ha : okS a) : Zj a b = some (decide (a = b)) := by
 unfold Zj
 rw [zj, zb, zb]
 by_cases hn : (a.length : Int) = b.length
 ·rw [if_pos hn]
  refine (zgS a b ha.1 (by omega) _ (some false) _ ?_).trans ?_
  ·intro i x y hx
   have hok := ha.2 x hx
   rw [zj, zb, zb]
   by_cases hm : (x.1.length : Int) = y.1.length
   ·rw [if_pos hm]
    refine (zgS x.1 y.1 hok.2.1 (by omega) _ (mapO Sum.inr (some false)) _ ?_).trans ?_
    ·intro i2 u v hu
     rw [show ∀ b : Bk, ((b.1, b.2.1, b.2.2.1, b.2.2.2) : Bk) = b from fun _ => rfl, show ∀ b : Bk, ((b.1, b.2.1, b.2.2.1, b.2.2.2) : Bk) = b from fun _ => rfl, zmn u v (hok.1 u hu), z7, zC, zO]
    ·rw [zcx (by have := hok.2.2; omega), z7, zC, zO]
     by_cases h1 : x.1 = y.1
     ·rw [if_pos h1]
      by_cases h2 : x.2 = y.2
      ·rw [if_pos h2, if_pos (Prod.ext h1 h2)]
      ·rw [if_neg h2, if_neg (fun h => h2 (congrArg Prod.snd h))]
     ·rw [if_neg h1, if_neg (fun h => h1 (congrArg Prod.fst h))]
   ·rw [if_neg hm, if_neg (fun h => hm (by rw [h]))]
  ·by_cases h : a = b
   ·simp [h]
   ·simp [h]
 ·have : ¬ a = b := by rintro rfl; exact hn rfl
  rw [if_neg hn, decide_eq_false this]
theorem zuv (q : List Pt × Int) : (z7G q).2 = q.2 := by unfold z7G; split <;> rfl
theorem zrv (s : Shf) (l : List Ent) (hc : chkS s = 0) (hl : l.length < 4611686018427387904) : Ys s l = some (if 10 < l.length then ([], 2) else putE s l) := by
 have h4 := (chkS_zero.1 hc).1
 unfold Ys
 rw [zy, zb]
 by_cases h10 : 10 < l.length
 ·rw [if_pos (by omega), if_pos h10]
 rw [if_neg (by omega), if_neg h10, z5h (by omega), z7]
 refine zQ l (fun j (t : Shf) => ((j : Int), ([] : Shf), t)) (G := fun rest t => some (putE t rest)) (P := fun _ t => chkS t = 0) ?_ ?_ (s0 := s) hc (by omega)
 ·rintro j t hj ht k hk
  have hat := zN hj
  have ht4 := (chkS_zero.1 ht).1
  generalize l.getD j default = x at *
  simp only
  rw [za, zd, zi, if_pos (by omega), hat, zx, z7, ju, zx, z7, zC, za, zd, zO, putE, zF (by omega)]
  by_cases hx : 0 ≤ x.1 ∧ x.1 ≤ 3
  ·have hr := z6i ht (i := x.1.toNat) (by omega)
   have hok := yn hr
   have h40 : (t.getD x.1.toNat default).2.length ≤ 40 := by
    have := Yv (Zm hr).2.2.1
    rw [List.length_append] at this; omega
   rw [if_pos hx, if_neg (show ¬ (x.1 < 0 ∨ 4 ≤ x.1) by omega), zH, if_pos ⟨by omega, by omega⟩, zL, yw (by omega), z7]
   generalize t.getD x.1.toNat default = r at *
   have hk2 : okR (putW x r) := ⟨hok.1, hok.2.1, by show (r.2 ++ [_]).length ≤ _; rw [List.length_append, List.length_singleton]; omega⟩
   rw [z1u (by omega), z7, zz, if_pos (by simp only [List.length_cons, List.length_nil]; omega), zY, show ya (r.1, r.2 ++ [(x.2.1, x.2.2)]) = some (z7G (allR (putW x r))) from zcz _ hk2, z7, zuv, zj]
   by_cases hz : (allR (putW x r)).2 = 0
   ·rw [if_pos hz, if_pos hz, zH, if_pos ⟨by omega, by omega⟩, z7, zu]
    exact hk _ (zft ht hz _)
   ·rw [if_neg hz, if_neg hz]; rfl
  ·rw [if_neg hx, if_pos (by omega)]
 ·rintro t _ k
  simp only
  rw [za, zd, zi, if_neg (by omega)]
  rfl
theorem zrw (s : Shf) (i n : Int) (hc : chkS s = 0) : Yt s i n = some (V1 s i (Y3 n)) := by
 have h4 := (chkS_zero.1 hc).1
 unfold Yt V1
 rw [ju, z7, zC, zO]
 by_cases hi : 0 ≤ i ∧ i ≤ 3
 ·have hr := z6i hc (i := i.toNat) (by omega)
  have hok := yn hr
  have h8 := (Zm hr).1
  have h40 : (s.getD i.toNat default).2.length ≤ 40 := by
   have := Yv (Zm hr).2.2.1
   rw [List.length_append] at this; omega
  rw [if_pos hi, if_neg (by omega), z5h (by omega), z7, zH, if_pos ⟨by omega, by omega⟩, zL, yw (by omega), z7, ju, z7, zC, zO, zP, zb, zb]
  generalize s.getD i.toNat default = r at *
  by_cases h1 : 1 ≤ n ∧ n ≤ r.2.length
  ·have h12 : ¬ (n < 1 ∨ (r.2.length : Int) < n) := by omega
   rw [if_pos h1]
   by_cases h3 : r.1.length = 8
   ·have hv : Y3 n r = (r, 2) := by unfold Y3; rw [if_neg h12, if_pos h3]
    rw [if_pos (by omega), hv]; rfl
   ·obtain ⟨g1, _⟩ := zmr hr h1.1 h1.2
    have hv : Y3 n r = ((r.1 ++ [(VH (r.2.take n.toNat)).1], r.2.drop n.toNat), 0) := by unfold Y3; rw [if_neg h12, if_neg h3, g1, if_neg (by simp)]
    rw [if_neg (by omega), zI, if_pos ⟨by omega, by omega⟩, zU, zgP _ (by rw [List.length_take]; omega), z7, z2z (by omega), z7, zz, if_pos (by simp only [List.length_cons, List.length_nil]; omega), zI, if_pos ⟨by omega, by omega⟩, zH, if_pos ⟨by omega, by omega⟩, z7, hv]
    rfl
  ·have hv : Y3 n r = (r, 3) := by unfold Y3; rw [if_pos (by omega)]
   rw [if_neg h1, hv]; rfl
 ·rw [if_neg hi, if_pos (by omega)]
theorem zo2 {a : List (List Bk)} (h : a.length < 4611686018427387904) (h2 : a.flatten.length ≤ 1000000000000) : z5c a = some a.flatten := by
 have h3 : a.flatten.length * 48 ≤ 140737488355328 := by omega
 have h9 := z5d (α := Bk) 48 (0, 0, 0, []) a h (by decide) h3 (by decide)
 exact h9
theorem zmu (s : Shf) (i n : Int) (hc : chkS s = 0) (hn : n ≤ 9223372036854775807) : yW s i n = some (V1 s i (yM n)) := by
 have h4 := (chkS_zero.1 hc).1
 unfold yW V1
 rw [ju, z7, zC, zO]
 by_cases hi : 0 ≤ i ∧ i ≤ 3
 ·have hr := z6i hc (i := i.toNat) (by omega)
  have hok := yn hr
  have h8 := (Zm hr).1
  rw [if_pos hi, if_neg (by omega), z5h (by omega), z7, zH, if_pos ⟨by omega, by omega⟩, zL, yw (by omega), z7, zi, Zy, zP, zb]
  generalize s.getD i.toNat default = r at *
  by_cases h1 : n < 0
  ·have hv : yM n r = (r, 3) := by unfold yM; rw [if_pos (.inl h1)]
   rw [if_pos h1, hv]; rfl
  rw [if_neg h1]
  by_cases hbig : (r.1.length : Int) - 1 ≤ n
  ·have hv : yM n r = (r, 3) := by unfold yM; rw [if_pos (.inr hbig)]
   rw [hv]
   by_cases hw : wadd .i64 n 1 ≤ 0
   ·rw [if_pos hw]; rfl
   ·rw [if_neg hw, if_pos ?_]
    ·rfl
    ·unfold wadd at hw ⊢
     have := IntKind.wrap_i64 (n + 1)
     omega
  ·obtain ⟨k, rfl⟩ : ∃ k : Nat, n = k := ⟨n.toNat, by omega⟩
   have h12 : ¬ ((k : Int) < 0 ∨ (r.1.length : Int) - 1 ≤ k) := by omega
   have hw2 : wadd .i64 (k : Int) 2 = ((k + 2 : Nat) : Int) := by rw [ZM ⟨by omega, by omega⟩]; rfl
   have e1 : ∀ b : Bk, ((b.1, b.2.1, b.2.2.1, b.2.2.2) : Bk) = b := fun _ => rfl
   have hmw : yM (k : Int) r = if ¬ (YH (r.1.getD k default) (r.1.getD (k + 1) default)).2 = 0 then (r, (YH (r.1.getD k default) (r.1.getD (k + 1) default)).2)
    else ((r.1.take k ++ (YH (r.1.getD k default) (r.1.getD (k + 1) default)).1 :: r.1.drop (k + 2), r.2), 0) := by unfold yM; rw [if_neg h12, Int.toNat_natCast]
   rw [zF (by omega), hw2, if_neg (by omega), if_neg (by omega), zN (by omega), z7, zN (by omega), z7, hmw]
   simp only [e1]
   have x1 := hok.1 _ (yi (l := r.1) (i := k) (by omega))
   have x2 := hok.1 _ (yi (l := r.1) (i := k + 1) (by omega))
   generalize r.1.getD (k + 1) default = y at *
   generalize r.1.getD k default = x at *
   rw [zro x y x1 x2, z7, zj]
   generalize YH x y = q
   have hf : [r.1.take k, [q.1], r.1.drop (k + 2)].flatten = r.1.take k ++ q.1 :: r.1.drop (k + 2) := by simp
   by_cases hq : q.2 = 0
   ·rw [if_pos hq, if_neg (not_not_intro hq), zI, if_pos ⟨by omega, by omega⟩, zI, if_pos ⟨by omega, by omega⟩, zU, Z6, Int.toNat_natCast, Int.toNat_natCast, zo2 (by simp) (by rw [hf, List.length_append, List.length_cons, List.length_take, List.length_drop]; omega), z7, hf, zH, if_pos ⟨by omega, by omega⟩, z7]
    rfl
   ·rw [if_neg hq, if_pos hq]
    simp only
    rw [if_neg hq]
 ·rw [if_neg hi, if_pos (by omega)]
theorem zq5 (s : Shf) (n : Int) (hc : chkS s = 0) : Yg s n = some (if n < 0 ∨ 100001 < n then ([], 3) else (s.map (z2y n), 0)) := by
 obtain ⟨h4, hr⟩ := chkS_zero.1 hc
 unfold Yg
 rw [ju, z7, zC, zO]
 by_cases hn : 0 ≤ n ∧ n ≤ 100001
 ·rw [if_pos hn, if_neg (by omega)]
  refine (zQ s (fun j (t : Shf) => ((j : Int), t)) (G := fun rest t => some (t ++ rest.map (z2y n), (0 : Int))) (P := fun j t => t.length = j) ?_ ?_ (s0 := []) rfl (by omega)).trans rfl
  ·rintro j t hj ht k hk
   have hat := zN hj
   have h8 := (Zm (hr _ (yi hj))).1
   generalize s.getD j default = r at *
   simp only
   rw [za, zd, zi, zb, if_pos (by omega), hat, zx, z7]
   refine (congrArg (fun z => yJ z k) (zQ r.1 (fun i (u : List Bk) => ((i : Int), u)) (G := fun rest u => some (Sum.inl (((j + 1 : Nat) : Int), t ++ [(u ++ rest.filter (fun b => decide (n ≤ b.2.2.1)), r.2)]))) (P := fun i u => u.length ≤ i) ?_ ?_ (s0 := []) (by simp) (by omega))).trans ?_
   ·rintro i u hi hu k2 hk2
    have hat2 := zN hi
    generalize r.1.getD i default = b at *
    simp only
    rw [za, zd, zi, zb, if_pos (by omega), hat2, zx, z7, za, za, zB, zu, zu, zP, List.filter_cons, zF (by omega)]
    by_cases hb : n ≤ b.2.2.1
    ·rw [if_pos hb, zz, if_pos (by simp only [List.length_cons, List.length_nil]; omega), if_pos (by simpa using hb)]
     refine (hk2 (u ++ [b]) (by rw [List.length_append, List.length_singleton]; omega)).trans ?_
     rw [List.append_assoc]; rfl
    ·rw [if_neg hb, if_neg (by simpa using hb)]
     exact hk2 u (by omega)
   ·rintro u hu k2
    simp only
    rw [za, zd, zi, zb, if_neg (by omega), zz, if_pos (by simp only [List.length_cons, List.length_nil]; omega), zF (by omega), List.filter_nil, List.append_nil]; rfl
   ·rw [zu]
    refine (hk _ (by rw [List.length_append, List.length_singleton, ht])).trans ?_
    rw [List.map_cons, List.append_assoc]; rfl
  ·rintro t ht k
   simp only
   rw [za, zd, zi, zb, if_neg (by omega)]
   simp
 ·rw [if_neg hn, if_pos (by omega)]
end Go.Proofs.Y
namespace Go.Rb
open Go.Kx
def JA (s : Shf) (r : Rc) : Shf × Int := if r.1 = 1 then putS s r.2.2.2 else if r.1 = 2 then Jx s r.2.1 r.2.2.1 else if r.1 = 3 then Vs s r.2.1 r.2.2.1 else Jy s r.2.2.1
def ZN (s : Shf) (r : Rc) : Shf × Int := if chkS s = 0 then (if zA r = 0 then JA s r else ([], zA r)) else ([], chkS s)
def yc : Shf → List Rc → Shf × Int
 | s, [] => (s, 0)
 | s, r :: l => if (ZN s r).2 = 0 then yc (ZN s r).1 l else ([], (ZN s r).2)
def yG : Shf := [([], []), ([], []), ([], []), ([], [])]
theorem z3v : chkS yG = 0 := by decide +kernel
def zE (l : List Rc) : Shf × Int := if 60 < l.length then ([], 2) else yc yG l
theorem zt4 {s : Shf} {r : Rc} (h : (JA s r).2 = 0) : chkS s = 0 ∧ chkS (JA s r).1 = 0 := by
 unfold JA at h ⊢
 split
 ·rename_i h1; rw [if_pos h1] at h; exact ⟨(zif h).1, (zif h).2.2.1⟩
 ·rename_i h1
  rw [if_neg h1] at h
  split
  ·rename_i h2; rw [if_pos h2] at h; exact ⟨(zfv h).1, (zfv h).2.1⟩
  ·rename_i h2
   rw [if_neg h2] at h
   split
   ·rename_i h3; rw [if_pos h3] at h; exact ⟨(zcA h).1, (zcA h).2.1⟩
   ·rename_i h3; rw [if_neg h3] at h; exact ⟨(zfw h).1, (zfw h).2.2.1⟩
theorem z6j {s : Shf} {r : Rc} (h : (ZN s r).2 = 0) : chkS s = 0 ∧ zA r = 0 ∧ ZN s r = JA s r ∧ chkS (ZN s r).1 = 0 := by
 unfold ZN at h ⊢
 split at h
 ·rename_i h1
  split at h
  ·rename_i h2
   rw [if_pos h1, if_pos h2]
   exact ⟨h1, h2, rfl, (zt4 h).2⟩
  ·rename_i h2; exact absurd h h2
 ·rename_i h1; exact absurd h h1
theorem zgT : ∀ {l : List Rc} {s : Shf}, chkS s = 0 → (yc s l).2 = 0 → chkS (yc s l).1 = 0
 | [], _, h, _ => h
 | r :: l, s, h, he => by
  rw [yc] at he ⊢
  split at he
  ·rename_i h1
   rw [if_pos h1]
   exact zgT (z6j h1).2.2.2 he
  ·rename_i h1; exact absurd he h1
theorem zeE : ∀ {l : List Rc} {s : Shf}, (yc s l).2 = 0 → ∀ r ∈ l, zA r = 0
 | [], _, _ => fun r hr => by cases hr
 | r :: l, s, he => by
  rw [yc] at he
  split at he
  ·rename_i h1
   intro q hq
   rcases List.mem_cons.1 hq with rfl | hq
   ·exact (z6j h1).2.1
   ·exact zeE he q hq
  ·rename_i h1; exact absurd he h1
theorem Va {l : List Rc} (he : (zE l).2 = 0) : l.length ≤ 60 ∧ chkS (zE l).1 = 0 ∧ ∀ r ∈ l, zA r = 0 := by
 unfold zE at he ⊢
 split at he
 ·cases he
 ·rename_i h
  rw [if_neg h]
  exact ⟨by omega, zgT z3v he, zeE he⟩
end Go.Rb
namespace Go.Proofs.Y
open Go.Rb Go.Kx
theorem zgU : yu = some yG := by
 unfold yu
 rw [Z2, if_pos (by decide)]; rfl
theorem z2A : okS ([] : Shf) := ⟨by decide, fun r hr => by cases hr⟩
theorem zt5 (s : Shf) (l : List Ent) : okS (putS s l).1 := by
 by_cases h : (putS s l).2 = 0
 ·exact J4 (zif h).2.2.1
 ·have hE : ∀ (l : List Ent) (s : Shf), ¬ (putE s l).2 = 0 → (putE s l).1 = [] := by
   intro l
   induction l with
   | nil => intro s h; exact absurd rfl h
   | cons x l ih =>
    intro s h
    rw [putE] at h ⊢
    split
    ·rfl
    ·rename_i hx
     rw [if_neg hx] at h
     split
     ·rename_i hz; rw [if_pos hz] at h; exact ih _ h
     ·rfl
  have : (putS s l).1 = [] := by
   unfold putS at h ⊢
   split
   ·rename_i hc
    rw [if_pos hc] at h
    split
    ·rfl
    ·rename_i hl; rw [if_neg hl] at h; exact hE _ _ h
   ·rfl
  rw [this]; exact z2A
theorem zjs {s : Shf} {i : Int} {q : Rowd → Rowd × Int} (h : ¬ (V1 s i q).2 = 0) : (V1 s i q).1 = [] := by
 unfold V1 at h ⊢
 split
 ·rfl
 ·rename_i hi
  rw [if_neg hi] at h
  split
  ·rename_i hz; rw [if_pos hz] at h; exact absurd rfl h
  ·rfl
theorem zrx (s : Shf) (i n : Int) : okS (Jx s i n).1 := by
 by_cases h : (Jx s i n).2 = 0
 ·exact J4 (zfv h).2.1
 ·have : (Jx s i n).1 = [] := by
   unfold Jx at h ⊢
   split
   ·rename_i hc; rw [if_pos hc] at h; exact zjs h
   ·rfl
  rw [this]; exact z2A
theorem zq6 (s : Shf) (i n : Int) : okS (Vs s i n).1 := by
 by_cases h : (Vs s i n).2 = 0
 ·exact J4 (zcA h).2.1
 ·have : (Vs s i n).1 = [] := by
   unfold Vs at h ⊢
   split
   ·rename_i hc; rw [if_pos hc] at h; exact zjs h
   ·rfl
  rw [this]; exact z2A
theorem zry (s : Shf) (n : Int) : okS (Jy s n).1 := by
 by_cases h : (Jy s n).2 = 0
 ·exact J4 (zfw h).2.2.1
 ·have : (Jy s n).1 = [] := by
   unfold Jy at h ⊢
   split
   ·rename_i hc
    rw [if_pos hc] at h
    split
    ·rfl
    ·rename_i hn; rw [if_neg hn] at h; exact absurd rfl h
   ·rfl
  rw [this]; exact z2A
end Go.Proofs.Y
namespace Go.Proofs.Y
open Go.Rb Go.Kx
theorem z0F (r : Rc) (hl : r.2.2.2.length < 4611686018427387904) : zn r = some (zA r) := by
 unfold zn zA
 have hloop : zk maxR (fun (x : Int) => ifB (ltI x (lenI (Prod.snd (Prod.snd (Prod.snd r))))) (z6 (atI (Prod.snd (Prod.snd (Prod.snd r))) x) fun (y : Int × Int × Int) =>
   z6 (zl (Prod.fst y) 0 3) fun (y_1 : Bool) => ifB (notB y_1) (mapO Sum.inr (some 3)) (z6 (zG (Prod.fst (Prod.snd y), Prod.snd (Prod.snd y))) fun (y : Int) => ifB (neI y 0) (mapO Sum.inr (some 3)) (some (Sum.inl (wadd IntKind.i64 x 1)))))
   (mapO Sum.inr (some 0))) 0 = some (entE r.2.2.2) := by
  generalize r.2.2.2 = l at *
  refine zQ l (fun j (_ : Unit) => (j : Int)) (G := fun rest _ => some (entE rest)) (P := fun _ _ => True) ?_ ?_ (s0 := ()) trivial (by omega)
  ·rintro j _ hj _ k hk
   have hat := zN hj
   generalize l.getD j default = x at *
   simp only [za, zx, zd, zu, ju, z8i, z7]
   rw [zi, zb, if_pos (by omega), hat, z7, zC, zO, zj, zF (by omega), hk () trivial, entE]
   rcases zid ((x.2.1, x.2.2) : Pt) with ⟨hb, hp⟩ | ⟨hb, hp⟩
   ·rw [hp, if_neg (show ¬ (3 : Int) = 0 by decide)]
    have : z0E x := by unfold badP at hb; unfold z0E; simp only at hb; omega
    rw [if_pos this]; split <;> rfl
   ·rw [hp, if_pos rfl]
    unfold PtIn at hb
    simp only at hb
    by_cases h : 0 ≤ x.1 ∧ x.1 ≤ 3
    ·rw [if_pos h, if_neg (by unfold z0E; omega)]
    ·rw [if_neg h, if_pos (by unfold z0E; omega)]
  ·rintro _ _ k
   simp only [za, zd]
   rw [zi, zb, if_neg (by omega)]; rfl
 rw [hloop]
 simp only [ju, z7, zi, zy, zf, zj, zP, zb, zC, zO]
 have hnil : ∀ l : List Ent, l.length = 0 → entE l = 0 := fun l h => by rw [List.eq_nil_of_length_eq_zero h]; rfl
 clear hloop
 obtain ⟨a, b, c, l⟩ := r
 simp only at hl ⊢
 by_cases k : 1 ≤ a ∧ a ≤ 4
 ·rw [if_pos k, if_neg (show ¬ (a < 1 ∨ 4 < a) by omega)]
  by_cases k1 : a = 1
  ·subst k1
   by_cases z1 : b = 0
   ·by_cases z2 : c = 0
    ·subst z1; subst z2
     by_cases h10 : 10 < l.length
     ·have : (10 : Int) < l.length := by omega
      simp [this, h10]
     ·have : ¬ (10 : Int) < l.length := by omega
      simp [this, h10]
    ·simp [z1, z2]
   ·simp [z1]
  ·have h10 : 0 < l.length ∨ l.length = 0 := by omega
   rcases h10 with h0 | h0
   ·have : (0 : Int) < l.length := by omega
    simp only [if_neg k1, if_pos this, if_pos (show 0 < l.length ∨ (a = 4 ∧ ¬ b = 0) from .inl h0)]
   ·have e0 : ¬ (0 : Int) < l.length := by omega
    have e1 : ¬ (10 : Int) < l.length := by omega
    simp only [if_neg k1, if_neg e0, if_neg e1, hnil l h0]
    by_cases k4 : a = 4
    ·by_cases z : b = 0
     ·rw [if_pos k4, if_pos z, if_neg (show ¬ (0 < l.length ∨ (a = 4 ∧ ¬ b = 0)) by omega)]
      by_cases g : 0 ≤ c ∧ c ≤ 100001
      ·rw [if_pos (show 0 ≤ b ∧ b ≤ 3 by omega), if_pos g, if_neg (by omega)]
      ·rw [if_pos (show 0 ≤ b ∧ b ≤ 3 by omega), if_neg g, if_pos (by omega)]
     ·rw [if_pos k4, if_neg z, if_pos (.inr ⟨k4, z⟩)]
    ·rw [if_neg k4, if_neg (show ¬ (0 < l.length ∨ (a = 4 ∧ ¬ b = 0)) by omega)]
     by_cases g0 : 0 ≤ b ∧ b ≤ 3
     ·by_cases g : 0 ≤ c ∧ c ≤ 100001
      ·rw [if_pos g0, if_pos g, if_neg (by omega)]
      ·rw [if_pos g0, if_neg g, if_pos (by omega)]
     ·rw [if_neg g0, if_pos (by omega)]
 ·rw [if_neg k, if_pos (show a < 1 ∨ 4 < a by omega)]
theorem zp7 (s : Shf) (r : Rc) (hs : okS s) (hl : r.2.2.2.length < 4611686018427387904) : y5 s r = some (ZN s r) := by
 unfold y5 ZN JA
 rw [z1v s hs, z7, show Zl (r.1, r.2.1, r.2.2.1, r.2.2.2) = some (zA r) from z67 r hl, z7, zo1 _ _ hs hl, zuu _ _ _ hs, zru _ _ _ hs, zut _ _ hs]
 simp only [z7, zj, zf]
 split
 ·split
  ·split
   ·rfl
   ·split
    ·rfl
    ·split <;> rfl
  ·rfl
 ·rfl
theorem zgV (s : Shf) (r : Rc) (hc : chkS s = 0) (hr : zA r = 0) : yg s r = some (JA s r) := by
 obtain ⟨k1, k2, k3, k4⟩ := Ym hr
 unfold yg JA
 have p1 : putS s r.2.2.2 = if 10 < r.2.2.2.length then ([], 2) else putE s r.2.2.2 := by unfold putS; rw [if_pos hc]
 have p2 : Jx s r.2.1 r.2.2.1 = V1 s r.2.1 (Y3 r.2.2.1) := by unfold Jx; rw [if_pos hc]
 have p3 : Vs s r.2.1 r.2.2.1 = V1 s r.2.1 (yM r.2.2.1) := by unfold Vs; rw [if_pos hc]
 have p4 : Jy s r.2.2.1 = if r.2.2.1 < 0 ∨ 100001 < r.2.2.1 then ([], 3) else (s.map (z2y r.2.2.1), 0) := by unfold Jy; rw [if_pos hc]
 rw [zf, zf, zf, p1, p2, p3, p4]
 by_cases c1 : r.1 = 1
 ·rw [if_pos c1, if_pos c1, zrv s _ hc (by have := (k3 c1).2.2.1; omega)]; rfl
 ·have k5 := k4 c1
  rw [if_neg c1, if_neg c1]
  by_cases c2 : r.1 = 2
  ·rw [if_pos c2, if_pos c2, zrw s _ _ hc]; rfl
  ·rw [if_neg c2, if_neg c2]
   by_cases c3 : r.1 = 3
   ·rw [if_pos c3, if_pos c3, zmu s _ _ hc (by omega)]; rfl
   ·rw [if_neg c3, if_neg c3, zq5 s _ hc]; rfl
theorem zrz (s : Shf) (r : Rc) (hs : okS s) (hl : r.2.2.2.length < 4611686018427387904) : ZX s r = some (ZN s r) := by
 unfold ZX ZN
 rw [zkn s hs, z7, show zn (r.1, r.2.1, r.2.2.1, r.2.2.2) = some (zA r) from z0F r hl, z7, zj, zj]
 by_cases hc : chkS s = 0
 ·rw [if_pos hc, if_pos hc]
  by_cases hr : zA r = 0
  ·rw [if_pos hr, if_pos hr, show yg s (r.1, r.2.1, r.2.2.1, r.2.2.2) = some (JA s r) from zgV s r hc hr]; rfl
  ·rw [if_neg hr, if_neg hr]
 ·rw [if_neg hc, if_neg hc]
theorem zcD (l : List Rc) (hl : l.length < 4611686018427387904) (he : ∀ r ∈ l, r.2.2.2.length < 4611686018427387904) : y0 l = some (zE l) := by
 unfold y0 zE
 rw [zy, zb]
 by_cases h : 60 < l.length
 ·rw [if_pos (by omega), if_pos h]
 ·rw [if_neg (by omega), if_neg h, zgU, z7]
  refine zQ l (fun j (s : Shf) => ((j : Int), ([] : Shf), s)) (G := fun rest s => some (yc s rest)) (P := fun _ s => chkS s = 0) ?_ ?_ (s0 := yG) z3v (by omega)
  ·rintro j s hj hs k hk
   have hat := zN hj
   have hr := he _ (yi hj)
   generalize l.getD j default = r at *
   simp only
   rw [za, zd, zi, if_pos (by omega), hat, zx, z7, zx, show y5 s (r.1, r.2.1, r.2.2.1, r.2.2.2) = some (ZN s r) from zp7 s r (J4 hs) hr, z7, za, zd, zu, zj, yc, zF (by omega)]
   by_cases hz : (ZN s r).2 = 0
   ·rw [if_pos hz, if_pos hz]; exact hk _ (z6j hz).2.2.2
   ·rw [if_neg hz, if_neg hz]
  ·rintro s _ k
   simp only
   rw [za, zd, zi, if_neg (by omega)]; rfl
theorem zrA : z5H = some yG := by
 unfold z5H
 rw [Z2, if_pos (by decide)]; rfl
theorem zgW (l : List Rc) (hl : l.length < 4611686018427387904) (he : ∀ r ∈ l, r.2.2.2.length < 4611686018427387904) : ZJ l = some (zE l) := by
 unfold ZJ zE
 rw [zy, zb]
 by_cases h : 60 < l.length
 ·rw [if_pos (by omega), if_pos h]
 ·rw [if_neg (by omega), if_neg h, zrA, z7]
  refine zQ l (fun j (s : Shf) => ((j : Int), ([] : Shf), s)) (G := fun rest s => some (yc s rest)) (P := fun _ s => chkS s = 0) ?_ ?_ (s0 := yG) z3v (by omega)
  ·rintro j s hj hs k hk
   have hat := zN hj
   have hr := he _ (yi hj)
   generalize l.getD j default = r at *
   simp only
   rw [za, zd, zi, if_pos (by omega), hat, zx, z7, zx, show zn (r.1, r.2.1, r.2.2.1, r.2.2.2) = some (zA r) from z0F r hr, z7, za, zd, zj, yc, zx]
   have hnx : ZN s r = if zA r = 0 then JA s r else ([], zA r) := by unfold ZN; rw [if_pos hs]
   by_cases hc : zA r = 0
   ·rw [if_pos hc] at hnx ⊢
    rw [show yg s (r.1, r.2.1, r.2.2.1, r.2.2.2) = some (JA s r) from zgV s r hs hc, z7, za, zd, zu, zj, ← hnx, zF (by omega)]
    by_cases hz : (ZN s r).2 = 0
    ·rw [if_pos hz, if_pos hz]; exact hk _ (z6j hz).2.2.2
    ·rw [if_neg hz, if_neg hz]
   ·rw [if_neg hc] at hnx ⊢
    rw [hnx]
    simp only
    rw [if_neg hc]
  ·rintro s _ k
   simp only
   rw [za, zd, zi, if_neg (by omega)]; rfl
theorem zrB (s : Shf) (r : Rc) : okS (JA s r).1 := by
 unfold JA
 split
 ·exact zt5 _ _
 ·split
  ·exact zrx _ _ _
  ·split
   ·exact zq6 _ _ _
   ·exact zry _ _
theorem zrC (s : Shf) (r : Rc) : okS (ZN s r).1 := by
 unfold ZN
 split
 ·split
  ·exact zrB _ _
  ·exact z2A
 ·exact z2A
theorem zeF : ∀ (l : List Rc) (s : Shf), okS s → okS (yc s l).1
 | [], _, h => h
 | r :: l, s, h => by
  rw [yc]
  split
  ·exact zeF l _ (zrC s r)
  ·exact z2A
theorem z8l (l : List Rc) : okS (zE l).1 := by
 unfold zE
 split
 ·exact z2A
 ·exact zeF _ _ (J4 z3v)
end Go.Proofs.Y
namespace Go.Proofs.Y
open Go.Rb Go.Kx
noncomputable def zmv : Code := zg Tryz.f130
noncomputable def zmw : FuncId → Option GS := tabG []
theorem zt6 : ΓOK Tryz.prog zmw := ze
def zmx : HT := ⟨tabL [], tabH []⟩
noncomputable def zmy : GS := inl T zmw zmx zmv (zo Tryz.f130) (Tryz.f130.ntmps)
theorem zo3 : GSOK Tryz.prog 130 zmy := yV tok zt6 fmo (Ht := zmx) (fn := Tryz.f130) (Tryz.func130) (c := zmv) (by kernel_rfl) (by kernel_rfl) (by kernel_rfl)
end Go.Proofs.Y
namespace Go.Proofs.Y
open Go.Rb Go.Kx
noncomputable def zgX : Code := zg Tryz.f102
noncomputable def zgY : FuncId → Option GS := tabG [(130, zmy)]
theorem zq7 : ΓOK Tryz.prog zgY := z8 (zo3) (ze)
def zgZ : HT := ⟨tabL [(3, .it [] (dyn [.t 3 (.int .i64), .t 11 (.int .i64)])), (11, .it [] (dyn [.a 6 52 (.cons (.int .i64) (.cons (.int .i64) (.cons (.int .i64) (.one (.sl 77 (.cons (.int .i64) (.cons (.int .i64) (.one (.int .i64))))))))), .t 27 (.int .i64)]))], tabH [(10, [.trim 6])]⟩
abbrev z8m : List IT := [.v (.one (.sl 48 (.one (.sl 52 (.cons (.int .i64) (.cons (.int .i64) (.cons (.int .i64) (.one (.sl 77 (.cons (.int .i64) (.cons (.int .i64) (.one (.int .i64))))))))))))) false]
abbrev zeG : List OT := [⟨.one (.sl 52 (.cons (.int .i64) (.cons (.int .i64) (.cons (.int .i64) (.one (.sl 77 (.cons (.int .i64) (.cons (.int .i64) (.one (.int .i64)))))))))), false, []⟩]
set_option maxRecDepth 100000
noncomputable def z2B : List (List (Int × Int × Int × List (Int × Int × Int))) → Option (List (Int × Int × Int × List (Int × Int × Int))) := fun a => zk maxR (fun (x : Int × Int) => ifB (ltI x.2 (lenI a)) (z6 (atI a x.2) fun y => ifB (ltI (wadd .i64 x.1 (lenI y)) 0) none (some (Sum.inl (wadd .i64 x.1 (lenI y), wadd .i64 x.2 1)))) (mapO Sum.inr (ifB (ltI x.1 0) none (ifB (gtI (wsub .i64 x.1 (wsub .i64 0 0)) 0) (ifB (z1T 48 (wsub .i64 x.1 (wsub .i64 0 0))) (ifB (in1 (repI (wsub .i64 x.1 (wsub .i64 0 0)) ((0, 0, 0, []) : Int × Int × Int × List (Int × Int × Int))) 0) (ifB (inN (repI (wsub .i64 x.1 (wsub .i64 0 0)) ((0, 0, 0, []) : Int × Int × Int × List (Int × Int × Int))) 0 (natI 0)) (zk maxR (fun (x : Int × List (Int × Int × Int × List (Int × Int × Int))) => ifB (ltI x.1 (lenI a)) (z6 (atI a x.1) fun y => ifB (zh 48 x.2 y) (some (Sum.inl (wadd .i64 x.1 1, cat x.2 y))) none) (mapO Sum.inr (some x.2))) (0, subN (repI (wsub .i64 x.1 (wsub .i64 0 0)) ((0, 0, 0, []) : Int × Int × Int × List (Int × Int × Int))) 0 (natI 0))) none) none) none) (zk maxR (fun (x : Int × List (Int × Int × Int × List (Int × Int × Int))) => ifB (ltI x.1 (lenI a)) (z6 (atI a x.1) fun y => ifB (zh 48 x.2 y) (some (Sum.inl (wadd .i64 x.1 1, cat x.2 y))) none) (mapO Sum.inr (some x.2))) (0, [])))))) (0, 0)
theorem zko (x : PI z8m) : z2B x = fnE T zgY zgZ zgX (zo Tryz.f102) z8m zeG x := by kernel_rfl
noncomputable abbrev zh0 : GS := zp false z8m zeG fun x => z2B x
theorem zkp : GSOK Tryz.prog 102 zh0 := zm tok zq7 fmo (Ht := zgZ) (fn := Tryz.f102) (Tryz.func102) (c := zgX) (by kernel_rfl) (by kernel_rfl) (by kernel_rfl) (by decide +kernel) (by decide) zko
end Go.Proofs.Y
namespace Go.Proofs.Y
open Go.Rb Go.Kx
set_option maxRecDepth 100000
end Go.Proofs.Y
namespace Go.Proofs.Y
open Go.Rb Go.Kx
set_option maxRecDepth 100000
end Go.Proofs.Y
namespace Go.Proofs.Y
open Go.Rb Go.Kx
noncomputable def zjt : Code := zg Tryz.f86
noncomputable def zju : FuncId → Option GS := tabG []
theorem zrD : ΓOK Tryz.prog zju := ze
def zjv : HT := ⟨tabL [], tabH []⟩
abbrev za1 : List IT := [.v (.one (.sl 5 (.one (.int .u8)))) false]
abbrev zh1 : List OT := [⟨.one (.sl 5 (.one (.int .u8))), false, [true]⟩]
set_option maxRecDepth 100000
noncomputable def vp : List Int → Option (List Int) := fun a => ifB (isE a) (ambO (some []) (ifB (zh 1 [] a) (some (cat [] a)) none)) (ifB (zh 1 [] a) (some (cat [] a)) none)
theorem zmz (x : PI za1) : vp x = fnE T zju zjv zjt (zo Tryz.f86) za1 zh1 x := by kernel_rfl
noncomputable abbrev z7I : GS := zp false za1 zh1 fun x => vp x
theorem z6k : GSOK Tryz.prog 86 z7I := zm tok zrD fmo (Ht := zjv) (fn := Tryz.f86) (Tryz.func86) (c := zjt) (by kernel_rfl) (by kernel_rfl) (by kernel_rfl) (by decide +kernel) (by decide) zmz
end Go.Proofs.Y
namespace Go.Proofs.Y
open Go.Rb Go.Kx
noncomputable def zmA : Code := zg Tryz.f121
noncomputable def zmB : FuncId → Option GS := tabG []
theorem zt7 : ΓOK Tryz.prog zmB := ze
def zmC : HT := ⟨tabL [], tabH []⟩
noncomputable def zmD : GS := inl T zmB zmC zmA (zo Tryz.f121) (Tryz.f121.ntmps)
theorem zo4 : GSOK Tryz.prog 121 zmD := yV tok zt7 fmo (Ht := zmC) (fn := Tryz.f121) (Tryz.func121) (c := zmA) (by kernel_rfl) (by kernel_rfl) (by kernel_rfl)
end Go.Proofs.Y
namespace Go.Proofs.Y
open Go.Rb Go.Kx
noncomputable def zh2 : Code := zg Tryz.f87
noncomputable def zh3 : FuncId → Option GS := tabG [(121, zmD)]
theorem zq8 : ΓOK Tryz.prog zh3 := z8 (zo4) (ze)
def zh4 : HT := ⟨tabL [(3, .it [] (dyn [.t 3 (.int .i64), .t 11 (.int .i64)])), (11, .it [] (dyn [.a 6 5 (.one (.int .u8)), .t 27 (.int .i64)]))], tabH [(10, [.trim 6])]⟩
abbrev z8n : List IT := [.v (.one (.sl 25 (.one (.sl 5 (.one (.int .u8)))))) false]
abbrev zeH : List OT := [⟨.one (.sl 5 (.one (.int .u8))), false, []⟩]
set_option maxRecDepth 100000
noncomputable def YN : List (List Int) → Option (List Int) := fun a => zk maxR (fun (x : Int × Int) => ifB (ltI x.2 (lenI a)) (z6 (atI a x.2) fun y => ifB (ltI (wadd .i64 x.1 (lenI y)) 0) none (some (Sum.inl (wadd .i64 x.1 (lenI y), wadd .i64 x.2 1)))) (mapO Sum.inr (ifB (ltI x.1 0) none (ifB (gtI (wsub .i64 x.1 (wsub .i64 0 0)) 0) (ifB (z1T 1 (wsub .i64 x.1 (wsub .i64 0 0))) (ifB (in1 (repI (wsub .i64 x.1 (wsub .i64 0 0)) 0) 0) (ifB (inN (repI (wsub .i64 x.1 (wsub .i64 0 0)) 0) 0 (natI 0)) (zk maxR (fun (x : Int × List Int) => ifB (ltI x.1 (lenI a)) (z6 (atI a x.1) fun y => ifB (zh 1 x.2 y) (some (Sum.inl (wadd .i64 x.1 1, cat x.2 y))) none) (mapO Sum.inr (some x.2))) (0, subN (repI (wsub .i64 x.1 (wsub .i64 0 0)) 0) 0 (natI 0))) none) none) none) (zk maxR (fun (x : Int × List Int) => ifB (ltI x.1 (lenI a)) (z6 (atI a x.1) fun y => ifB (zh 1 x.2 y) (some (Sum.inl (wadd .i64 x.1 1, cat x.2 y))) none) (mapO Sum.inr (some x.2))) (0, [])))))) (0, 0)
theorem zkq (x : PI z8n) : YN x = fnE T zh3 zh4 zh2 (zo Tryz.f87) z8n zeH x := by kernel_rfl
noncomputable abbrev JB : GS := zp false z8n zeH fun x => YN x
theorem VX : GSOK Tryz.prog 87 JB := zm tok zq8 fmo (Ht := zh4) (fn := Tryz.f87) (Tryz.func87) (c := zh2) (by kernel_rfl) (by kernel_rfl) (by kernel_rfl) (by decide +kernel) (by decide) zkq
end Go.Proofs.Y
namespace Go.Proofs.Y
open Go.Rb Go.Kx Go.Proofs
def atoi_ren : Go.Shelf.Ren := ⟨fun | 172 => 152 | 244 => 172 | 245 => 173 | 247 => 178 | 279 => 193 | 280 => 194 | 281 => 195 | 282 => 196 | 287 => 201 | 316 => 212 | 171 => 120 | 205 => 213 | 321 => 215 | 322 => 216 | 243 => 148 | 246 => 170 | 283 => 185 | 284 => 186 | 285 => 187 | 286 => 188 | 129 => 206 | 317 => 205 | 318 => 207 | 319 => 208 | 320 => 209 | 337 => 217 | 338 => 218 | n => n, fun | 9 => 9 | 3 => 3 | 75 => 183 | 76 => 184 | 4 => 4 | 5 => 5 | 167 => 224 | 37 => 25 | 0 => 0 | 85 => 187 | 2 => 2 | 168 => 225 | 53 => 202 | 175 => 232 | 46 => 174 | 210 => 244 | 127 => 215 | 145 => 251 | 143 => 249 | 21 => 21 | 171 => 218 | 173 => 221 | 212 => 238 | 51 => 199 | 20 => 20 | 213 => 239 | 232 => 256 | 233 => 257 | 80 => 198 | n => n, fun | 15 => 2 | 16 => 3 | 17 => 1 | 18 => 6 | 19 => 7 | n => n⟩
theorem zrE : Go.Proofs.LaysC.n172 Tryz.prog atoi_ren := {
 mixed := by kernel_rfl
 f129 := Tryz.func206.trans (congrArg some (by kernel_rfl))
 f171 := Tryz.func120.trans (congrArg some (by kernel_rfl))
 f172 := Tryz.func152.trans (congrArg some (by kernel_rfl))
 f205 := Tryz.func213.trans (congrArg some (by kernel_rfl))
 f243 := Tryz.func148.trans (congrArg some (by kernel_rfl))
 f244 := Tryz.func172.trans (congrArg some (by kernel_rfl))
 f245 := Tryz.func173.trans (congrArg some (by kernel_rfl))
 f246 := Tryz.func170.trans (congrArg some (by kernel_rfl))
 f247 := Tryz.func178.trans (congrArg some (by kernel_rfl))
 f279 := Tryz.func193.trans (congrArg some (by kernel_rfl))
 f280 := Tryz.func194.trans (congrArg some (by kernel_rfl))
 f281 := Tryz.func195.trans (congrArg some (by kernel_rfl))
 f282 := Tryz.func196.trans (congrArg some (by kernel_rfl))
 f283 := Tryz.func185.trans (congrArg some (by kernel_rfl))
 f284 := Tryz.func186.trans (congrArg some (by kernel_rfl))
 f285 := Tryz.func187.trans (congrArg some (by kernel_rfl))
 f286 := Tryz.func188.trans (congrArg some (by kernel_rfl))
 f287 := Tryz.func201.trans (congrArg some (by kernel_rfl))
 f316 := Tryz.func212.trans (congrArg some (by kernel_rfl))
 f317 := Tryz.func205.trans (congrArg some (by kernel_rfl))
 f318 := Tryz.func207.trans (congrArg some (by kernel_rfl))
 f319 := Tryz.func208.trans (congrArg some (by kernel_rfl))
 f320 := Tryz.func209.trans (congrArg some (by kernel_rfl))
 f321 := Tryz.func215.trans (congrArg some (by kernel_rfl))
 f322 := Tryz.func216.trans (congrArg some (by kernel_rfl))
 f337 := Tryz.func217.trans (congrArg some (by kernel_rfl))
 f338 := Tryz.func218.trans (congrArg some (by kernel_rfl))
 t0 := Tryz.underlying0
 a0 := Tryz.isAgg0
 z0 := Tryz.sizeOf0
 v0 := Tryz.zeroValue0
 t2 := Tryz.underlying2
 a2 := Tryz.isAgg2
 z2 := Tryz.sizeOf2
 v2 := Tryz.zeroValue2
 t3 := Tryz.underlying3
 a3 := Tryz.isAgg3
 z3 := Tryz.sizeOf3
 v3 := Tryz.zeroValue3
 t4 := Tryz.underlying4
 a4 := Tryz.isAgg4
 z4 := Tryz.sizeOf4
 v4 := Tryz.zeroValue4
 t5 := Tryz.underlying5
 a5 := Tryz.isAgg5
 z5 := Tryz.sizeOf5
 v5 := Tryz.zeroValue5
 t9 := Tryz.underlying9
 a9 := Tryz.isAgg9
 z9 := Tryz.sizeOf9
 v9 := Tryz.zeroValue9
 t20 := Tryz.underlying20
 a20 := Tryz.isAgg20
 z20 := Tryz.sizeOf20
 v20 := Tryz.zeroValue20
 t21 := Tryz.underlying21
 a21 := Tryz.isAgg21
 z21 := Tryz.sizeOf21
 v21 := Tryz.zeroValue21
 t37 := Tryz.underlying25
 a37 := Tryz.isAgg25
 z37 := Tryz.sizeOf25
 v37 := Tryz.zeroValue25
 t46 := Tryz.underlying174
 a46 := Tryz.isAgg174
 z46 := Tryz.sizeOf174
 v46 := Tryz.zeroValue174
 t51 := Tryz.underlying199
 a51 := Tryz.isAgg199
 z51 := Tryz.sizeOf199
 v51 := Tryz.zeroValue199
 t53 := Tryz.underlying202
 a53 := Tryz.isAgg202
 z53 := Tryz.sizeOf202
 v53 := Tryz.zeroValue202
 t75 := Tryz.underlying183
 a75 := Tryz.isAgg183
 z75 := Tryz.sizeOf183
 v75 := Tryz.zeroValue183
 t76 := Tryz.underlying184
 a76 := Tryz.isAgg184
 z76 := Tryz.sizeOf184
 v76 := Tryz.zeroValue184
 t85 := Tryz.underlying187
 a85 := Tryz.isAgg187
 z85 := Tryz.sizeOf187
 v85 := Tryz.zeroValue187
 t127 := Tryz.underlying215
 a127 := Tryz.isAgg215
 z127 := Tryz.sizeOf215
 v127 := Tryz.zeroValue215
 t143 := Tryz.underlying249
 a143 := Tryz.isAgg249
 z143 := Tryz.sizeOf249
 v143 := Tryz.zeroValue249
 t145 := Tryz.underlying251
 a145 := Tryz.isAgg251
 z145 := Tryz.sizeOf251
 v145 := Tryz.zeroValue251
 t167 := Tryz.underlying224
 a167 := Tryz.isAgg224
 z167 := Tryz.sizeOf224
 v167 := Tryz.zeroValue224
 t168 := Tryz.underlying225
 a168 := Tryz.isAgg225
 z168 := Tryz.sizeOf225
 v168 := Tryz.zeroValue225
 t171 := Tryz.underlying218
 a171 := Tryz.isAgg218
 z171 := Tryz.sizeOf218
 v171 := Tryz.zeroValue218
 t173 := Tryz.underlying221
 a173 := Tryz.isAgg221
 z173 := Tryz.sizeOf221
 v173 := Tryz.zeroValue221
 t175 := Tryz.underlying232
 a175 := Tryz.isAgg232
 z175 := Tryz.sizeOf232
 v175 := Tryz.zeroValue232
 t210 := Tryz.underlying244
 a210 := Tryz.isAgg244
 z210 := Tryz.sizeOf244
 v210 := Tryz.zeroValue244
 t212 := Tryz.underlying238
 a212 := Tryz.isAgg238
 z212 := Tryz.sizeOf238
 v212 := Tryz.zeroValue238
 t213 := Tryz.underlying239
 a213 := Tryz.isAgg239
 z213 := Tryz.sizeOf239
 t232 := Tryz.underlying256
 a232 := Tryz.isAgg256
 z232 := Tryz.sizeOf256
 v232 := Tryz.zeroValue256
 t233 := Tryz.underlying257
 a233 := Tryz.isAgg257
 z233 := Tryz.sizeOf257
 v233 := Tryz.zeroValue257
 g15 := by kernel_rfl
 g16 := by kernel_rfl
 g17 := by kernel_rfl
 g18 := by kernel_rfl
 g19 := by kernel_rfl
 t80 := Tryz.underlying198
 a80 := Tryz.isAgg198
 z80 := Tryz.sizeOf198
 v80 := Tryz.zeroValue198
 i0 := by kernel_rfl
 i2 := by kernel_rfl
 i3 := by kernel_rfl
 i4 := by kernel_rfl
 i5 := by kernel_rfl
 i9 := by kernel_rfl
 i20 := by kernel_rfl
 i21 := by kernel_rfl
 i37 := by kernel_rfl
 i46 := by kernel_rfl
 i51 := by kernel_rfl
 i53 := by kernel_rfl
 i75 := by kernel_rfl
 i76 := by kernel_rfl
 i80 := by kernel_rfl
 i85 := by kernel_rfl
 i127 := by kernel_rfl
 i143 := by kernel_rfl
 i145 := by kernel_rfl
 i167 := by kernel_rfl
 i168 := by kernel_rfl
 i171 := by kernel_rfl
 i173 := by kernel_rfl
 i175 := by kernel_rfl
 i210 := by kernel_rfl
 i212 := by kernel_rfl
 i232 := by kernel_rfl
 i233 := by kernel_rfl
 m15 := by kernel_rfl
 m16 := by kernel_rfl
 m17 := by kernel_rfl
 m18 := by kernel_rfl
 m19 := by kernel_rfl
 c0 := by kernel_rfl
 c2 := by kernel_rfl
 c3 := by kernel_rfl
 c4 := by kernel_rfl
 c5 := by kernel_rfl
 c9 := by kernel_rfl
 c20 := by kernel_rfl
 c21 := by kernel_rfl
 c37 := by kernel_rfl
 c46 := by kernel_rfl
 c51 := by kernel_rfl
 c53 := by kernel_rfl
 c75 := by kernel_rfl
 c76 := by kernel_rfl
 c80 := by kernel_rfl
 c85 := by kernel_rfl
 c127 := by kernel_rfl
 c143 := by kernel_rfl
 c145 := by kernel_rfl
 c167 := by kernel_rfl
 c168 := by kernel_rfl
 c171 := by kernel_rfl
 c173 := by kernel_rfl
 c175 := by kernel_rfl
 c210 := by kernel_rfl
 c212 := by kernel_rfl
 c213 := by kernel_rfl
 c232 := by kernel_rfl
 c233 := by kernel_rfl }
theorem zrF : yv Tryz.prog (atoi_ren.f 172) := ⟨Tryz.f152, zg Tryz.f152, Tryz.func152, by kernel_rfl, by kernel_rfl⟩
theorem zuw : GSOK Tryz.prog 152 (.r (libS isS (fun x => z9w x) gErr)) := zqY zrE zrF
def parse_ren : Go.Shelf.Ren := ⟨fun | 174 => 156 | 247 => 178 | 245 => 173 | 287 => 201 | 279 => 193 | 280 => 194 | 281 => 195 | 282 => 196 | 321 => 215 | 322 => 216 | 316 => 212 | 171 => 120 | 205 => 213 | 243 => 148 | 246 => 170 | 283 => 185 | 284 => 186 | 285 => 187 | 286 => 188 | 129 => 206 | 317 => 205 | 318 => 207 | 319 => 208 | 320 => 209 | 337 => 217 | 338 => 218 | n => n, fun | 9 => 9 | 3 => 3 | 2 => 2 | 75 => 183 | 85 => 187 | 4 => 4 | 167 => 224 | 5 => 5 | 53 => 202 | 175 => 232 | 46 => 174 | 168 => 225 | 37 => 25 | 0 => 0 | 210 => 244 | 21 => 21 | 127 => 215 | 145 => 251 | 143 => 249 | 171 => 218 | 173 => 221 | 212 => 238 | 51 => 199 | 20 => 20 | 213 => 239 | 232 => 256 | 233 => 257 | 80 => 198 | n => n, fun | 15 => 2 | 16 => 3 | 17 => 1 | 18 => 6 | 19 => 7 | n => n⟩
theorem zq9 : Go.Proofs.LaysC.n174 Tryz.prog parse_ren := {
 mixed := by kernel_rfl
 f129 := Tryz.func206.trans (congrArg some (by kernel_rfl))
 f171 := Tryz.func120.trans (congrArg some (by kernel_rfl))
 f174 := Tryz.func156.trans (congrArg some (by kernel_rfl))
 f205 := Tryz.func213.trans (congrArg some (by kernel_rfl))
 f243 := Tryz.func148.trans (congrArg some (by kernel_rfl))
 f245 := Tryz.func173.trans (congrArg some (by kernel_rfl))
 f246 := Tryz.func170.trans (congrArg some (by kernel_rfl))
 f247 := Tryz.func178.trans (congrArg some (by kernel_rfl))
 f279 := Tryz.func193.trans (congrArg some (by kernel_rfl))
 f280 := Tryz.func194.trans (congrArg some (by kernel_rfl))
 f281 := Tryz.func195.trans (congrArg some (by kernel_rfl))
 f282 := Tryz.func196.trans (congrArg some (by kernel_rfl))
 f283 := Tryz.func185.trans (congrArg some (by kernel_rfl))
 f284 := Tryz.func186.trans (congrArg some (by kernel_rfl))
 f285 := Tryz.func187.trans (congrArg some (by kernel_rfl))
 f286 := Tryz.func188.trans (congrArg some (by kernel_rfl))
 f287 := Tryz.func201.trans (congrArg some (by kernel_rfl))
 f316 := Tryz.func212.trans (congrArg some (by kernel_rfl))
 f317 := Tryz.func205.trans (congrArg some (by kernel_rfl))
 f318 := Tryz.func207.trans (congrArg some (by kernel_rfl))
 f319 := Tryz.func208.trans (congrArg some (by kernel_rfl))
 f320 := Tryz.func209.trans (congrArg some (by kernel_rfl))
 f321 := Tryz.func215.trans (congrArg some (by kernel_rfl))
 f322 := Tryz.func216.trans (congrArg some (by kernel_rfl))
 f337 := Tryz.func217.trans (congrArg some (by kernel_rfl))
 f338 := Tryz.func218.trans (congrArg some (by kernel_rfl))
 t0 := Tryz.underlying0
 a0 := Tryz.isAgg0
 z0 := Tryz.sizeOf0
 v0 := Tryz.zeroValue0
 t2 := Tryz.underlying2
 a2 := Tryz.isAgg2
 z2 := Tryz.sizeOf2
 v2 := Tryz.zeroValue2
 t3 := Tryz.underlying3
 a3 := Tryz.isAgg3
 z3 := Tryz.sizeOf3
 v3 := Tryz.zeroValue3
 t4 := Tryz.underlying4
 a4 := Tryz.isAgg4
 z4 := Tryz.sizeOf4
 v4 := Tryz.zeroValue4
 t5 := Tryz.underlying5
 a5 := Tryz.isAgg5
 z5 := Tryz.sizeOf5
 v5 := Tryz.zeroValue5
 t9 := Tryz.underlying9
 a9 := Tryz.isAgg9
 z9 := Tryz.sizeOf9
 v9 := Tryz.zeroValue9
 t20 := Tryz.underlying20
 a20 := Tryz.isAgg20
 z20 := Tryz.sizeOf20
 v20 := Tryz.zeroValue20
 t21 := Tryz.underlying21
 a21 := Tryz.isAgg21
 z21 := Tryz.sizeOf21
 v21 := Tryz.zeroValue21
 t37 := Tryz.underlying25
 a37 := Tryz.isAgg25
 z37 := Tryz.sizeOf25
 v37 := Tryz.zeroValue25
 t46 := Tryz.underlying174
 a46 := Tryz.isAgg174
 z46 := Tryz.sizeOf174
 v46 := Tryz.zeroValue174
 t51 := Tryz.underlying199
 a51 := Tryz.isAgg199
 z51 := Tryz.sizeOf199
 v51 := Tryz.zeroValue199
 t53 := Tryz.underlying202
 a53 := Tryz.isAgg202
 z53 := Tryz.sizeOf202
 v53 := Tryz.zeroValue202
 t75 := Tryz.underlying183
 a75 := Tryz.isAgg183
 z75 := Tryz.sizeOf183
 v75 := Tryz.zeroValue183
 t85 := Tryz.underlying187
 a85 := Tryz.isAgg187
 z85 := Tryz.sizeOf187
 v85 := Tryz.zeroValue187
 t127 := Tryz.underlying215
 a127 := Tryz.isAgg215
 z127 := Tryz.sizeOf215
 v127 := Tryz.zeroValue215
 t143 := Tryz.underlying249
 a143 := Tryz.isAgg249
 z143 := Tryz.sizeOf249
 v143 := Tryz.zeroValue249
 t145 := Tryz.underlying251
 a145 := Tryz.isAgg251
 z145 := Tryz.sizeOf251
 v145 := Tryz.zeroValue251
 t167 := Tryz.underlying224
 a167 := Tryz.isAgg224
 z167 := Tryz.sizeOf224
 v167 := Tryz.zeroValue224
 t168 := Tryz.underlying225
 a168 := Tryz.isAgg225
 z168 := Tryz.sizeOf225
 v168 := Tryz.zeroValue225
 t171 := Tryz.underlying218
 a171 := Tryz.isAgg218
 z171 := Tryz.sizeOf218
 v171 := Tryz.zeroValue218
 t173 := Tryz.underlying221
 a173 := Tryz.isAgg221
 z173 := Tryz.sizeOf221
 v173 := Tryz.zeroValue221
 t175 := Tryz.underlying232
 a175 := Tryz.isAgg232
 z175 := Tryz.sizeOf232
 v175 := Tryz.zeroValue232
 t210 := Tryz.underlying244
 a210 := Tryz.isAgg244
 z210 := Tryz.sizeOf244
 v210 := Tryz.zeroValue244
 t212 := Tryz.underlying238
 a212 := Tryz.isAgg238
 z212 := Tryz.sizeOf238
 v212 := Tryz.zeroValue238
 t213 := Tryz.underlying239
 a213 := Tryz.isAgg239
 z213 := Tryz.sizeOf239
 t232 := Tryz.underlying256
 a232 := Tryz.isAgg256
 z232 := Tryz.sizeOf256
 v232 := Tryz.zeroValue256
 t233 := Tryz.underlying257
 a233 := Tryz.isAgg257
 z233 := Tryz.sizeOf257
 v233 := Tryz.zeroValue257
 g15 := by kernel_rfl
 g16 := by kernel_rfl
 g17 := by kernel_rfl
 g18 := by kernel_rfl
 g19 := by kernel_rfl
 t80 := Tryz.underlying198
 a80 := Tryz.isAgg198
 z80 := Tryz.sizeOf198
 v80 := Tryz.zeroValue198
 i0 := by kernel_rfl
 i2 := by kernel_rfl
 i3 := by kernel_rfl
 i4 := by kernel_rfl
 i5 := by kernel_rfl
 i9 := by kernel_rfl
 i20 := by kernel_rfl
 i21 := by kernel_rfl
 i37 := by kernel_rfl
 i46 := by kernel_rfl
 i51 := by kernel_rfl
 i53 := by kernel_rfl
 i75 := by kernel_rfl
 i80 := by kernel_rfl
 i85 := by kernel_rfl
 i127 := by kernel_rfl
 i143 := by kernel_rfl
 i145 := by kernel_rfl
 i167 := by kernel_rfl
 i168 := by kernel_rfl
 i171 := by kernel_rfl
 i173 := by kernel_rfl
 i175 := by kernel_rfl
 i210 := by kernel_rfl
 i212 := by kernel_rfl
 i232 := by kernel_rfl
 i233 := by kernel_rfl
 m15 := by kernel_rfl
 m16 := by kernel_rfl
 m17 := by kernel_rfl
 m18 := by kernel_rfl
 m19 := by kernel_rfl
 c0 := by kernel_rfl
 c2 := by kernel_rfl
 c3 := by kernel_rfl
 c4 := by kernel_rfl
 c5 := by kernel_rfl
 c9 := by kernel_rfl
 c20 := by kernel_rfl
 c21 := by kernel_rfl
 c37 := by kernel_rfl
 c46 := by kernel_rfl
 c51 := by kernel_rfl
 c53 := by kernel_rfl
 c75 := by kernel_rfl
 c80 := by kernel_rfl
 c85 := by kernel_rfl
 c127 := by kernel_rfl
 c143 := by kernel_rfl
 c145 := by kernel_rfl
 c167 := by kernel_rfl
 c168 := by kernel_rfl
 c171 := by kernel_rfl
 c173 := by kernel_rfl
 c175 := by kernel_rfl
 c210 := by kernel_rfl
 c212 := by kernel_rfl
 c213 := by kernel_rfl
 c232 := by kernel_rfl
 c233 := by kernel_rfl }
theorem zqa : yv Tryz.prog (parse_ren.f 174) := ⟨Tryz.f156, zg Tryz.f156, Tryz.func156, by kernel_rfl, by kernel_rfl⟩
theorem zt8 : GSOK Tryz.prog 156 (.r (libS ztI (fun x => z1U (x.1) (x.2.1) (x.2.2)) gErr)) := zpK zq9 zqa
def itoa_ren : Go.Shelf.Ren := ⟨fun | 171 => 120 | 243 => 148 | 246 => 170 | 283 => 185 | 284 => 186 | 285 => 187 | 286 => 188 | 129 => 206 | 317 => 205 | 318 => 207 | 319 => 208 | 320 => 209 | 337 => 217 | 338 => 218 | n => n, fun | 3 => 3 | 9 => 9 | 2 => 2 | 4 => 4 | 171 => 218 | 0 => 0 | 53 => 202 | 37 => 25 | 5 => 5 | 173 => 221 | 212 => 238 | 51 => 199 | 20 => 20 | 213 => 239 | 46 => 174 | 232 => 256 | 233 => 257 | n => n, fun | 17 => 1 | 18 => 6 | 19 => 7 | n => n⟩
theorem zrG : Go.Proofs.LaysM.n171 Tryz.prog itoa_ren := {
 mixed := by kernel_rfl
 f129 := Tryz.func206.trans (congrArg some (by kernel_rfl))
 f171 := Tryz.func120.trans (congrArg some (by kernel_rfl))
 f243 := Tryz.func148.trans (congrArg some (by kernel_rfl))
 f246 := Tryz.func170.trans (congrArg some (by kernel_rfl))
 f283 := Tryz.func185.trans (congrArg some (by kernel_rfl))
 f284 := Tryz.func186.trans (congrArg some (by kernel_rfl))
 f285 := Tryz.func187.trans (congrArg some (by kernel_rfl))
 f286 := Tryz.func188.trans (congrArg some (by kernel_rfl))
 f317 := Tryz.func205.trans (congrArg some (by kernel_rfl))
 f318 := Tryz.func207.trans (congrArg some (by kernel_rfl))
 f319 := Tryz.func208.trans (congrArg some (by kernel_rfl))
 f320 := Tryz.func209.trans (congrArg some (by kernel_rfl))
 f337 := Tryz.func217.trans (congrArg some (by kernel_rfl))
 f338 := Tryz.func218.trans (congrArg some (by kernel_rfl))
 t0 := Tryz.underlying0
 a0 := Tryz.isAgg0
 z0 := Tryz.sizeOf0
 v0 := Tryz.zeroValue0
 t2 := Tryz.underlying2
 a2 := Tryz.isAgg2
 z2 := Tryz.sizeOf2
 v2 := Tryz.zeroValue2
 t3 := Tryz.underlying3
 a3 := Tryz.isAgg3
 z3 := Tryz.sizeOf3
 v3 := Tryz.zeroValue3
 t4 := Tryz.underlying4
 a4 := Tryz.isAgg4
 z4 := Tryz.sizeOf4
 v4 := Tryz.zeroValue4
 t5 := Tryz.underlying5
 a5 := Tryz.isAgg5
 z5 := Tryz.sizeOf5
 v5 := Tryz.zeroValue5
 t9 := Tryz.underlying9
 a9 := Tryz.isAgg9
 z9 := Tryz.sizeOf9
 v9 := Tryz.zeroValue9
 t20 := Tryz.underlying20
 a20 := Tryz.isAgg20
 z20 := Tryz.sizeOf20
 v20 := Tryz.zeroValue20
 t37 := Tryz.underlying25
 a37 := Tryz.isAgg25
 z37 := Tryz.sizeOf25
 v37 := Tryz.zeroValue25
 t46 := Tryz.underlying174
 a46 := Tryz.isAgg174
 z46 := Tryz.sizeOf174
 v46 := Tryz.zeroValue174
 t51 := Tryz.underlying199
 a51 := Tryz.isAgg199
 z51 := Tryz.sizeOf199
 v51 := Tryz.zeroValue199
 t53 := Tryz.underlying202
 a53 := Tryz.isAgg202
 z53 := Tryz.sizeOf202
 v53 := Tryz.zeroValue202
 t171 := Tryz.underlying218
 a171 := Tryz.isAgg218
 z171 := Tryz.sizeOf218
 v171 := Tryz.zeroValue218
 t173 := Tryz.underlying221
 a173 := Tryz.isAgg221
 z173 := Tryz.sizeOf221
 v173 := Tryz.zeroValue221
 t212 := Tryz.underlying238
 a212 := Tryz.isAgg238
 z212 := Tryz.sizeOf238
 v212 := Tryz.zeroValue238
 t213 := Tryz.underlying239
 a213 := Tryz.isAgg239
 z213 := Tryz.sizeOf239
 t232 := Tryz.underlying256
 a232 := Tryz.isAgg256
 z232 := Tryz.sizeOf256
 v232 := Tryz.zeroValue256
 t233 := Tryz.underlying257
 a233 := Tryz.isAgg257
 z233 := Tryz.sizeOf257
 v233 := Tryz.zeroValue257
 g17 := by kernel_rfl
 g18 := by kernel_rfl
 g19 := by kernel_rfl
 i0 := by kernel_rfl
 i2 := by kernel_rfl
 i3 := by kernel_rfl
 i4 := by kernel_rfl
 i5 := by kernel_rfl
 i9 := by kernel_rfl
 i20 := by kernel_rfl
 i37 := by kernel_rfl
 i46 := by kernel_rfl
 i51 := by kernel_rfl
 i53 := by kernel_rfl
 i171 := by kernel_rfl
 i173 := by kernel_rfl
 i212 := by kernel_rfl
 i232 := by kernel_rfl
 i233 := by kernel_rfl
 m17 := by kernel_rfl
 m18 := by kernel_rfl
 m19 := by kernel_rfl }
theorem zrH : yv Tryz.prog (itoa_ren.f 171) := ⟨Tryz.f120, zg Tryz.f120, Tryz.func120, by kernel_rfl, by kernel_rfl⟩
theorem zux : GSOK Tryz.prog 120 (.r (libS isI (fun x => Yo x) gStr)) := zqZ zrG zrH
def fmt_ren : Go.Shelf.Ren := ⟨fun | 173 => 157 | 246 => 170 | 283 => 185 | 284 => 186 | 285 => 187 | 286 => 188 | 129 => 206 | 317 => 205 | 318 => 207 | 319 => 208 | 320 => 209 | 337 => 217 | 338 => 218 | n => n, fun | 2 => 2 | 3 => 3 | 9 => 9 | 4 => 4 | 171 => 218 | 0 => 0 | 53 => 202 | 37 => 25 | 5 => 5 | 173 => 221 | 212 => 238 | 51 => 199 | 20 => 20 | 213 => 239 | 46 => 174 | 232 => 256 | 233 => 257 | n => n, fun | 17 => 1 | 18 => 6 | 19 => 7 | n => n⟩
theorem zt9 : Go.Proofs.LaysM.n173 Tryz.prog fmt_ren := {
 mixed := by kernel_rfl
 f129 := Tryz.func206.trans (congrArg some (by kernel_rfl))
 f173 := Tryz.func157.trans (congrArg some (by kernel_rfl))
 f246 := Tryz.func170.trans (congrArg some (by kernel_rfl))
 f283 := Tryz.func185.trans (congrArg some (by kernel_rfl))
 f284 := Tryz.func186.trans (congrArg some (by kernel_rfl))
 f285 := Tryz.func187.trans (congrArg some (by kernel_rfl))
 f286 := Tryz.func188.trans (congrArg some (by kernel_rfl))
 f317 := Tryz.func205.trans (congrArg some (by kernel_rfl))
 f318 := Tryz.func207.trans (congrArg some (by kernel_rfl))
 f319 := Tryz.func208.trans (congrArg some (by kernel_rfl))
 f320 := Tryz.func209.trans (congrArg some (by kernel_rfl))
 f337 := Tryz.func217.trans (congrArg some (by kernel_rfl))
 f338 := Tryz.func218.trans (congrArg some (by kernel_rfl))
 t0 := Tryz.underlying0
 a0 := Tryz.isAgg0
 z0 := Tryz.sizeOf0
 v0 := Tryz.zeroValue0
 t2 := Tryz.underlying2
 a2 := Tryz.isAgg2
 z2 := Tryz.sizeOf2
 v2 := Tryz.zeroValue2
 t3 := Tryz.underlying3
 a3 := Tryz.isAgg3
 z3 := Tryz.sizeOf3
 v3 := Tryz.zeroValue3
 t4 := Tryz.underlying4
 a4 := Tryz.isAgg4
 z4 := Tryz.sizeOf4
 v4 := Tryz.zeroValue4
 t5 := Tryz.underlying5
 a5 := Tryz.isAgg5
 z5 := Tryz.sizeOf5
 v5 := Tryz.zeroValue5
 t9 := Tryz.underlying9
 a9 := Tryz.isAgg9
 z9 := Tryz.sizeOf9
 v9 := Tryz.zeroValue9
 t20 := Tryz.underlying20
 a20 := Tryz.isAgg20
 z20 := Tryz.sizeOf20
 v20 := Tryz.zeroValue20
 t37 := Tryz.underlying25
 a37 := Tryz.isAgg25
 z37 := Tryz.sizeOf25
 v37 := Tryz.zeroValue25
 t46 := Tryz.underlying174
 a46 := Tryz.isAgg174
 z46 := Tryz.sizeOf174
 v46 := Tryz.zeroValue174
 t51 := Tryz.underlying199
 a51 := Tryz.isAgg199
 z51 := Tryz.sizeOf199
 v51 := Tryz.zeroValue199
 t53 := Tryz.underlying202
 a53 := Tryz.isAgg202
 z53 := Tryz.sizeOf202
 v53 := Tryz.zeroValue202
 t171 := Tryz.underlying218
 a171 := Tryz.isAgg218
 z171 := Tryz.sizeOf218
 v171 := Tryz.zeroValue218
 t173 := Tryz.underlying221
 a173 := Tryz.isAgg221
 z173 := Tryz.sizeOf221
 v173 := Tryz.zeroValue221
 t212 := Tryz.underlying238
 a212 := Tryz.isAgg238
 z212 := Tryz.sizeOf238
 v212 := Tryz.zeroValue238
 t213 := Tryz.underlying239
 a213 := Tryz.isAgg239
 z213 := Tryz.sizeOf239
 t232 := Tryz.underlying256
 a232 := Tryz.isAgg256
 z232 := Tryz.sizeOf256
 v232 := Tryz.zeroValue256
 t233 := Tryz.underlying257
 a233 := Tryz.isAgg257
 z233 := Tryz.sizeOf257
 v233 := Tryz.zeroValue257
 g17 := by kernel_rfl
 g18 := by kernel_rfl
 g19 := by kernel_rfl
 i0 := by kernel_rfl
 i2 := by kernel_rfl
 i3 := by kernel_rfl
 i4 := by kernel_rfl
 i5 := by kernel_rfl
 i9 := by kernel_rfl
 i20 := by kernel_rfl
 i37 := by kernel_rfl
 i46 := by kernel_rfl
 i51 := by kernel_rfl
 i53 := by kernel_rfl
 i171 := by kernel_rfl
 i173 := by kernel_rfl
 i212 := by kernel_rfl
 i232 := by kernel_rfl
 i233 := by kernel_rfl
 m17 := by kernel_rfl
 m18 := by kernel_rfl
 m19 := by kernel_rfl }
theorem zta : yv Tryz.prog (fmt_ren.f 173) := ⟨Tryz.f157, zg Tryz.f157, Tryz.func157, by kernel_rfl, by kernel_rfl⟩
theorem zvj : GSOK Tryz.prog 157 (.r (libS isII (fun x => fmtO (x.1) (x.2)) gStr)) := zsA zt9 zta
def cut_ren : Go.Shelf.Ren := ⟨fun | 145 => 122 | 220 => 149 | 219 => 171 | 217 => 189 | 225 => 190 | 224 => 191 | 267 => 192 | 266 => 210 | 314 => 211 | n => n, fun | 9 => 9 | 4 => 4 | 59 => 154 | 3 => 3 | 5 => 5 | 46 => 174 | 146 => 200 | 51 => 199 | n => n, fun | 1 => 0 | n => n⟩
theorem ztb : Go.Proofs.LaysM.n145 Tryz.prog cut_ren := {
 mixed := by kernel_rfl
 f145 := Tryz.func122.trans (congrArg some (by kernel_rfl))
 f217 := Tryz.func189.trans (congrArg some (by kernel_rfl))
 f219 := Tryz.func171.trans (congrArg some (by kernel_rfl))
 f220 := Tryz.func149.trans (congrArg some (by kernel_rfl))
 f224 := Tryz.func191.trans (congrArg some (by kernel_rfl))
 f225 := Tryz.func190.trans (congrArg some (by kernel_rfl))
 f266 := Tryz.func210.trans (congrArg some (by kernel_rfl))
 f267 := Tryz.func192.trans (congrArg some (by kernel_rfl))
 f314 := Tryz.func211.trans (congrArg some (by kernel_rfl))
 t3 := Tryz.underlying3
 a3 := Tryz.isAgg3
 z3 := Tryz.sizeOf3
 v3 := Tryz.zeroValue3
 t4 := Tryz.underlying4
 a4 := Tryz.isAgg4
 z4 := Tryz.sizeOf4
 v4 := Tryz.zeroValue4
 t5 := Tryz.underlying5
 a5 := Tryz.isAgg5
 z5 := Tryz.sizeOf5
 v5 := Tryz.zeroValue5
 t9 := Tryz.underlying9
 a9 := Tryz.isAgg9
 z9 := Tryz.sizeOf9
 v9 := Tryz.zeroValue9
 t46 := Tryz.underlying174
 a46 := Tryz.isAgg174
 z46 := Tryz.sizeOf174
 v46 := Tryz.zeroValue174
 t51 := Tryz.underlying199
 a51 := Tryz.isAgg199
 z51 := Tryz.sizeOf199
 v51 := Tryz.zeroValue199
 t59 := Tryz.underlying154
 a59 := Tryz.isAgg154
 z59 := Tryz.sizeOf154
 v59 := Tryz.zeroValue154
 t146 := Tryz.underlying200
 a146 := Tryz.isAgg200
 z146 := Tryz.sizeOf200
 v146 := Tryz.zeroValue200
 g1 := by kernel_rfl
 i3 := by kernel_rfl
 i4 := by kernel_rfl
 i5 := by kernel_rfl
 i9 := by kernel_rfl
 i46 := by kernel_rfl
 i51 := by kernel_rfl
 i59 := by kernel_rfl
 i146 := by kernel_rfl
 m1 := by kernel_rfl
 s1_3 := fun w h => Go.Proofs.cell_of_shapedOpen_int (zero := #[.int .i64 0]) (t := 3) h (of_decide_eq_true (by kernel_rfl)) (by kernel_rfl) rfl (by kernel_rfl) (by kernel_rfl) Tryz.underlying3 }
theorem ztc : yv Tryz.prog (cut_ren.f 145) := ⟨Tryz.f122, zg Tryz.f122, Tryz.func122, by kernel_rfl, by kernel_rfl⟩
theorem zvk : GSOK Tryz.prog 122 (.r (libS isSS (fun x => cutO (x.1) (x.2)) gCut)) := zsB ztb ztc
def split_ren : Go.Shelf.Ren := ⟨fun | 146 => 150 | 221 => 154 | 268 => 175 | 138 => 176 | 143 => 177 | 195 => 198 | 197 => 199 | 218 => 200 | 219 => 171 | 260 => 214 | 217 => 189 | 225 => 190 | 224 => 191 | 267 => 192 | 266 => 210 | 314 => 211 | n => n, fun | 9 => 9 | 31 => 149 | 3 => 3 | 4 => 4 | 0 => 0 | 105 => 230 | 21 => 21 | 5 => 5 | 46 => 174 | 119 => 252 | 139 => 255 | 138 => 254 | 146 => 200 | 51 => 199 | n => n, fun | 1 => 0 | 3 => 4 | 4 => 5 | n => n⟩
theorem zh5 : Go.Proofs.LaysM.n146 Tryz.prog split_ren := {
 mixed := by kernel_rfl
 f138 := Tryz.func176.trans (congrArg some (by kernel_rfl))
 f143 := Tryz.func177.trans (congrArg some (by kernel_rfl))
 f146 := Tryz.func150.trans (congrArg some (by kernel_rfl))
 f195 := Tryz.func198.trans (congrArg some (by kernel_rfl))
 f197 := Tryz.func199.trans (congrArg some (by kernel_rfl))
 f217 := Tryz.func189.trans (congrArg some (by kernel_rfl))
 f218 := Tryz.func200.trans (congrArg some (by kernel_rfl))
 f219 := Tryz.func171.trans (congrArg some (by kernel_rfl))
 f221 := Tryz.func154.trans (congrArg some (by kernel_rfl))
 f224 := Tryz.func191.trans (congrArg some (by kernel_rfl))
 f225 := Tryz.func190.trans (congrArg some (by kernel_rfl))
 f260 := Tryz.func214.trans (congrArg some (by kernel_rfl))
 f266 := Tryz.func210.trans (congrArg some (by kernel_rfl))
 f267 := Tryz.func192.trans (congrArg some (by kernel_rfl))
 f268 := Tryz.func175.trans (congrArg some (by kernel_rfl))
 f314 := Tryz.func211.trans (congrArg some (by kernel_rfl))
 t0 := Tryz.underlying0
 a0 := Tryz.isAgg0
 z0 := Tryz.sizeOf0
 v0 := Tryz.zeroValue0
 t3 := Tryz.underlying3
 a3 := Tryz.isAgg3
 z3 := Tryz.sizeOf3
 v3 := Tryz.zeroValue3
 t4 := Tryz.underlying4
 a4 := Tryz.isAgg4
 z4 := Tryz.sizeOf4
 v4 := Tryz.zeroValue4
 t5 := Tryz.underlying5
 a5 := Tryz.isAgg5
 z5 := Tryz.sizeOf5
 v5 := Tryz.zeroValue5
 t9 := Tryz.underlying9
 a9 := Tryz.isAgg9
 z9 := Tryz.sizeOf9
 v9 := Tryz.zeroValue9
 t21 := Tryz.underlying21
 a21 := Tryz.isAgg21
 z21 := Tryz.sizeOf21
 v21 := Tryz.zeroValue21
 t31 := Tryz.underlying149
 a31 := Tryz.isAgg149
 z31 := Tryz.sizeOf149
 v31 := Tryz.zeroValue149
 t46 := Tryz.underlying174
 a46 := Tryz.isAgg174
 z46 := Tryz.sizeOf174
 v46 := Tryz.zeroValue174
 t51 := Tryz.underlying199
 a51 := Tryz.isAgg199
 z51 := Tryz.sizeOf199
 v51 := Tryz.zeroValue199
 t105 := Tryz.underlying230
 a105 := Tryz.isAgg230
 z105 := Tryz.sizeOf230
 v105 := Tryz.zeroValue230
 t119 := Tryz.underlying252
 a119 := Tryz.isAgg252
 z119 := Tryz.sizeOf252
 t138 := Tryz.underlying254
 a138 := Tryz.isAgg254
 z138 := Tryz.sizeOf254
 v138 := Tryz.zeroValue254
 t139 := Tryz.underlying255
 a139 := Tryz.isAgg255
 z139 := Tryz.sizeOf255
 v139 := Tryz.zeroValue255
 t146 := Tryz.underlying200
 a146 := Tryz.isAgg200
 z146 := Tryz.sizeOf200
 v146 := Tryz.zeroValue200
 g1 := by kernel_rfl
 g3 := by kernel_rfl
 g4 := by kernel_rfl
 i0 := by kernel_rfl
 i3 := by kernel_rfl
 i4 := by kernel_rfl
 i5 := by kernel_rfl
 i9 := by kernel_rfl
 i21 := by kernel_rfl
 i31 := by kernel_rfl
 i46 := by kernel_rfl
 i51 := by kernel_rfl
 i105 := by kernel_rfl
 i138 := by kernel_rfl
 i139 := by kernel_rfl
 i146 := by kernel_rfl
 m1 := by kernel_rfl
 s1_3 := fun w h => Go.Proofs.cell_of_shapedOpen_int (zero := #[.int .i64 0]) (t := 3) h (of_decide_eq_true (by kernel_rfl)) (by kernel_rfl) rfl (by kernel_rfl) (by kernel_rfl) Tryz.underlying3
 m3 := by kernel_rfl
 m4 := by kernel_rfl }
theorem zqb : yv Tryz.prog (split_ren.f 146) := ⟨Tryz.f150, zg Tryz.f150, Tryz.func150, by kernel_rfl, by kernel_rfl⟩
theorem ztd : GSOK Tryz.prog 150 (.r (libS isSS (fun x => z5z (x.1) (x.2)) (z7b (9)))) := zpL zh5 zqb
theorem zo5 : yv Tryz.prog (split_ren.f 221) := ⟨Tryz.f154, zg Tryz.f154, Tryz.func154, by kernel_rfl, by kernel_rfl⟩
theorem zrI : GSOK Tryz.prog 154 (.r (libS zqX (fun x => z5q (x.1) (x.2.1) (x.2.2.1) (x.2.2.2)) (z7b (9)))) := znK { zh5 with } zo5
def suf_ren : Go.Shelf.Ren := ⟨fun | 100 => 128 | 207 => 155 | n => n, fun | 9 => 9 | 4 => 4 | 3 => 3 | n => n, fun | n => n⟩
theorem zte : Go.Proofs.Lays.n100 Tryz.prog suf_ren := {
 mixed := by kernel_rfl
 f100 := Tryz.func128.trans (congrArg some (by kernel_rfl))
 f207 := Tryz.func155.trans (congrArg some (by kernel_rfl))
 t3 := Tryz.underlying3
 a3 := Tryz.isAgg3
 z3 := Tryz.sizeOf3
 v3 := Tryz.zeroValue3
 t4 := Tryz.underlying4
 a4 := Tryz.isAgg4
 z4 := Tryz.sizeOf4
 v4 := Tryz.zeroValue4
 t9 := Tryz.underlying9
 a9 := Tryz.isAgg9
 z9 := Tryz.sizeOf9
 v9 := Tryz.zeroValue9 }
theorem ztf : yv Tryz.prog (suf_ren.f 100) := ⟨Tryz.f128, zg Tryz.f128, Tryz.func128, by kernel_rfl, by kernel_rfl⟩
theorem zvl : GSOK Tryz.prog 128 (.r (libS isSS (fun x => sufO (x.1) (x.2)) zkH)) := zsC zte ztf
end Go.Proofs.Y
namespace Go.Proofs.Y
open Go.Rb Go.Kx
noncomputable abbrev zqc : GS := .r (libS [.v (.one .str) false, .v (.one .str) false] (fun x => cutO (x.1) (x.2)) gCut)
theorem zmE : GSOK Tryz.prog 122 zqc := zvk
end Go.Proofs.Y
namespace Go.Proofs.Y
open Go.Rb Go.Kx
noncomputable abbrev zp8 : GS := .r (libS [.v (.one .str) false, .v (.one .str) false] (fun x => z5z (x.1) (x.2)) (z7b 9))
theorem zqd : GSOK Tryz.prog 150 zp8 := ztd
end Go.Proofs.Y
namespace Go.Proofs.Y
open Go.Rb Go.Kx
noncomputable def zcE : Code := zg Tryz.f119
noncomputable def zcF : FuncId → Option GS := tabG []
theorem zmF : ΓOK Tryz.prog zcF := ze
def zcG : HT := ⟨tabL [], tabH []⟩
abbrev z4r : List IT := []
abbrev zaQ : List OT := [⟨.one (.sl 9 (.one .str)), false, []⟩]
set_option maxRecDepth 100000
noncomputable def vz : Option (List (List UInt8)) :=  some [[], [98, 97, 116, 99, 104], [115, 101, 97, 108], [109, 101, 114, 103, 101], [100, 114, 111, 112]]
theorem zh6 (x : PI z4r) : vz  = fnE T zcF zcG zcE (zo Tryz.f119) z4r zaQ x := by kernel_rfl
noncomputable abbrev z6l : GS := zp false z4r zaQ fun x => vz 
theorem z7J : GSOK Tryz.prog 119 z6l := zm tok zmF fmo (Ht := zcG) (fn := Tryz.f119) (Tryz.func119) (c := zcE) (by kernel_rfl) (by kernel_rfl) (by kernel_rfl) (by decide +kernel) (by decide) zh6
end Go.Proofs.Y
namespace Go.Proofs.Y
open Go.Rb Go.Kx
noncomputable def zmG : Code := zg Tryz.f151
noncomputable def zmH : FuncId → Option GS := tabG []
theorem ztg : ΓOK Tryz.prog zmH := ze
def zmI : HT := ⟨tabL [(2, .it [] (dyn [.t 8 (.int .i64)]))], tabH []⟩
abbrev zcH : List IT := [.v (.one (.sl 9 (.one .str))) false, .v (.one .str) false]
abbrev zjw : List OT := [⟨.one (.int .i64), false, []⟩]
set_option maxRecDepth 100000
noncomputable def z6m : List (List UInt8) → List UInt8 → Option Int := fun a b => zk maxR (fun (x : Int) => ifB (ltI x (lenI a)) (z6 (atI a x) fun y => ifB (eqS b y) (mapO Sum.inr (some x)) (some (Sum.inl (wadd .i64 x 1)))) (mapO Sum.inr (some (-1)))) 0
theorem zo6 (x : PI zcH) : z6m (x.1) (x.2) = fnE T zmH zmI zmG (zo Tryz.f151) zcH zjw x := by kernel_rfl
noncomputable abbrev zmJ : GS := zp false zcH zjw fun x => z6m (x.1) (x.2)
theorem zo7 : GSOK Tryz.prog 151 zmJ := zm tok ztg fmo (Ht := zmI) (fn := Tryz.f151) (Tryz.func151) (c := zmG) (by kernel_rfl) (by kernel_rfl) (by kernel_rfl) (by decide +kernel) (by decide) zo6
end Go.Proofs.Y
namespace Go.Proofs.Y
open Go.Rb Go.Kx
noncomputable abbrev zrJ : GS := .r (libS [.v (.one .str) false] (fun x => z9w x) gErr)
theorem zrK : GSOK Tryz.prog 152 zrJ := zuw
end Go.Proofs.Y
namespace Go.Proofs.Y
open Go.Rb Go.Kx
noncomputable abbrev zh7 : GS := .r (libS [.v (.one (.int .i64)) false] (fun x => Yo x) gStr)
theorem zcI : GSOK Tryz.prog 120 zh7 := zux
end Go.Proofs.Y
