/-
  What is proved, part by part: what is read off a text is what stands there; a world that is right stays right, whatever happens. what slices.Equal[[]int,int] comes to. what world.Same comes to. what slices.Grow[[]api.Errno,api.Errno] comes to. what slices.Concat[[]api.Errno,api.Errno] comes to. what rainbooklaw.WorldParts comes to. scripts in two parts; versions, and what was there at one: in plain words. what story.Versions comes to. what story.At comes to. what rainbooklaw.told comes to. versions, and what was there at one: what the program's functions come to, in plain words; the closed fact on versions. strings.genSplit of Go's library is known by its answer. what strings.SplitAfter comes to. strings.HasSuffix of Go's library is known by its answer. what rainbookref.linesOf comes to. what rainbookref.CheckDisk comes to. what rainbookref.Recovered comes to. what rainbookref.CheckWorld comes to. a disk's text as lines, by the document's function: what the program's function says; disks and worlds checked, recovered by the document. versions of a world that came about from the new one: they only grow; what is there at one, by what its record says. disks and worlds checked, recovered by the document: what the program says. what rainbookref.RecText$1 comes to. strings joined: the laying of that function of Go's library over the program. strings.Join of Go's library is known by its answer. what rainbookref.RecText comes to. a record as a text, by the document's function: what the program's function prints. what rainbookref.PutOn comes to. what rainbookref.Synced comes to. what rainbookref.SameDisk comes to. records put on a disk, a disk synced, by the document: what the program says. what rainbookref.Happened$1 comes to. what rainbookref.shut comes to. what rainbookref.Happened comes to. what rainbookref.SameWorld comes to. what rainbookref.Fresh comes to. what happens to a right world, by the document: what the program says. what rainbooklaw.WorldDoes comes to. what rainbooklaw.WorldRuns comes to. any happening, any script does to any world what the document says: the laws' bodies are true, in plain words. what a law is handed is no larger than memory. a world that a law is handed is no larger than memory; its bytes are bytes. a shelf that a law is handed is no larger than memory. what the rows list of package-level variables is what the library's functions ask. Conditions: none.
-/
import Derived.Test.YtnkegapccacndaaGreatDoorKPE
import Derived.Test.YtnkegapccacndaaGreatDoorKPA
import Derived.Test.YtnkegapccacndaaGreatDoorKPB
import Derived.Test.YtnkegapccacndaaGreatDoorKPD
import Derived.Test.YtnkegapccacndaaGreatDoorKPC
import Derived.Test.YtnkegapccacndaaGreatDoorKED
import Derived.Test.YtnkegapccacndaaGreatDoorProg
import Derived.KernelRfl
import Derived.Test.YtnkegapccacndaaGreatDoorRows
set_option linter.unusedVariables false
set_option linter.unusedSimpArgs false
set_option linter.unnecessarySimpa false
set_option maxRecDepth 4000
namespace Go.Proofs.Y
open Go.Rb Go.Kx
theorem zng (most all : Int) : ∀ (ws : List (List UInt8)) (acc : List Rc), ws ≠ [] →
  ∃ M t, (lnW most all ws acc).1 = acc ++ M ∧ jn 10 ws = zD M ++ t ∧ (lnW most all ws acc).2.1 = all - t.length ∧ ((lnW most all ws acc).2.2 = 0 → t = []) ∧ ∀ r ∈ M, zA r = 0
 | [], acc, h => absurd rfl h
 | w :: r, acc, _ => by
  rw [lnW]
  by_cases hr : r = []
  ·subst hr
   rw [if_pos rfl]
   by_cases hw : w = []
   ·subst hw; rw [if_pos rfl]; exact ⟨[], [], by simp, by simp [jn, zD], by simp, by simp, by simp⟩
   ·rw [if_neg hw]; exact ⟨[], w, by simp, by simp [jn, zD], rfl, by simp, by simp⟩
  ·rw [if_neg hr]
   by_cases hp : (yN w).2 = 0
   ·rw [if_pos hp]
    by_cases hm : (acc.length : Int) = most
    ·rw [if_pos hm]; exact ⟨[], jn 10 (w :: r), by simp, by simp [zD], rfl, by simp, by simp⟩
    ·rw [if_neg hm]
     obtain ⟨M, t, h1, h2, h3, h4, h5⟩ := zng most all r (acc ++ [(yN w).1]) hr
     obtain ⟨p1, p2⟩ := zjG hp
     refine ⟨(yN w).1 :: M, t, by rw [h1]; simp, ?_, h3, h4, ?_⟩
     ·rw [z1w 10 w hr, zhn, p2, h2]
     ·intro q hq
      rcases List.mem_cons.1 hq with rfl | hq
      ·exact p1
      ·exact h5 q hq
   ·rw [if_neg hp]; exact ⟨[], jn 10 (w :: r), by simp, by simp [zD], rfl, fun h => absurd h hp, by simp⟩
theorem ztq {s a t : List UInt8} (h : s = a ++ t) : s.take a.length = a := by rw [h, List.take_left]
theorem znh (m : Int) (s : List UInt8) : ∃ t, s = zD (lnP m s).1 ++ t ∧ (lnP m s).2.1 = ((zD (lnP m s).1).length : Int) ∧ ((lnP m s).2.2 = 0 → t = []) ∧ ∀ r ∈ (lnP m s).1, zA r = 0 := by
 obtain ⟨M, t, h1, h2, h3, h4, h5⟩ := zng m s.length (sp 10 s) [] (jw 10 s)
 rw [z7M] at h2
 rw [List.nil_append] at h1
 unfold lnP
 rw [h1]
 refine ⟨t, h2, ?_, h4, h5⟩
 rw [h3, h2, List.length_append]; omega
theorem zuC {m : Int} (hm : 0 ≤ m) (s : List UInt8) : ((lnP m s).1.length : Int) ≤ m := zfG m s.length (sp 10 s) [] (by simpa using hm)
theorem z8r {d : List UInt8 × List UInt8} (h : zM d = 0) : ∃ L, d.1 = zD L ∧ (lnP 60 d.1).1 = L ∧ L.length ≤ 60 ∧ ∀ r ∈ L, zA r = 0 := by
 obtain ⟨t, h1, h2, h3, h4⟩ := znh 60 d.1
 have ht := h3 (z3M (s := d.1) (w := d.2) h)
 subst ht
 rw [List.append_nil] at h1
 exact ⟨_, h1, rfl, znc _, h4⟩
theorem j5 {d : List UInt8 × List UInt8} (h : zM d = 0) : zq d = ((zD (zq d).2.1, []), (zq d).2.1, 0) ∧ (zq d).2.1.length ≤ 60 ∧ ∀ r ∈ (zq d).2.1, zA r = 0 := by
 obtain ⟨L, h1, h2, h3, h4⟩ := z8r h
 have hm : (0 : Int) ≤ 60 - ((lnP 60 d.1).1.length : Int) := by rw [h2]; omega
 obtain ⟨t, g1, g2, g3, g4⟩ := znh (60 - ((lnP 60 d.1).1.length : Int)) d.2
 have g5 := zuC hm d.2
 have hrec := zdO d
 have e : zq d = ((d.1 ++ d.2.take (JD d).2.1.toNat, []), (lnP 60 d.1).1 ++ (JD d).1, 0) := by unfold zq; rw [if_pos h]
 refine ⟨?_, ?_, hrec⟩
 ·rw [e]
  have hk : d.2.take (JD d).2.1.toNat = zD (JD d).1 := by
   unfold JD
   rw [g2, Int.toNat_natCast]
   exact ztq g1
  rw [hk]
  simp only
  rw [zd7, h2, h1]
 ·rw [e]
  simp only [List.length_append]
  unfold JD
  omega
theorem zab {L : List Rc} (h : ∀ r ∈ L, zA r = 0) (hn : L.length ≤ 60) : zM (zD L, []) = 0 ∧ zq (zD L, []) = ((zD L, []), L, 0) := by
 have ht := zk1 h
 refine ⟨zeS h hn (by simp only [List.length_nil]; omega), ?_⟩
 have := zkt (L := L) (M := []) (t := []) h (by simp) (by simp) (by simpa using hn) (by simp [zD] at ht ⊢; omega)
 simpa [zD] using this
theorem zw0 {s : Shf} {d : List UInt8 × List UInt8} {rd : List Int} (h : chkW s d true rd = 0) : ∃ L, d = (zD L, []) ∧ (zq d).2.1 = L ∧ (zE L).2 = 0 ∧ (zE L).1 = s ∧ rd.length = 3 ∧ rdE L.length true rd = 0 := by
 obtain ⟨⟨o1, o2, o3⟩, o4, o5, o6⟩ := V3 (w := (s, d, true, rd)) h
 obtain ⟨p1, p2, p3⟩ := o5 rfl
 rw [if_pos rfl] at o6
 simp only at o3 o4 o6 p1 p2 p3
 have hc := (VZ o4).1
 obtain ⟨L, h1, h2, h3, h4⟩ := z8r hc
 have hd : d = (zD L, []) := by rw [← h1, ← p1]
 have hL : (zq d).2.1 = L := by rw [hd, (zab h4 h3).2]
 rw [hL] at p2 p3 o6
 exact ⟨L, hd, hL, p2, p3, o3, o6⟩
theorem zqn {L : List Rc} {s : Shf} {rd : List Int} (h1 : (zE L).2 = 0) (h2 : (zE L).1 = s) (h3 : rd.length = 3) (h4 : rdE L.length true rd = 0) : chkW s (zD L, []) true rd = 0 := by
 obtain ⟨a1, _, a3⟩ := Va h1
 have hr := (zab a3 a1).2
 unfold chkW chkL
 rw [hr, if_pos rfl, if_pos rfl, if_neg (by simp), if_pos h1, if_pos h2, if_pos h3, h4]
theorem zuD {s : Shf} {d : List UInt8 × List UInt8} {rd : List Int} (h : chkW s d false rd = 0) : s = yG ∧ rd = [-1, -1, -1] ∧ zM d = 0 := by
 unfold chkW at h
 by_cases c1 : (zq d).2.2 = 0
 ·rw [if_pos c1, if_neg (by decide)] at h
  obtain ⟨k1, k2, k3, k4⟩ := zdm h
  have hg := z9o k4
  refine ⟨k2.symm, ?_, (VZ c1).1⟩
  obtain ⟨a, b, c, rfl⟩ : ∃ a b c, rd = [a, b, c] := by
   match rd, k3 with
   | [a, b, c], _ => exact ⟨a, b, c, rfl⟩
  rw [(hg a (by simp)).2.2 rfl, (hg b (by simp)).2.2 rfl, (hg c (by simp)).2.2 rfl]
 ·rw [if_neg c1] at h; exact absurd h c1
theorem zpd {d : List UInt8 × List UInt8} (h : zM d = 0) : chkW yG d false [-1, -1, -1] = 0 := by
 unfold chkW
 rw [(j5 h).1, if_pos rfl, if_neg (by decide)]
 decide +kernel
theorem zhD {n : Int} {up : Bool} : ∀ {rd : List Int}, (∀ v ∈ rd, -1 ≤ v ∧ v ≤ n ∧ (up = false → v = -1)) → rdE n up rd = 0
 | [], _ => rfl
 | v :: r, h => by
  obtain ⟨h1, h2, h3⟩ := h v (by simp)
  rw [rdE, if_neg (by rintro (q | q | ⟨q1, q2⟩); omega; omega; exact q2 (h3 q1))]
  exact zhD fun u hu => h u (List.mem_cons_of_mem _ hu)
theorem zuE {n : Int} {rd : List Int} (h : rdE n true rd = 0) {v : Int} (h1 : -1 ≤ v) (h2 : v ≤ n) (i : Nat) : rdE n true (rd.set i v) = 0 := by
 have hg := z9o h
 refine zhD fun u hu => ?_
 rcases List.mem_or_eq_of_mem_set hu with hu | rfl
 ·exact hg u hu
 ·exact ⟨h1, h2, fun h => by cases h⟩
theorem zvs {n m : Int} {rd : List Int} (h : rdE n true rd = 0) (hm : n ≤ m) : rdE m true rd = 0 :=
 zhD fun u hu => by obtain ⟨a, b, _⟩ := z9o h u hu; exact ⟨a, by omega, fun h => by cases h⟩
theorem zqo {L : List Rc} {s : Shf} {rd : List Int} {n : Int} {r : Rc} (h1 : (zE L).2 = 0) (h2 : (zE L).1 = s) (he : (wrP (s, (zD L, []), true, rd) false n r).2 = 0) :
  (wrP (s, (zD L, []), true, rd) false n r).1 = ((ZN s r).1, (zD (L ++ [r]), []), true, rd) ∧ (ZN s r).2 = 0 ∧ (zE (L ++ [r])).2 = 0 ∧ (zE (L ++ [r])).1 = (ZN s r).1 := by
 obtain ⟨a1, _, a3⟩ := Va h1
 unfold wrP at he ⊢
 simp only at he ⊢
 by_cases c1 : (ZN s r).2 = 0
 ·rw [if_pos c1] at he ⊢
  by_cases c2 : (dPut (zD L, []) r).2 = 0
  ·obtain ⟨hr, hp⟩ := zis c2
   simp only [List.nil_append] at hp
   rw [if_pos c2, if_neg (by decide), hp] at he ⊢
   by_cases c3 : (vJ (zD L, Yy r)).2 = 0
   ·have e : zD L ++ Yy r = zD (L ++ [r]) := by rw [zd7]; simp [zD]
    have hs : (vJ (zD L, Yy r)).1 = (zD (L ++ [r]), []) ∧ zM (zD (L ++ [r]), []) = 0 := by
     unfold vJ at c3 ⊢
     by_cases q : zM (zD L, Yy r) = 0
     ·rw [if_pos q] at c3 ⊢
      simp only [e] at c3 ⊢
      by_cases q2 : zM (zD (L ++ [r]), []) = 0
      ·rw [if_pos q2]; exact ⟨rfl, q2⟩
      ·rw [if_neg q2] at c3; exact absurd c3 q2
     ·rw [if_neg q] at c3; exact absurd c3 q
    have hlen : L.length < 60 := by
     have hh : ∀ q ∈ L ++ [r], zA q = 0 := by
      intro q hq
      rcases List.mem_append.1 hq with hq | hq
      ·exact a3 q hq
      ·rw [List.mem_singleton.1 hq]; exact hr
     obtain ⟨L', k1, k2, k3, _⟩ := z8r hs.2
     refine Classical.byContradiction fun hlt => ?_
     have h60 : L.length = 60 := by omega
     have h7 := z3M (s := zD (L ++ [r])) (w := []) hs.2
     unfold lnP at h7
     have e3 : sp 10 (zD (L ++ [r])) = sp 10 (zD L ++ Yy r) := by rw [e]
     rw [e3, zfz 60 _ L (Yy r) [] a3 (by simp; omega), show Yy r = yx r ++ 10 :: [] from rfl, z43 10 _ _ (zhm hr), lnW, if_neg (jw 10 _), zeR hr, if_pos rfl, if_pos (by simp; omega)] at h7
     cases h7
    obtain ⟨g1, g2⟩ := zql (r := r) h1 hlen (by rw [h2]; exact c1)
    rw [if_pos c3, hs.1]
    exact ⟨rfl, c1, g1, by rw [g2, h2]⟩
   ·rw [if_neg c3] at he; exact absurd he c3
  ·rw [if_neg c2] at he; exact absurd he c2
 ·rw [if_neg c1] at he; exact absurd he c1
theorem zuF {L : List Rc} {s : Shf} {rd : List Int} {n : Int} {r : Rc} (he : (wrP (s, (zD L, []), true, rd) true n r).2 = 0) :
  (ZN s r).2 = 0 ∧ zA r = 0 ∧ ∃ k, (wrP (s, (zD L, []), true, rd) true n r).1 = (yG, (zD L, (Yy r).take k), false, [-1, -1, -1]) ∧ zM (zD L, (Yy r).take k) = 0 := by
 unfold wrP at he ⊢
 simp only at he ⊢
 by_cases c1 : (ZN s r).2 = 0
 ·rw [if_pos c1] at he ⊢
  by_cases c2 : (dPut (zD L, []) r).2 = 0
  ·obtain ⟨hr, hp⟩ := zis c2
   simp only [List.nil_append] at hp
   rw [if_pos c2, if_pos trivial] at he ⊢
   generalize max 0 (min n ((dPut (zD L, []) r).1.2.length : Int)) = m at he ⊢
   by_cases c3 : (vB (dPut (zD L, []) r).1 m).2 = 0
   ·obtain ⟨q1, q2⟩ := zrX c3
    rw [if_pos c3, q2]
    rw [hp] at q1 ⊢
    exact ⟨c1, hr, m.toNat, rfl, zoh q1 (by rw [List.length_take]; omega)⟩
   ·rw [if_neg c3] at he; exact absurd he c3
  ·rw [if_neg c2] at he; exact absurd he c2
 ·rw [if_neg c1] at he; exact absurd he c1
theorem zvt {L : List Rc} {s : Shf} {rd : List Int} {x : Hp} (h1 : (zE L).2 = 0) (h2 : (zE L).1 = s) (h3 : rd.length = 3) (he : (hapP (s, (zD L, []), true, rd) x).2 = 0) :
  (∃ r, x.1 ≤ 4 ∧ (hapP (s, (zD L, []), true, rd) x).1 = ((ZN s r).1, (zD (L ++ [r]), []), true, rd) ∧ (ZN s r).2 = 0 ∧ (zE (L ++ [r])).2 = 0 ∧ (zE (L ++ [r])).1 = (ZN s r).1) ∨
  (∃ v, (hapP (s, (zD L, []), true, rd) x).1 = (s, (zD L, []), true, rd.set x.2.2.1.toNat v) ∧ 0 ≤ x.2.2.1 ∧ x.2.2.1 < 3 ∧ ((x.1 = 5 ∧ v = L.length) ∨ (x.1 = 6 ∧ v = -1))) ∨
  (x.1 = 7 ∧ (hapP (s, (zD L, []), true, rd) x).1 = (yG, (zD L, []), false, [-1, -1, -1])) ∨
  (x.1 = 9 ∧ ∃ r k, (hapP (s, (zD L, []), true, rd) x).1 = (yG, (zD L, (Yy r).take k), false, [-1, -1, -1]) ∧ zA r = 0 ∧ (ZN s r).2 = 0 ∧ zM (zD L, (Yy r).take k) = 0) := by
 obtain ⟨a1, _, a3⟩ := Va h1
 have hrec := (zab a3 a1).2
 unfold hapP at he ⊢
 by_cases c1 : x.1 < 1
 ·rw [if_pos c1] at he; cases he
 rw [if_neg c1] at he ⊢
 by_cases c2 : 9 < x.1
 ·rw [if_pos c2] at he; cases he
 rw [if_neg c2] at he ⊢
 by_cases c3 : (s, (zD L, ([] : List UInt8)), true, rd).2.2.1 = decide (x.1 = 8)
 ·rw [if_pos c3] at he; cases he
 rw [if_neg c3] at he ⊢
 have opG : ∀ b, (opP (s, (zD L, []), true, rd) b x.2.2.1).2 = 0 → ∃ v, (opP (s, (zD L, []), true, rd) b x.2.2.1).1 = (s, (zD L, []), true, rd.set x.2.2.1.toNat v) ∧ 0 ≤ x.2.2.1 ∧ x.2.2.1 < 3 ∧ ((b = false ∧ v = L.length) ∨ (b = true ∧ v = -1)) := by
  intro b hb
  unfold opP at hb ⊢
  by_cases q1 : x.2.2.1 < 0
  ·rw [if_pos q1] at hb; cases hb
  rw [if_neg q1] at hb ⊢
  simp only at hb ⊢
  by_cases q2 : (rd.length : Int) ≤ x.2.2.1
  ·rw [if_pos q2] at hb; cases hb
  rw [if_neg q2] at hb ⊢
  cases b with
  | true => rw [if_pos rfl]; exact ⟨-1, rfl, by omega, by omega, .inr ⟨rfl, rfl⟩⟩
  | false =>
   rw [if_neg (by decide), hrec, if_pos rfl]
   exact ⟨(L.length : Int), rfl, by omega, by omega, .inl ⟨rfl, rfl⟩⟩
 by_cases k5 : x.1 = 5
 ·rw [if_pos k5] at he ⊢
  obtain ⟨v, g1, g2, g3, g4⟩ := opG false he
  exact .inr (.inl ⟨v, g1, g2, g3, by rcases g4 with g | g; exact .inl ⟨k5, g.2⟩; cases g.1⟩)
 rw [if_neg k5] at he ⊢
 by_cases k6 : x.1 = 6
 ·rw [if_pos k6] at he ⊢
  obtain ⟨v, g1, g2, g3, g4⟩ := opG true he
  exact .inr (.inl ⟨v, g1, g2, g3, by rcases g4 with g | g; cases g.1; exact .inr ⟨k6, g.2⟩⟩)
 rw [if_neg k6] at he ⊢
 by_cases k7 : x.1 = 7
 ·rw [if_pos k7]; exact .inr (.inr (.inl ⟨k7, rfl⟩))
 rw [if_neg k7] at he ⊢
 by_cases k8 : x.1 = 8
 ·exact absurd (show true = decide (x.1 = 8) by rw [decide_eq_true k8]) c3
 rw [if_neg k8] at he ⊢
 by_cases k1 : x.1 = 1
 ·rw [if_pos k1] at he ⊢
  exact .inl ⟨_, by omega, zqo h1 h2 he⟩
 rw [if_neg k1] at he ⊢
 by_cases k9 : x.1 = 9
 ·rw [if_pos k9] at he ⊢
  obtain ⟨g1, g2, k, g3, g4⟩ := zuF he
  exact .inr (.inr (.inr ⟨k9, _, k, g3, g2, g1, g4⟩))
 rw [if_neg k9] at he ⊢
 by_cases k4 : x.1 = 4
 ·rw [if_pos k4] at he ⊢
  exact .inl ⟨_, by omega, zqo h1 h2 he⟩
 rw [if_neg k4] at he ⊢
 have k8' : x.1 ≠ 8 := k8
 exact .inl ⟨_, by omega, zqo h1 h2 he⟩
theorem ztr {d : List UInt8 × List UInt8} {x : Hp} (hc : zM d = 0) (he : (hapP (yG, d, false, [-1, -1, -1]) x).2 = 0) :
  x.1 = 8 ∧ (zE (zq d).2.1).2 = 0 ∧ (hapP (yG, d, false, [-1, -1, -1]) x).1 = ((zE (zq d).2.1).1, (zD (zq d).2.1, []), true, [-1, -1, -1]) := by
 have hb := (j5 hc).1
 unfold hapP at he ⊢
 by_cases c1 : x.1 < 1
 ·rw [if_pos c1] at he; cases he
 rw [if_neg c1] at he ⊢
 by_cases c2 : 9 < x.1
 ·rw [if_pos c2] at he; cases he
 rw [if_neg c2] at he ⊢
 by_cases c3 : (yG, d, false, ([-1, -1, -1] : List Int)).2.2.1 = decide (x.1 = 8)
 ·rw [if_pos c3] at he; cases he
 rw [if_neg c3] at he ⊢
 have k8 : x.1 = 8 := Classical.byContradiction fun h => c3 (by rw [decide_eq_false h])
 rw [if_neg (by omega), if_neg (by omega), if_neg (by omega), if_pos k8] at he ⊢
 unfold zdP at he ⊢
 simp only at he ⊢
 have e2 : (zq d).2.2 = 0 := by rw [hb]
 have e1 : (zq d).1 = (zD (zq d).2.1, []) := by rw [hb]
 rw [if_pos e2] at he ⊢
 by_cases c5 : (zE (zq d).2.1).2 = 0
 ·rw [if_pos c5, e1]; exact ⟨k8, c5, rfl⟩
 ·rw [if_neg c5] at he; exact absurd he c5
theorem zqp {w : Wd} {x : Hp} (h : chkW w.1 w.2.1 w.2.2.1 w.2.2.2 = 0) (he : (hapP w x).2 = 0) : chkW (hapP w x).1.1 (hapP w x).1.2.1 (hapP w x).1.2.2.1 (hapP w x).1.2.2.2 = 0 := by
 obtain ⟨s, d, up, rd⟩ := w
 cases up with
 | true =>
  obtain ⟨L, rfl, _, h1, h2, h3, h4⟩ := zw0 h
  obtain ⟨a1, _, a3⟩ := Va h1
  rcases zvt h1 h2 h3 he with ⟨r, _, g1, g2, g3, g4⟩ | ⟨v, g1, g2, g3, g4⟩ | ⟨_, g1⟩ | ⟨_, r, k, g1, g2, g3, g4⟩
  ·rw [g1]
   exact zqn g3 g4 h3 (zvs h4 (by simp only [List.length_append, List.length_cons, List.length_nil]; omega))
  ·rw [g1]
   exact zqn h1 h2 (by rw [List.length_set]; exact h3) (zuE h4 (by rcases g4 with g | g <;> omega) (by rcases g4 with g | g <;> omega) _)
  ·rw [g1]; exact zpd (zab a3 a1).1
  ·rw [g1]; exact zpd g4
 | false =>
  obtain ⟨rfl, rfl, hd⟩ := zuD h
  obtain ⟨_, g1, g2⟩ := ztr hd he
  rw [g2]
  exact zqn g1 rfl rfl (zhD (by intro v hv; simp at hv; omega))
end Go.Proofs.Y
namespace Go.Proofs.Y
open Go.Rb Go.Kx
noncomputable def zni : Code := zg Tryz.f67
noncomputable def znj : FuncId → Option GS := tabG []
theorem zts : ΓOK Tryz.prog znj := ze
def znk : HT := ⟨tabL [(4, .it [] (dyn [.t 13 (.int .i64)]))], tabH []⟩
abbrev zdn : List IT := [.v (.one (.sl 3 (.one (.int .i64)))) false, .v (.one (.sl 3 (.one (.int .i64)))) false]
abbrev zk2 : List OT := [⟨.one .bool, false, []⟩]
set_option maxRecDepth 100000
noncomputable def J8 : List Int → List Int → Option Bool := fun a b => ifB (neI (lenI a) (lenI b)) (some false) (zk maxR (fun (x : Int) => ifB (ltI x (lenI a)) (z6 (atI a x) fun y => z6 (atI b x) fun y_1 => ifB (neI y y_1) (mapO Sum.inr (some false)) (some (Sum.inl (wadd .i64 x 1)))) (mapO Sum.inr (some true))) 0)
theorem zoj (x : PI zdn) : J8 (x.1) (x.2) = fnE T znj znk zni (zo Tryz.f67) zdn zk2 x := by kernel_rfl
noncomputable abbrev zfH : GS := zp false zdn zk2 fun x => J8 (x.1) (x.2)
theorem zf2 : GSOK Tryz.prog 67 zfH := zm tok zts fmo (Ht := znk) (fn := Tryz.f67) (Tryz.func67) (c := zni) (by kernel_rfl) (by kernel_rfl) (by kernel_rfl) (by decide +kernel) (by decide) zoj
end Go.Proofs.Y
namespace Go.Proofs.Y
open Go.Rb Go.Kx
noncomputable def zdo : Code := zg Tryz.f25
noncomputable def zdp : FuncId → Option GS := tabG [(35, z6c), (52, zeM), (67, zfH)]
theorem znl : ΓOK Tryz.prog zdp := z8 (z7y) (z8 (zii) (z8 (zf2) (ze)))
def zdq : HT := ⟨tabL [], tabH []⟩
abbrev z4C : List IT := [.v (.cons (.sl 95 (.cons (.sl 126 (.cons (.int .i64) (.cons (.int .i64) (.cons (.int .i64) (.one (.sl 4 (.one .bool))))))) (.one (.sl 73 (.cons (.int .i64) (.one (.int .i64))))))) (.cons (.sl 5 (.one (.int .u8))) (.cons (.sl 5 (.one (.int .u8))) (.cons (.bool) (.one (.sl 3 (.one (.int .i64)))))))) true, .v (.cons (.sl 95 (.cons (.sl 126 (.cons (.int .i64) (.cons (.int .i64) (.cons (.int .i64) (.one (.sl 4 (.one .bool))))))) (.one (.sl 73 (.cons (.int .i64) (.one (.int .i64))))))) (.cons (.sl 5 (.one (.int .u8))) (.cons (.sl 5 (.one (.int .u8))) (.cons (.bool) (.one (.sl 3 (.one (.int .i64)))))))) true]
abbrev zb1 : List OT := [⟨.one .bool, false, []⟩]
set_option maxRecDepth 100000
noncomputable def J9 : List (List (Int × Int × Int × List Bool) × List (Int × Int)) × List Int × List Int × Bool × List Int → List (List (Int × Int × Int × List Bool) × List (Int × Int)) × List Int × List Int × Bool × List Int → Option Bool := fun a b => ifB (eqB a.2.2.2.1 b.2.2.2.1) (z6 (yz a.1 b.1) fun y => ifB y (z6 (jb (a.2.1, a.2.2.1) (b.2.1, b.2.2.1)) fun y => ifB y (z6 (J8 a.2.2.2.2 b.2.2.2.2) fun y => some y) (some false)) (some false)) (some false)
theorem zhE (x : PI z4C) : J9 (x.1) (x.2) = fnE T zdp zdq zdo (zo Tryz.f25) z4C zb1 x := by kernel_rfl
noncomputable abbrev zdr : GS := zp false z4C zb1 fun x => J9 (x.1) (x.2)
theorem zhF : GSOK Tryz.prog 25 zdr := zm tok znl fmo (Ht := zdq) (fn := Tryz.f25) (Tryz.func25) (c := zdo) (by kernel_rfl) (by kernel_rfl) (by kernel_rfl) (by decide +kernel) (by decide) zhE
end Go.Proofs.Y
namespace Go.Proofs.Y
open Go.Rb Go.Kx
end Go.Proofs.Y
namespace Go.Proofs.Y
open Go.Rb Go.Kx
set_option maxRecDepth 100000
end Go.Proofs.Y
namespace Go.Proofs.Y
open Go.Rb Go.Kx
set_option maxRecDepth 100000
end Go.Proofs.Y
namespace Go.Proofs.Y
open Go.Rb Go.Kx
abbrev okc (w : Wd) : Int := chkW w.1 w.2.1 w.2.2.1 w.2.2.2
theorem zuG {w : Wd} (h : okc w = 0) : w.2.1.1.length + w.2.1.2.length ≤ 60000 ∧ w.2.2.2.length = 3 ∧ okS w.1 := by
 obtain ⟨⟨o1, o2, o3⟩, _⟩ := V3 h
 exact ⟨o2, o3, J4 o1⟩
theorem zk3 (s t : List Int) (h : s.length < 4611686018427387904) : J8 s t = some (decide (s = t)) := by
 unfold J8
 have := z3Z (fun x y : Int => !(neI x y)) (fun x y => by by_cases h : x = y <;> simp [neI, h]) s t h
 simp only [notB, Bool.not_not] at this
 exact this
end Go.Proofs.Y
namespace Go.Proofs.Y
open Go.Rb Go.Kx
set_option maxRecDepth 100000
end Go.Proofs.Y
namespace Go.Proofs.Y
open Go.Rb Go.Kx
set_option maxRecDepth 100000
end Go.Proofs.Y
namespace Go.Proofs.Y
open Go.Rb Go.Kx
set_option maxRecDepth 100000
end Go.Proofs.Y
namespace Go.Proofs.Y
open Go.Rb Go.Kx
end Go.Proofs.Y
namespace Go.Proofs.Y
open Go.Rb Go.Kx
noncomputable abbrev znm : GS := .r (libS [.v (.one .str) false, .v (.one .str) false, .v (.one (.int .i64)) false, .v (.one (.int .i64)) false] (fun x => z5q (x.1) (x.2.1) (x.2.2.1) (x.2.2.2)) (z7b 9))
theorem zok : GSOK Tryz.prog 154 znm := zrI
end Go.Proofs.Y
namespace Go.Proofs.Y
open Go.Rb Go.Kx
noncomputable def z2G : Code := zg Tryz.f127
noncomputable def z2H : FuncId → Option GS := tabG [(154, znm)]
theorem zac : ΓOK Tryz.prog z2H := z8 (zok) (ze)
def z2I : HT := ⟨tabL [], tabH []⟩
abbrev Vv : List IT := [.v (.one .str) false, .v (.one .str) false]
abbrev z1H : List OT := [⟨.one (.sl 9 (.one .str)), false, []⟩]
set_option maxRecDepth 100000
noncomputable def YA : List UInt8 → List UInt8 → Option (List (List UInt8)) := fun a b => z6 (z5q a b (lenI b) (-1)) fun y => some y
theorem z6T (x : PI Vv) : YA (x.1) (x.2) = fnE T z2H z2I z2G (zo Tryz.f127) Vv z1H x := by kernel_rfl
noncomputable abbrev z2J : GS := zp false Vv z1H fun x => YA (x.1) (x.2)
theorem z6U : GSOK Tryz.prog 127 z2J := zm tok zac fmo (Ht := z2I) (fn := Tryz.f127) (Tryz.func127) (c := z2G) (by kernel_rfl) (by kernel_rfl) (by kernel_rfl) (by decide +kernel) (by decide) z6T
end Go.Proofs.Y
namespace Go.Proofs.Y
open Go.Rb Go.Kx
noncomputable abbrev ztR : GS := .r (libS [.v (.one .str) false, .v (.one .str) false] (fun x => sufO (x.1) (x.2)) zkH)
theorem ztt : GSOK Tryz.prog 128 ztR := zvl
end Go.Proofs.Y
namespace Go.Proofs.Y
open Go.Rb Go.Kx
noncomputable def z1I : Code := zg Tryz.f101
noncomputable def z1J : FuncId → Option GS := tabG [(127, z2J), (128, ztR), (129, z1G)]
theorem z9s : ΓOK Tryz.prog z1J := z8 (z6U) (z8 (ztt) (z8 (z6z) (ze)))
def z1K : HT := ⟨tabL [(4, .it [] (dyn [.a 7 52 (.cons (.int .i64) (.cons (.int .i64) (.cons (.int .i64) (.one (.sl 77 (.cons (.int .i64) (.cons (.int .i64) (.one (.int .i64))))))))), .t 8 (.int .i64), .t 16 (.int .i64)]))], tabH []⟩
abbrev Vd : List IT := [.v (.one .str) false, .v (.one (.int .i64)) false]
abbrev z0J : List OT := [⟨.one (.sl 52 (.cons (.int .i64) (.cons (.int .i64) (.cons (.int .i64) (.one (.sl 77 (.cons (.int .i64) (.cons (.int .i64) (.one (.int .i64)))))))))), false, []⟩, ⟨.one (.int .i64), false, []⟩, ⟨.one (.int .i64), false, []⟩]
set_option maxRecDepth 100000
noncomputable def yq : List UInt8 → Int → Option (List (Int × Int × Int × List (Int × Int × Int)) × Int × Int) := fun a b => z6 (YA a [10]) fun y => zk maxR (fun (x : Int × Int × List (Int × Int × Int × List (Int × Int × Int))) => ifB (ltI x.2.1 (lenI y)) (z6 (atI y x.2.1) fun y => ifB (eqS y []) (mapO Sum.inr (some (x.2.2, x.1, 0))) (z6 (sufO y [10]) fun y_1 => ifB (notB y_1) (mapO Sum.inr (some (x.2.2, x.1, 8))) (ifB (in1 y (wsub .i64 (lenI y) 1)) (z6 (Yj (YE y (wsub .i64 (lenI y) 1))) fun y_2 => ifB (eqI y_2.2 0) (ifB (geI (lenI x.2.2) b) (mapO Sum.inr (some (x.2.2, x.1, 2))) (ifB (neI y_2.2 0) (mapO Sum.inr (some (x.2.2, x.1, y_2.2))) (ifB (zh 48 x.2.2 [(y_2.1.1, y_2.1.2.1, y_2.1.2.2.1, y_2.1.2.2.2)]) (some (Sum.inl (wadd .i64 x.1 (lenI y), wadd .i64 x.2.1 1, cat x.2.2 [(y_2.1.1, y_2.1.2.1, y_2.1.2.2.1, y_2.1.2.2.2)]))) none))) (ifB (neI y_2.2 0) (mapO Sum.inr (some (x.2.2, x.1, y_2.2))) (ifB (zh 48 x.2.2 [(y_2.1.1, y_2.1.2.1, y_2.1.2.2.1, y_2.1.2.2.2)]) (some (Sum.inl (wadd .i64 x.1 (lenI y), wadd .i64 x.2.1 1, cat x.2.2 [(y_2.1.1, y_2.1.2.1, y_2.1.2.2.1, y_2.1.2.2.2)]))) none))) none))) (mapO Sum.inr (some (x.2.2, x.1, 0)))) (0, 0, [])
theorem z6A (x : PI Vd) : yq (x.1) (x.2) = fnE T z1J z1K z1I (zo Tryz.f101) Vd z0J x := by kernel_rfl
noncomputable abbrev Vw : GS := zp false Vd z0J fun x => yq (x.1) (x.2)
theorem Ja : GSOK Tryz.prog 101 Vw := zm tok z9s fmo (Ht := z1K) (fn := Tryz.f101) (Tryz.func101) (c := z1I) (by kernel_rfl) (by kernel_rfl) (by kernel_rfl) (by decide +kernel) (by decide) z6A
end Go.Proofs.Y
namespace Go.Proofs.Y
open Go.Rb Go.Kx
noncomputable def z01 : Code := zg Tryz.f62
noncomputable def z02 : FuncId → Option GS := tabG [(101, Vw)]
theorem z6V : ΓOK Tryz.prog z02 := z8 (Ja) (ze)
def z03 : HT := ⟨tabL [], tabH []⟩
abbrev vE : List IT := [.v (.cons (.sl 5 (.one (.int .u8))) (.one (.sl 5 (.one (.int .u8))))) true]
abbrev Jb : List OT := [⟨.one (.int .i64), false, []⟩]
set_option maxRecDepth 100000
noncomputable def yb : List Int × List Int → Option Int := fun a => ifB (gtI (lenI a.1) 60000) (some 2) (ifB (gtI (lenI a.2) (wsub .i64 60000 (lenI a.1))) (some 2) (z6 (yq (strB a.1) 60) fun y => some y.2.2))
theorem z4D (x : PI vE) : yb x = fnE T z02 z03 z01 (zo Tryz.f62) vE Jb x := by kernel_rfl
noncomputable abbrev vQ : GS := zp false vE Jb fun x => yb x
theorem j6 : GSOK Tryz.prog 62 vQ := zm tok z6V fmo (Ht := z03) (fn := Tryz.f62) (Tryz.func62) (c := z01) (by kernel_rfl) (by kernel_rfl) (by kernel_rfl) (by decide +kernel) (by decide) z4D
end Go.Proofs.Y
namespace Go.Proofs.Y
open Go.Rb Go.Kx
noncomputable def z04 : Code := zg Tryz.f55
noncomputable def z05 : FuncId → Option GS := tabG [(101, Vw), (87, JB), (102, zh0)]
theorem z6W : ΓOK Tryz.prog z05 := z8 (Ja) (z8 (VX) (z8 (zkp) (ze)))
def z06 : HT := ⟨tabL [], tabH []⟩
abbrev vF : List IT := [.v (.cons (.sl 5 (.one (.int .u8))) (.one (.sl 5 (.one (.int .u8))))) true]
abbrev Jc : List OT := [⟨.cons (.sl 5 (.one (.int .u8))) (.one (.sl 5 (.one (.int .u8)))), true, []⟩, ⟨.one (.sl 52 (.cons (.int .i64) (.cons (.int .i64) (.cons (.int .i64) (.one (.sl 77 (.cons (.int .i64) (.cons (.int .i64) (.one (.int .i64)))))))))), false, []⟩]
set_option maxRecDepth 100000
noncomputable def ZB : List Int × List Int → Option ((List Int × List Int) × List (Int × Int × Int × List (Int × Int × Int))) := fun a => z6 (yq (strB a.1) 60) fun y => z6 (yq (strB a.2) (wsub .i64 60 (lenI y.1))) fun y_1 => ifB (in1 a.2 y_1.2.1) (z6 (YN [a.1, YE a.2 y_1.2.1]) fun y_2 => z6 (z2B [y.1, y_1.1]) fun y => some ((y_2, []), y)) none
theorem z4E (x : PI vF) : ZB x = fnE T z05 z06 z04 (zo Tryz.f55) vF Jc x := by kernel_rfl
noncomputable abbrev vR : GS := zp false vF Jc fun x => ZB x
theorem j7 : GSOK Tryz.prog 55 vR := zm tok z6W fmo (Ht := z06) (fn := Tryz.f55) (Tryz.func55) (c := z04) (by kernel_rfl) (by kernel_rfl) (by kernel_rfl) (by decide +kernel) (by decide) z4E
end Go.Proofs.Y
namespace Go.Proofs.Y
open Go.Rb Go.Kx
noncomputable def Jd : Code := zg Tryz.f18
noncomputable def Je : FuncId → Option GS := tabG [(62, vQ), (55, vR), (56, Vq), (63, vP), (64, y4)]
theorem z6B : ΓOK Tryz.prog Je := z8 (j6) (z8 (j7) (z8 (jS) (z8 (VV) (z8 (ZP) (ze)))))
def Jf : HT := ⟨tabL [(15, .it [] (dyn [.t 50 (.int .i64)]))], tabH []⟩
abbrev vj : List IT := [.v (.cons (.sl 95 (.cons (.sl 126 (.cons (.int .i64) (.cons (.int .i64) (.cons (.int .i64) (.one (.sl 4 (.one .bool))))))) (.one (.sl 73 (.cons (.int .i64) (.one (.int .i64))))))) (.cons (.sl 5 (.one (.int .u8))) (.cons (.sl 5 (.one (.int .u8))) (.cons (.bool) (.one (.sl 3 (.one (.int .i64)))))))) true]
abbrev jx : List OT := [⟨.one (.int .i64), false, []⟩]
set_option maxRecDepth 100000
noncomputable def yO : List (List (Int × Int × Int × List Bool) × List (Int × Int)) × List Int × List Int × Bool × List Int → Option Int := fun a => z6 (yb (a.2.1, a.2.2.1)) fun y => ifB (neI y 0) (some y) (ifB a.2.2.2.1 (ifB (gtI (lenI a.2.2.1) 0) (some 4) (z6 (ZB (a.2.1, a.2.2.1)) fun y => z6 (ZJ y.2) fun y_1 => ifB (neI y_1.2 0) (some y_1.2) (z6 (Zj y_1.1 a.1) fun y_2 => ifB (notB y_2) (some 4) (ifB (neI (lenI a.2.2.2.2) 3) (some 4) (zk maxR (fun (x : Int) => ifB (ltI x (lenI a.2.2.2.2)) (z6 (atI a.2.2.2.2 x) fun y_3 => z6 (zl y_3 (-1) (lenI y.2)) fun y => ifB (notB y) (mapO Sum.inr (some 3)) (ifB (geI y_3 0) (ifB (notB a.2.2.2.1) (mapO Sum.inr (some 3)) (some (Sum.inl (wadd .i64 x 1)))) (some (Sum.inl (wadd .i64 x 1))))) (mapO Sum.inr (some 0))) 0))))) (z6 (ZJ []) fun y => ifB (neI y.2 0) (some y.2) (z6 (Zj y.1 a.1) fun y => ifB (notB y) (some 4) (ifB (neI (lenI a.2.2.2.2) 3) (some 4) (zk maxR (fun (x : Int) => ifB (ltI x (lenI a.2.2.2.2)) (z6 (atI a.2.2.2.2 x) fun y => z6 (zl y (-1) 0) fun y_1 => ifB (notB y_1) (mapO Sum.inr (some 3)) (ifB (geI y 0) (ifB (notB a.2.2.2.1) (mapO Sum.inr (some 3)) (some (Sum.inl (wadd .i64 x 1)))) (some (Sum.inl (wadd .i64 x 1))))) (mapO Sum.inr (some 0))) 0)))))
theorem z48 (x : PI vj) : yO x = fnE T Je Jf Jd (zo Tryz.f18) vj jx x := by kernel_rfl
noncomputable abbrev Jg : GS := zp false vj jx fun x => yO x
theorem z49 : GSOK Tryz.prog 18 Jg := zm tok z6B fmo (Ht := Jf) (fn := Tryz.f18) (Tryz.func18) (c := Jd) (by kernel_rfl) (by kernel_rfl) (by kernel_rfl) (by decide +kernel) (by decide) z48
end Go.Proofs.Y
namespace Go.Proofs.Y
open Go.Rb Go.Kx
def saL : List (List UInt8) → List (List UInt8)
 | [] => []
 | w :: r => if r = [] then [w] else (w ++ [10]) :: saL r
theorem zol : ∀ (l : List UInt8), Lib.splitK [10] 1 (Lib.count l [10]) l = saL (sp 10 l) := by
 have key : ∀ (ws : List (List UInt8)), ws ≠ [] → (∀ w ∈ ws, ∀ x ∈ w, x ≠ 10) → Lib.splitK [10] 1 (Lib.count (jn 10 ws) [10]) (jn 10 ws) = saL ws := by
  intro ws
  induction ws with
  | nil => intro h; exact absurd rfl h
  | cons w r ih =>
   intro _ h
   by_cases hr : r = []
   ·subst hr
    simp only [jn, List.map_nil, List.flatten_nil, List.append_nil]
    rw [Lib.count_miss (z3w (h w (by simp)))]; rfl
   ·rw [z1w _ _ hr]
    have hi : Lib.index (w ++ 10 :: jn 10 r) [10] = w.length := z4x (h w (by simp))
    have hd : (w ++ 10 :: jn 10 r).drop (w.length + [(10 : UInt8)].length) = jn 10 r := by
     rw [List.drop_append]; simp
    have hr2 := ih hr fun w hw => h w (by simp [hw])
    rw [Lib.count_hit (by simp) hi, hd, Nat.add_comm 1, Lib.splitK, if_neg (by rw [hi]; intro e; have := beq_iff_eq.1 e; omega), hi]
    have e : ((w.length : Nat) : Int).toNat = w.length := by omega
    rw [e, hd, hr2, saL, if_neg hr]
    congr 1
    rw [List.take_append, List.take_of_length_le (by omega)]
    simp
 intro l
 have h := key (sp 10 l) (jw 10 l) (za3 10 l)
 rw [z7M] at h
 exact h
theorem zpe : ∀ ws : List (List UInt8), (saL ws).length = ws.length
 | [] => rfl
 | w :: r => by
  rw [saL]
  split
  ·rename_i h; subst h; rfl
  ·simp [zpe r]
theorem zpf : ∀ (ws : List (List UInt8)), ∀ t ∈ saL ws, ∃ w ∈ ws, t.length ≤ w.length + 1
 | [], t, h => by cases h
 | w :: r, t, h => by
  rw [saL] at h
  split at h
  ·rw [List.mem_singleton.1 h]; exact ⟨w, by simp, by omega⟩
  ·rcases List.mem_cons.1 h with rfl | h
   ·exact ⟨w, by simp, by simp⟩
   ·obtain ⟨v, hv, h2⟩ := zpf r t h
    exact ⟨v, List.mem_cons_of_mem _ hv, h2⟩
def lnA (most : Int) : List (List UInt8) → Int → List Rc → List Rc × Int × Int
 | [], n, acc => (acc, n, 0)
 | t :: r, n, acc => if t = [] then (acc, n, 0) else if Lib.hasSuffix t [10] = false then (acc, n, 8) else
  if (yN (t.take (t.length - 1))).2 = 0 then (if most ≤ (acc.length : Int) then (acc, n, 2) else lnA most r (n + t.length) (acc ++ [(yN (t.take (t.length - 1))).1])) else (acc, n, (yN (t.take (t.length - 1))).2)
theorem zuH (w : List UInt8) : Lib.hasSuffix (w ++ [10]) [10] = true := by
 unfold Lib.hasSuffix
 simp
theorem ztu {w : List UInt8} (h : ∀ x ∈ w, x ≠ 10) (hw : w ≠ []) : Lib.hasSuffix w [10] = false := by
 cases hq : Lib.hasSuffix w [10] with
 | false => rfl
 | true =>
  exfalso
  unfold Lib.hasSuffix at hq
  have h2 : [(10 : UInt8)] <:+ w := by simpa using hq
  obtain ⟨v, hv⟩ := h2
  exact h 10 (by rw [← hv]; simp) rfl
theorem zs0 (most all : Int) : ∀ (ws : List (List UInt8)) (n : Int) (acc : List Rc), ws ≠ [] → (∀ w ∈ ws, ∀ x ∈ w, x ≠ 10) → (acc.length : Int) ≤ most → n = all - (jn 10 ws).length → lnA most (saL ws) n acc = lnW most all ws acc
 | [], n, acc, h, _, _, _ => absurd rfl h
 | w :: r, n, acc, _, hc, hm, hn => by
  rw [saL, lnW]
  by_cases hr : r = []
  ·subst hr
   rw [if_pos rfl, if_pos rfl, lnA]
   simp only [jn, List.map_nil, List.flatten_nil, List.append_nil] at hn
   by_cases hw : w = []
   ·subst hw; rw [if_pos rfl, if_pos rfl, hn]; simp
   ·rw [if_neg hw, if_neg hw, ztu (hc w (by simp)) hw, if_pos rfl, hn]
  ·have hj := z1w 10 w hr
   have hl : ((jn 10 (w :: r)).length : Int) = w.length + 1 + (jn 10 r).length := by rw [hj]; simp; omega
   have ht : (w ++ [10]).take ((w ++ [(10 : UInt8)]).length - 1) = w := by simp
   rw [if_neg hr, if_neg hr, lnA, if_neg (by simp), zuH, if_neg (by decide), ht]
   by_cases hp : (yN w).2 = 0
   ·rw [if_pos hp, if_pos hp]
    by_cases hq : (acc.length : Int) = most
    ·rw [if_pos (by omega), if_pos hq, hn]
    ·rw [if_neg (by omega), if_neg hq]
     refine zs0 most all r _ _ hr (fun v hv => hc v (List.mem_cons_of_mem _ hv)) (by simp only [List.length_append, List.length_cons, List.length_nil]; omega) ?_
     simp only [List.length_append, List.length_cons, List.length_nil]
     omega
   ·rw [if_neg hp, if_neg hp, hn]
theorem zad (s : List UInt8) (most : Int) (hs : s.length ≤ 60000) (hm : 0 ≤ most) : yq s most = some (lnP most s) := by
 unfold yq
 have e1 : YA s [10] = some (saL (sp 10 s)) := by
  unfold YA z5q
  rw [if_pos ⟨⟨by omega, by simp⟩, rfl, by rw [zb]; simp, by rw [zb]; simp⟩, z7, zb]
  exact congrArg some (zol s)
 have e2 : lnP most s = lnA most (saL (sp 10 s)) 0 [] := by
  unfold lnP
  exact (zs0 most s.length (sp 10 s) 0 [] (jw 10 s) (za3 10 s) (by simpa using hm) (by rw [z7M]; omega)).symm
 have hlen : (saL (sp 10 s)).length ≤ 60001 := by rw [zpe]; have := zhl 10 s; omega
 have htl : ∀ t ∈ saL (sp 10 s), t.length ≤ 60001 := fun t ht => by
  obtain ⟨w, hw, h2⟩ := zpf _ t ht
  have := zim 10 s w hw
  omega
 rw [e1, z7, e2]
 generalize saL (sp 10 s) = ts at *
 refine zQ ts (fun j (x : Int × List Rc) => (x.1, (j : Int), x.2)) (G := fun rest x => some (lnA most rest x.1 x.2)) (P := fun j x => (0 ≤ x.1 ∧ x.1 ≤ 60001 * j) ∧ x.2.length ≤ j) (s0 := (0, [])) ?_ ?_ ⟨⟨by simp, by simp⟩, by simp⟩ (by omega)
 ·rintro j ⟨n, acc⟩ hj ⟨⟨p0, p1⟩, p2⟩ k hk
  have hat := zN hj
  have hmem : ts.getD j default ∈ ts := by simp only [List.getD, List.getElem?_eq_getElem hj, Option.getD_some]; exact List.getElem_mem hj
  have ht := htl _ hmem
  generalize ts.getD j default = t at *
  simp only at p0 p1 p2 hk ⊢
  rw [za, zi, zb, if_pos (by omega), hat, z7, za, zd, lnA, Zz]
  by_cases c0 : t = []
  ·rw [if_pos c0, if_pos c0]
  ·have hpos : 0 < t.length := List.length_pos_iff.2 c0
   have hsu : sufO t [10] = some (Lib.hasSuffix t [10]) := by unfold sufO; rw [if_pos (by omega)]
   rw [if_neg c0, if_neg c0, hsu, z7, za, zd, zC]
   cases hq : Lib.hasSuffix t [10] with
   | false => rw [ZA, if_pos rfl]
   | true =>
    have e3 : YE t (wsub .i64 (lenI t) 1) = t.take (t.length - 1) := by
     rw [zU, zb, ZU ⟨by omega, by omega⟩]
     congr 1; omega
    rw [Z0, if_neg (by decide), za, zI, zb, ZU ⟨by omega, by omega⟩, if_pos ⟨by omega, by omega⟩]
    rw [zb, ZU ⟨by omega, by omega⟩] at e3
    rw [e3, zqm _ (by rw [List.length_take]; omega), z7]
    generalize yN (t.take (t.length - 1)) = p at *
    rw [za, zf]
    by_cases c1 : p.2 = 0
    ·rw [if_pos c1, if_pos c1, za, zP, zb]
     by_cases c2 : most ≤ (acc.length : Int)
     ·rw [if_pos c2, if_pos c2, zd]
     ·rw [if_neg c2, if_neg c2, za, zj, if_pos c1, za, zz, if_pos (by simp only [List.length_cons, List.length_nil]; omega), zu, zY, ZM ⟨by omega, by omega⟩, zF (by omega)]
      exact hk (n + t.length, acc ++ [p.1]) ⟨⟨by simp only; omega, by simp only; push_cast; omega⟩, by simp only [List.length_append, List.length_cons, List.length_nil]; omega⟩
    ·rw [if_neg c1, if_neg c1, za, zd, zj, if_neg c1]
 ·rintro ⟨n, acc⟩ _ k
  simp only
  rw [za, zd, zi, zb, if_neg (by omega)]; rfl
end Go.Proofs.Y
namespace Go.Proofs.Y
open Go.Rb Go.Kx
end Go.Proofs.Y
namespace Go.Proofs.Y
open Go.Rb Go.Kx
theorem zds (d : List UInt8 × List UInt8) (h1 : d.1.length < 4611686018427387904) (h2 : d.2.length < 4611686018427387904) : yb (bytB d.1, bytB d.2) = some (zM d) := by
 unfold yb zM
 simp only [z1x]
 rw [zy, zy, zb, zb, ZC, ZC]
 by_cases c1 : 60000 < d.1.length
 ·rw [if_pos (by omega), if_pos c1]
 ·rw [if_neg (by omega), if_neg c1, ZU ⟨by omega, by omega⟩]
  by_cases c2 : 60000 - d.1.length < d.2.length
  ·rw [if_pos (by omega), if_pos c2]
  ·rw [if_neg (by omega), if_neg c2, zad _ _ (by omega) (by omega), z7]
theorem z6C {d : List UInt8 × List UInt8} (h : zM d = 0) : ZB (bytB d.1, bytB d.2) = some (bD (zq d).1, (zq d).2.1) := by
 have hlen := Yz h
 have hb := j5 h
 have e : zq d = ((d.1 ++ d.2.take (JD d).2.1.toNat, []), (lnP 60 d.1).1 ++ (JD d).1, 0) := by unfold zq; rw [if_pos h]
 have n1 := znc d.1
 have hm := ztP (60 - ((lnP 60 d.1).1.length : Int)) d.2
 have h60 := hb.2.1
 rw [e] at h60
 simp only [List.length_append] at h60
 unfold ZB
 simp only [z1x]
 rw [zad _ _ (by omega) (by omega), z7, zb, ZU ⟨by omega, by omega⟩, zad _ _ (by omega) (by omega), z7, zI, if_pos ⟨hm.1, by rw [ZC]; exact hm.2⟩, zU, z7P, z0G _ _ (by rw [List.length_take]; omega), z7]
 unfold JD at e h60
 rw [zoc _ _ h60, z7, e]
 rfl
theorem zuI (rd : List Int) (n : Int) (up : Bool) (hl : rd.length < 4611686018427387904) :
  zk maxR (fun (x : Int) => ifB (ltI x (lenI rd)) (z6 (atI rd x) fun (y : Int) => z6 (zl y (-1) n) fun (t : Bool) => ifB (notB t) (mapO Sum.inr (some 3)) (ifB (geI y 0) (ifB (notB up) (mapO Sum.inr (some 3)) (some (Sum.inl (wadd IntKind.i64 x 1)))) (some (Sum.inl (wadd IntKind.i64 x 1))))) (mapO Sum.inr (some 0))) 0 = some (rdE n up rd) := by
 refine zQ rd (fun j (_ : Unit) => (j : Int)) (G := fun rest _ => some (rdE n up rest)) (P := fun _ _ => True) (s0 := ()) ?_ ?_ trivial (by omega)
 ·rintro j _ hj _ k hk
  have hat := zN hj
  generalize rd.getD j default = v at *
  rw [za, zi, zb, if_pos (by omega), hat, z7, ju, z7, za, zC, zO, rdE]
  by_cases c1 : -1 ≤ v ∧ v ≤ n
  ·rw [if_pos c1, za, zP]
   by_cases c2 : 0 ≤ v
   ·rw [if_pos c2, za, zC]
    cases up with
    | true =>
     rw [Z0, if_neg (by rintro (h | h | h); omega; omega; cases h.1), zu, zF (by omega)]
     exact hk () trivial
    | false => rw [ZA, if_pos (.inr (.inr ⟨rfl, by omega⟩))]; rfl
   ·rw [if_neg c2, if_neg (by rintro (h | h | h); omega; omega; exact h.2 (by omega)), zu, zF (by omega)]
    exact hk () trivial
  ·rw [if_neg c1, if_pos (by by_cases h : v < -1; exact .inl h; exact .inr (.inl (by omega)))]; rfl
 ·rintro _ _ k
  rw [za, zd, zi, zb, if_neg (by omega)]; rfl
theorem zky (w : Wd) (h1 : w.2.1.1.length < 4611686018427387904) (h2 : w.2.1.2.length < 4611686018427387904) (hrd : w.2.2.2.length < 4611686018427387904) : yO (wvd w) = some (okc w) := by
 obtain ⟨s, d, up, rd⟩ := w
 simp only at h1 h2 hrd
 unfold yO
 simp only [wvd, wv]
 rw [zds d h1 h2, z7, zj]
 show _ = some (chkW s d up rd)
 unfold chkW
 by_cases hc : zM d = 0
 ·obtain ⟨b1, b2, b3⟩ := j5 hc
  have b0 : (zq d).2.2 = 0 := by rw [b1]
  have tailL : ∀ l : List Rc, l.length < 4611686018427387904 → (∀ r ∈ l, r.2.2.2.length < 4611686018427387904) → (z6 (ZJ l) fun (y_1 : Shf × Int) =>
    ifB (neI (Prod.snd y_1) 0) (some (Prod.snd y_1)) (z6 (Zj (Prod.fst y_1) s) fun (y_2 : Bool) => ifB (notB y_2) (some 4) (ifB (neI (lenI rd) 3) (some 4)
     (zk maxR (fun (x : Int) => ifB (ltI x (lenI rd)) (z6 (atI rd x) fun (y : Int) => z6 (zl y (-1) (lenI l)) fun (t : Bool) => ifB (notB t) (mapO Sum.inr (some 3)) (ifB (geI y 0) (ifB (notB up) (mapO Sum.inr (some 3)) (some (Sum.inl (wadd IntKind.i64 x 1)))) (some (Sum.inl (wadd IntKind.i64 x 1))))) (mapO Sum.inr (some 0))) 0)))) = some (chkL s l up rd) := by
   intro l hl he
   unfold chkL
   rw [zgW l hl he, z7, zj, zuI rd (lenI l) up hrd]
   by_cases c : (zE l).2 = 0
   ·rw [if_pos c, if_pos c, zcC _ _ (z8l l), z7, zC, zO, zj, zb, zb]
    by_cases c2 : (zE l).1 = s
    ·rw [if_pos c2, if_pos c2]
     by_cases c3 : rd.length = 3
     ·rw [if_pos (by omega), if_pos c3]
     ·rw [if_neg (by omega), if_neg c3]
    ·rw [if_neg c2, if_neg c2]
   ·rw [if_neg c, if_neg c]
  have t1 := tailL (zq d).2.1 (by omega) fun r hr => z45 (b3 r hr)
  have t0 := tailL [] (by decide) (by simp)
  simp only [show lenI ([] : List Rc) = 0 from rfl] at t0
  rw [if_pos hc, if_pos b0, z6C hc]
  cases up with
  | true =>
   rw [Z0, if_pos rfl, zy, zb, ZC]
   by_cases c : 0 < d.2.length
   ·rw [if_pos (by omega), if_pos c]
   ·rw [if_neg (by omega), if_neg c, z7]
    exact t1
  | false =>
   rw [ZA, if_neg (by decide)]
   exact t0
 ·have b0 : (zq d).2.2 = zM d := by unfold zq; rw [if_neg hc]
  rw [if_neg hc, if_neg (by rw [b0]; exact hc), b0]
end Go.Proofs.Y
namespace Go.Proofs.Y
open Go.Rb Go.Kx
noncomputable def znn : Code := zg Tryz.f142
noncomputable def zno : FuncId → Option GS := tabG [(120, zh7)]
theorem ztv : ΓOK Tryz.prog zno := z8 (zcI) (ze)
def znp : HT := ⟨tabL [(1, .it [] (dyn [.t 7 (.int .i64), .b 1 0 9 (.one .str)]))], tabH [(0, [.frz 0])]⟩
noncomputable def znq : GS := inl T zno znp znn (zo Tryz.f142) (Tryz.f142.ntmps)
theorem zom : GSOK Tryz.prog 142 znq := yV tok ztv fmo (Ht := znp) (fn := Tryz.f142) (Tryz.func142) (c := znn) (by kernel_rfl) (by kernel_rfl) (by kernel_rfl)
end Go.Proofs.Y
namespace Go.Proofs.Y
open Go.Rb Go.Kx Go.Proofs
def join_ren : Go.Shelf.Ren := ⟨fun | 156 => 143 | 165 => 163 | 166 => 164 | 169 => 165 | 240 => 181 | 241 => 182 | 276 => 203 | 277 => 204 | n => n, fun | 31 => 149 | 9 => 9 | 3 => 3 | 4 => 4 | 0 => 0 | 20 => 20 | 72 => 196 | 76 => 184 | 70 => 194 | 37 => 25 | 75 => 183 | 127 => 215 | 164 => 234 | 5 => 5 | 80 => 198 | n => n, fun | n => n⟩
theorem zs1 : Go.Proofs.Lays.n156 Tryz.prog join_ren := {
 mixed := by kernel_rfl
 f156 := Tryz.func143.trans (congrArg some (by kernel_rfl))
 f165 := Tryz.func163.trans (congrArg some (by kernel_rfl))
 f166 := Tryz.func164.trans (congrArg some (by kernel_rfl))
 f169 := Tryz.func165.trans (congrArg some (by kernel_rfl))
 f240 := Tryz.func181.trans (congrArg some (by kernel_rfl))
 f241 := Tryz.func182.trans (congrArg some (by kernel_rfl))
 f276 := Tryz.func203.trans (congrArg some (by kernel_rfl))
 f277 := Tryz.func204.trans (congrArg some (by kernel_rfl))
 t0 := Tryz.underlying0
 a0 := Tryz.isAgg0
 z0 := Tryz.sizeOf0
 v0 := Tryz.zeroValue0
 t3 := Tryz.underlying3
 a3 := Tryz.isAgg3
 z3 := Tryz.sizeOf3
 v3 := Tryz.zeroValue3
 t4 := Tryz.underlying4
 a4 := Tryz.isAgg4
 z4 := Tryz.sizeOf4
 v4 := Tryz.zeroValue4
 t9 := Tryz.underlying9
 a9 := Tryz.isAgg9
 z9 := Tryz.sizeOf9
 v9 := Tryz.zeroValue9
 t20 := Tryz.underlying20
 a20 := Tryz.isAgg20
 z20 := Tryz.sizeOf20
 v20 := Tryz.zeroValue20
 t31 := Tryz.underlying149
 a31 := Tryz.isAgg149
 z31 := Tryz.sizeOf149
 v31 := Tryz.zeroValue149
 t37 := Tryz.underlying25
 a37 := Tryz.isAgg25
 z37 := Tryz.sizeOf25
 v37 := Tryz.zeroValue25
 t70 := Tryz.underlying194
 a70 := Tryz.isAgg194
 z70 := Tryz.sizeOf194
 v70 := Tryz.zeroValue194
 t72 := Tryz.underlying196
 a72 := Tryz.isAgg196
 z72 := Tryz.sizeOf196
 v72 := Tryz.zeroValue196
 t75 := Tryz.underlying183
 a75 := Tryz.isAgg183
 z75 := Tryz.sizeOf183
 v75 := Tryz.zeroValue183
 t76 := Tryz.underlying184
 a76 := Tryz.isAgg184
 z76 := Tryz.sizeOf184
 v76 := Tryz.zeroValue184
 t127 := Tryz.underlying215
 a127 := Tryz.isAgg215
 z127 := Tryz.sizeOf215
 v127 := Tryz.zeroValue215
 t164 := Tryz.underlying234
 a164 := Tryz.isAgg234
 z164 := Tryz.sizeOf234
 v164 := Tryz.zeroValue234 }
theorem zqq : Builder.Extra Tryz.prog join_ren := {
 sizeBuilder := by kernel_rfl
 liesBuilder := by kernel_rfl
 t5 := Tryz.underlying5
 a5 := Tryz.isAgg5
 z5 := Tryz.sizeOf5
 v5 := Tryz.zeroValue5
 infoByte := by kernel_rfl
 cellsByte := by kernel_rfl
 sizeByte := by kernel_rfl
 neB5 := by decide }
theorem zs2 : yv Tryz.prog (join_ren.f 156) := ⟨Tryz.f143, zg Tryz.f143, Tryz.func143, by kernel_rfl, by kernel_rfl⟩
theorem zuJ : GSOK Tryz.prog 143 (.r (libS (isLS 9) (fun x => z3C (x.1) (x.2)) gStr)) := zr0 9 zs1 zqq zs2
end Go.Proofs.Y
namespace Go.Proofs.Y
open Go.Rb Go.Kx
noncomputable abbrev zs3 : GS := .r (libS [.v (.one (.sl 9 (.one .str))) false, .v (.one .str) false] (fun x => z3C (x.1) (x.2)) gStr)
theorem zs4 : GSOK Tryz.prog 143 zs3 := zuJ
end Go.Proofs.Y
namespace Go.Proofs.Y
open Go.Rb Go.Kx
noncomputable def z1L : Code := zg Tryz.f112
noncomputable def z1M : FuncId → Option GS := tabG [(103, Y5), (142, znq), (143, zs3)]
theorem z9t : ΓOK Tryz.prog z1M := z8 (Yl) (z8 (zom) (z8 (zs4) (ze)))
def z1N : HT := ⟨tabL [(12, .it [] (dyn [.t 29 (.int .i64), .b 5 0 9 (.one .str)]))], tabH []⟩
abbrev Ve : List IT := [.v (.cons (.int .i64) (.cons (.int .i64) (.cons (.int .i64) (.one (.sl 77 (.cons (.int .i64) (.cons (.int .i64) (.one (.int .i64))))))))) true]
abbrev z0K : List OT := [⟨.one .str, false, []⟩, ⟨.one (.int .i64), false, []⟩]
set_option maxRecDepth 100000
noncomputable def Yk : Int × Int × Int × List (Int × Int × Int) → Option (List UInt8 × Int) := fun a => z6 (zn (a.1, a.2.1, a.2.2.1, a.2.2.2)) fun y => ifB (neI y 0) (some ([], y)) (ifB (eqI a.1 1) (zk maxR (fun (x : Int × List (List UInt8)) => ifB (ltI x.1 (lenI a.2.2.2)) (z6 (atI a.2.2.2 x.1) fun y => zk maxR (fun (x_1 : Int × List (List UInt8)) => ifB (ltI x_1.1 (lenI [y.1, y.2.1, y.2.2])) (z6 (atI [y.1, y.2.1, y.2.2] x_1.1) fun y => z6 (Yo y) fun y => ifB (zh 16 x_1.2 [y]) (some (Sum.inl (wadd .i64 x_1.1 1, cat x_1.2 [y]))) none) (mapO Sum.inr (some (Sum.inl (wadd .i64 x.1 1, x_1.2))))) (0, x.2)) (mapO Sum.inr (z6 (z3C x.2 [32]) fun y => some (y, 0)))) (0, [[98, 97, 116, 99, 104]])) (ifB (eqI a.1 2) (zk maxR (fun (x : Int × List (List UInt8)) => ifB (ltI x.1 (lenI [a.2.1, a.2.2.1])) (z6 (atI [a.2.1, a.2.2.1] x.1) fun y => z6 (Yo y) fun y => ifB (zh 16 x.2 [y]) (some (Sum.inl (wadd .i64 x.1 1, cat x.2 [y]))) none) (mapO Sum.inr (z6 (z3C x.2 [32]) fun y => some (y, 0)))) (0, [ifB (eqI a.1 2) [115, 101, 97, 108] (ifB (eqI a.1 3) [109, 101, 114, 103, 101] [])])) (ifB (eqI a.1 3) (zk maxR (fun (x : Int × List (List UInt8)) => ifB (ltI x.1 (lenI [a.2.1, a.2.2.1])) (z6 (atI [a.2.1, a.2.2.1] x.1) fun y => z6 (Yo y) fun y => ifB (zh 16 x.2 [y]) (some (Sum.inl (wadd .i64 x.1 1, cat x.2 [y]))) none) (mapO Sum.inr (z6 (z3C x.2 [32]) fun y => some (y, 0)))) (0, [ifB (eqI a.1 2) [115, 101, 97, 108] (ifB (eqI a.1 3) [109, 101, 114, 103, 101] [])])) (zk maxR (fun (x : Int × List (List UInt8)) => ifB (ltI x.1 (lenI [a.2.2.1])) (z6 (atI [a.2.2.1] x.1) fun y => z6 (Yo y) fun y => ifB (zh 16 x.2 [y]) (some (Sum.inl (wadd .i64 x.1 1, cat x.2 [y]))) none) (mapO Sum.inr (z6 (z3C x.2 [32]) fun y => some (y, 0)))) (0, [[100, 114, 111, 112]])))))
theorem z6D (x : PI Ve) : Yk x = fnE T z1M z1N z1L (zo Tryz.f112) Ve z0K x := by kernel_rfl
noncomputable abbrev z1O : GS := zp false Ve z0K fun x => Yk x
theorem z6E : GSOK Tryz.prog 112 z1O := zm tok z9t fmo (Ht := z1N) (fn := Tryz.f112) (Tryz.func112) (c := z1L) (by kernel_rfl) (by kernel_rfl) (by kernel_rfl) (by decide +kernel) (by decide) z6D
end Go.Proofs.Y
namespace Go.Proofs.Y
open Go.Rb Go.Kx
theorem zpg {α : Type} (ns : List Int) (hn : ∀ n ∈ ns, z9V n) (hl : ns.length ≤ 1000) (F : List (List UInt8) → Option α) (s : List (List UInt8)) (hs : s.length ≤ 100000) :
  zk maxR (fun (x : Int × List (List UInt8)) => ifB (ltI x.1 (lenI ns)) (z6 (atI ns x.1) fun (y : Int) => z6 (Yo y) fun (t : List UInt8) => ifB (zh 16 x.2 [t]) (some (Sum.inl (wadd .i64 x.1 1, cat x.2 [t]))) none) (mapO Sum.inr (F x.2))) (0, s) = F (s ++ ns.map Lib.itoa) := by
 refine zQ ns (fun j (s : List (List UInt8)) => ((j : Int), s)) (G := fun rest s => F (s ++ rest.map Lib.itoa)) (P := fun j s => s.length ≤ 100000 + j) (s0 := s) ?_ ?_ (by simpa using hs) (by omega)
 ·rintro j acc hj hp k hk
  have hat := zN hj
  have hm : ns.getD j default ∈ ns := yi hj
  have hb := hn _ hm
  generalize ns.getD j default = n at *
  have hi : Yo n = some (Lib.itoa n) := by unfold Yo; exact if_pos hb
  simp only at hp ⊢
  rw [za, zi, zb, if_pos (by omega), hat, z7, hi, z7, za, zz, if_pos (by simp only [List.length_cons, List.length_nil]; omega), zu, zF (by omega), zY, hk _ (by simp only [List.length_append, List.length_cons, List.length_nil]; omega), List.append_assoc]
  rfl
 ·rintro acc hp k
  simp only
  rw [za, zd, zi, zb, if_neg (by omega)]
  simp
theorem zuK (c : UInt8) (w : List UInt8) (r : List (List UInt8)) : Lib.join (w :: r) [c] = jn c (w :: r) := by
 rw [Lib.join_cons]; rfl
noncomputable def finT (ws : List (List UInt8)) : Option (List UInt8 × Int) := z6 (z3C ws [32]) fun (y : List UInt8) => some (y, 0)
theorem zph {w : List UInt8} {r : List (List UInt8)} (h : (jn 32 (w :: r)).length ≤ 100000) (hl : r.length ≤ 100000) : finT (w :: r) = some (jn 32 (w :: r), 0) := by
 unfold finT z3C
 rw [zuK, if_pos ⟨by simp only [List.length_cons]; omega, by omega⟩, z7]
noncomputable def rtS (ns : List Int) (w : List UInt8) : Option (List UInt8 × Int) :=
 zk maxR (fun (x : Int × List (List UInt8)) => ifB (ltI x.1 (lenI ns)) (z6 (atI ns x.1) fun (y : Int) => z6 (Yo y) fun (t : List UInt8) => ifB (zh 16 x.2 [t]) (some (Sum.inl (wadd .i64 x.1 1, cat x.2 [t]))) none) (mapO Sum.inr (finT x.2))) (0, [w])
theorem znr (a : Rc) : Yk a = z6 (zn a) fun (e : Int) => ifB (neI e 0) (some ([], e)) (ifB (eqI a.1 1)
  (zk maxR (fun (x : Int × List (List UInt8)) => ifB (ltI x.1 (lenI a.2.2.2)) (z6 (atI a.2.2.2 x.1) fun (z : Ent) =>
    zk maxR (fun (v : Int × List (List UInt8)) => ifB (ltI v.1 (lenI [z.1, z.2.1, z.2.2])) (z6 (atI [z.1, z.2.1, z.2.2] v.1) fun (y : Int) => z6 (Yo y) fun (t : List UInt8) => ifB (zh 16 v.2 [t]) (some (Sum.inl (wadd .i64 v.1 1, cat v.2 [t]))) none) (mapO Sum.inr (some (Sum.inl (wadd .i64 x.1 1, v.2))))) (0, x.2))
   (mapO Sum.inr (finT x.2))) (0, [[98, 97, 116, 99, 104]]))
  (ifB (eqI a.1 2) (rtS [a.2.1, a.2.2.1] (ifB (eqI a.1 2) [115, 101, 97, 108] (ifB (eqI a.1 3) [109, 101, 114, 103, 101] [])))
   (ifB (eqI a.1 3) (rtS [a.2.1, a.2.2.1] (ifB (eqI a.1 2) [115, 101, 97, 108] (ifB (eqI a.1 3) [109, 101, 114, 103, 101] []))) (rtS [a.2.2.1] [100, 114, 111, 112])))) := by kernel_rfl
theorem zns {ns : List Int} {w : List UInt8} (hn : ∀ n ∈ ns, z9V n) (hl : ns.length ≤ 1000) (h : (jn 32 (w :: ns.map Lib.itoa)).length ≤ 100000) : rtS ns w = some (jn 32 (w :: ns.map Lib.itoa), 0) := by
 unfold rtS
 refine (zpg ns hn hl finT [w] (by simp)).trans ?_
 exact zph (w := w) (r := ns.map Lib.itoa) h (by rw [List.length_map]; omega)
theorem zqr (r : Rc) (hl : r.2.2.2.length < 4611686018427387904) : Yk r = some (z6q r) := by
 rw [znr, z0F r hl, z7, zj]
 unfold z6q
 by_cases hc : zA r = 0
 ·rw [if_pos hc, if_pos hc]
  have htl := z44 hc
  obtain ⟨a1, a2⟩ := zdM hc
  obtain ⟨k1, k2, k3, k4⟩ := Ym hc
  obtain ⟨k, i, n, l⟩ := r
  simp only at k1 k2 k3 k4 a1 a2 htl hl ⊢
  have hin : ∀ m ∈ Yx (k, i, n, l), z9V m := fun m hm => by have := a2 m hm; unfold z9V; omega
  unfold yx at htl ⊢
  rw [zf]
  by_cases c1 : k = 1
  ·subst c1
   have e1 : Yx (1, i, n, l) = yA l := rfl
   have e2 : kindW.getD (1 : Int).toNat [] = [98, 97, 116, 99, 104] := rfl
   rw [e1] at hin a1
   rw [e1, e2] at htl ⊢
   rw [if_pos rfl]
   have hl10 := z6r l
   have key := zQ l (fun j (s : List (List UInt8)) => ((j : Int), s)) (f := fun (x : Int × List (List UInt8)) => ifB (ltI x.1 (lenI l)) (z6 (atI l x.1) fun (z : Ent) =>
     zk maxR (fun (v : Int × List (List UInt8)) => ifB (ltI v.1 (lenI [z.1, z.2.1, z.2.2])) (z6 (atI [z.1, z.2.1, z.2.2] v.1) fun (y : Int) => z6 (Yo y) fun (t : List UInt8) => ifB (zh 16 v.2 [t]) (some (Sum.inl (wadd .i64 v.1 1, cat v.2 [t]))) none) (mapO Sum.inr (some (Sum.inl (wadd .i64 x.1 1, v.2))))) (0, x.2))
    (mapO Sum.inr (finT x.2))) (G := fun rest s => finT (s ++ (yA rest).map Lib.itoa)) (P := fun j s => s.length ≤ 1 + 3 * j) (s0 := [[98, 97, 116, 99, 104]]) ?_ ?_ (by simp) (by omega)
   ·refine key.trans ?_
    exact zph (w := [98, 97, 116, 99, 104]) (r := (yA l).map Lib.itoa) (by omega) (by rw [List.length_map]; omega)
   ·rintro j acc hj hp kk hk
    have hat := zN hj
    have hm : l.getD j default ∈ l := yi hj
    have hz : ∀ m ∈ [(l.getD j default).1, (l.getD j default).2.1, (l.getD j default).2.2], z9V m := by
     have hsub : ∀ (l : List Ent) (z : Ent), z ∈ l → ∀ m ∈ [z.1, z.2.1, z.2.2], m ∈ yA l := by
      intro l z hz
      induction l with
      | nil => cases hz
      | cons x r ih =>
       intro m hm
       rw [yA]
       rcases List.mem_cons.1 hz with rfl | hz
       ·simp only [List.mem_cons, List.not_mem_nil, or_false] at hm
        rcases hm with rfl | rfl | rfl <;> simp
       ·have := ih hz m hm; simp [this]
     exact fun m hm' => hin m (hsub l _ hm m hm')
    generalize l.getD j default = z at *
    simp only at hp ⊢
    rw [za, zi, zb, if_pos (by omega), hat, z7]
    have := zpg [z.1, z.2.1, z.2.2] hz (by simp) (fun s => (some (Sum.inl (wadd .i64 (j : Int) 1, s)) : Option (Sum (Int × List (List UInt8)) (List UInt8 × Int)))) acc (by omega)
    rw [this, zu, zF (by omega), hk _ (by simp only [List.length_append, List.length_map, List.length_cons, List.length_nil]; omega), yA]
    simp only [List.map_cons, List.map_nil, List.append_assoc, List.cons_append, List.nil_append]
   ·rintro acc hp kk
    simp only
    rw [za, zd, zi, zb, if_neg (by omega)]
    simp [yA]
  ·rw [if_neg c1, zf]
   have : k = 2 ∨ k = 3 ∨ k = 4 := by omega
   rcases this with rfl | rfl | rfl
   ·rw [if_pos rfl]
    exact zns (w := [115, 101, 97, 108]) hin (by simp) (by exact Nat.le_trans htl (by omega))
   ·rw [if_neg (by omega), zf, if_pos rfl]
    exact zns (w := [109, 101, 114, 103, 101]) hin (by simp) (by exact Nat.le_trans htl (by omega))
   ·rw [if_neg (by omega), zf, if_neg (by omega)]
    exact zns (w := [100, 114, 111, 112]) hin (by simp) (by exact Nat.le_trans htl (by omega))
 ·rw [if_neg hc, if_neg hc]
end Go.Proofs.Y
namespace Go.Proofs.Y
open Go.Rb Go.Kx
noncomputable def z2U : Code := zg Tryz.f73
noncomputable def z2V : FuncId → Option GS := tabG [(112, z1O), (87, JB)]
theorem zb4 : ΓOK Tryz.prog z2V := z8 (z6E) (z8 (VX) (ze))
def z2W : HT := ⟨tabL [], tabH []⟩
abbrev VK : List IT := [.v (.cons (.sl 5 (.one (.int .u8))) (.one (.sl 5 (.one (.int .u8))))) true, .v (.cons (.int .i64) (.cons (.int .i64) (.cons (.int .i64) (.one (.sl 77 (.cons (.int .i64) (.cons (.int .i64) (.one (.int .i64))))))))) true]
abbrev z2K : List OT := [⟨.cons (.sl 5 (.one (.int .u8))) (.one (.sl 5 (.one (.int .u8)))), true, []⟩, ⟨.one (.int .i64), false, []⟩]
set_option maxRecDepth 100000
noncomputable def y8 : List Int × List Int → Int × Int × Int × List (Int × Int × Int) → Option ((List Int × List Int) × Int) := fun a b => z6 (Yk (b.1, b.2.1, b.2.2.1, b.2.2.2)) fun y => ifB (neI y.2 0) (some (([], []), y.2)) (ifB (gtI (wadd .i64 (wadd .i64 (wadd .i64 (lenI a.1) (lenI a.2)) (lenI y.1)) 1) 60000) (some (([], []), 2)) (ifB (Jl y.1 [10]) (z6 (YN [a.2, bytB (catS y.1 [10])]) fun y => some ((a.1, y), 0)) none))
theorem z8s (x : PI VK) : y8 (x.1) (x.2) = fnE T z2V z2W z2U (zo Tryz.f73) VK z2K x := by kernel_rfl
noncomputable abbrev z2X : GS := zp false VK z2K fun x => y8 (x.1) (x.2)
theorem z8t : GSOK Tryz.prog 73 z2X := zm tok zb4 fmo (Ht := z2W) (fn := Tryz.f73) (Tryz.func73) (c := z2U) (by kernel_rfl) (by kernel_rfl) (by kernel_rfl) (by decide +kernel) (by decide) z8s
end Go.Proofs.Y
namespace Go.Proofs.Y
open Go.Rb Go.Kx
noncomputable def z2L : Code := zg Tryz.f74
noncomputable def z2M : FuncId → Option GS := tabG [(87, JB), (62, vQ)]
theorem zae : ΓOK Tryz.prog z2M := z8 (VX) (z8 (j6) (ze))
def z2N : HT := ⟨tabL [], tabH []⟩
abbrev Vx : List IT := [.v (.cons (.sl 5 (.one (.int .u8))) (.one (.sl 5 (.one (.int .u8))))) true]
abbrev z1P : List OT := [⟨.cons (.sl 5 (.one (.int .u8))) (.one (.sl 5 (.one (.int .u8)))), true, []⟩, ⟨.one (.int .i64), false, []⟩]
set_option maxRecDepth 100000
noncomputable def ZZ : List Int × List Int → Option ((List Int × List Int) × Int) := fun a => z6 (YN [a.1, a.2]) fun y => z6 (yb (y, [])) fun y_1 => ifB (neI y_1 0) (some (([], []), y_1)) (some ((y, []), 0))
theorem z6X (x : PI Vx) : ZZ x = fnE T z2M z2N z2L (zo Tryz.f74) Vx z1P x := by kernel_rfl
noncomputable abbrev z2O : GS := zp false Vx z1P fun x => ZZ x
theorem z6Y : GSOK Tryz.prog 74 z2O := zm tok zae fmo (Ht := z2N) (fn := Tryz.f74) (Tryz.func74) (c := z2L) (by kernel_rfl) (by kernel_rfl) (by kernel_rfl) (by decide +kernel) (by decide) z6X
end Go.Proofs.Y
namespace Go.Proofs.Y
open Go.Rb Go.Kx
noncomputable def z0L : Code := zg Tryz.f66
noncomputable def z0M : FuncId → Option GS := tabG [(99, zd1)]
theorem z8u : ΓOK Tryz.prog z0M := z8 (zd2) (ze)
def z0N : HT := ⟨tabL [], tabH []⟩
abbrev vS : List IT := [.v (.cons (.sl 5 (.one (.int .u8))) (.one (.sl 5 (.one (.int .u8))))) true, .v (.cons (.sl 5 (.one (.int .u8))) (.one (.sl 5 (.one (.int .u8))))) true]
abbrev z07 : List OT := [⟨.one .bool, false, []⟩]
set_option maxRecDepth 100000
noncomputable def Y9 : List Int × List Int → List Int × List Int → Option Bool := fun a b => z6 (Vz a.1 b.1) fun y => ifB y (z6 (Vz a.2 b.2) fun y => some y) (some false)
theorem z5j (x : PI vS) : Y9 (x.1) (x.2) = fnE T z0M z0N z0L (zo Tryz.f66) vS z07 x := by kernel_rfl
noncomputable abbrev z0O : GS := zp false vS z07 fun x => Y9 (x.1) (x.2)
theorem z5k : GSOK Tryz.prog 66 z0O := zm tok z8u fmo (Ht := z0N) (fn := Tryz.f66) (Tryz.func66) (c := z0L) (by kernel_rfl) (by kernel_rfl) (by kernel_rfl) (by decide +kernel) (by decide) z5j
end Go.Proofs.Y
namespace Go.Proofs.Y
open Go.Rb Go.Kx
theorem zon (a b : List UInt8 × List UInt8) (h1 : a.1.length < 4611686018427387904) (h2 : a.2.length < 4611686018427387904) : Y9 (bytB a.1, bytB a.2) (bytB b.1, bytB b.2) = some (decide (a = b)) := by
 rw [← zmX a b h1 h2]; rfl
theorem ztw {d : List UInt8 × List UInt8} {r : Rc} (hc : zM d = 0) (hr : r.2.2.2.length < 4611686018427387904) : y8 (bytB d.1, bytB d.2) r = some (bD (dPut d r).1, (dPut d r).2) := by
 have hlen := Yz hc
 unfold y8 dPut
 refine (Zb (zqr r hr) _).trans ?_
 unfold z6q
 rw [if_pos hc]
 by_cases h : zA r = 0
 ·have htl := z44 h
  rw [if_pos h, if_pos h]
  simp only
  have w1 : wadd .i64 (d.1.length : Int) (d.2.length : Int) = d.1.length + d.2.length := ZM ⟨by omega, by omega⟩
  have w2 : wadd .i64 ((d.1.length : Int) + d.2.length) ((yx r).length : Int) = d.1.length + d.2.length + (yx r).length := ZM ⟨by omega, by omega⟩
  have w3 : wadd .i64 ((d.1.length : Int) + d.2.length + (yx r).length) 1 = d.1.length + d.2.length + (yx r).length + 1 := ZM ⟨by omega, by omega⟩
  rw [zj, if_pos rfl, zb, zb, zb, ZC, ZC, w1, w2, w3, zy]
  by_cases c : 60000 - (d.1.length : Int) - d.2.length < (yx r).length + 1
  ·rw [if_pos (by omega), if_pos c]; rfl
  ·have hl2 : (Yy r).length = (yx r).length + 1 := by simp [Yy]
   rw [if_neg (by omega), if_neg c, Z3, if_pos (by simp only [List.length_cons, List.length_nil]; omega)]
   refine (Zb (show YN [bytB d.2, bytB (catS (yx r) [10])] = some (bytB (d.2 ++ Yy r)) from z0G d.2 (Yy r) (by omega)) _).trans ?_
   rfl
 ·rw [if_neg h, if_neg h]
  simp only
  rw [zj, if_neg h]; rfl
theorem zs5 {d : List UInt8 × List UInt8} (hc : zM d = 0) : ZZ (bytB d.1, bytB d.2) = some (bD (vJ d).1, (vJ d).2) := by
 have hlen := Yz hc
 unfold ZZ vJ
 rw [if_pos hc]
 refine (Zb (z0G d.1 d.2 hlen) _).trans ?_
 refine (Zb (show yb (bytB (d.1 ++ d.2), []) = some (zM (d.1 ++ d.2, [])) from zds (d.1 ++ d.2, []) (by simp only [List.length_append]; omega) (by simp)) _).trans ?_
 rw [zj]
 split
 ·rfl
 ·rfl
end Go.Proofs.Y
namespace Go.Proofs.Y
open Go.Rb Go.Kx
noncomputable def znt : Code := zg Tryz.f68
noncomputable def znu : FuncId → Option GS := tabG []
theorem ztx : ΓOK Tryz.prog znu := ze
def znv : HT := ⟨tabL [], tabH []⟩
noncomputable def znw : GS := inl T znu znv znt (zo Tryz.f68) (Tryz.f68.ntmps)
theorem zoo : GSOK Tryz.prog 68 znw := yV tok ztx fmo (Ht := znv) (fn := Tryz.f68) (Tryz.func68) (c := znt) (by kernel_rfl) (by kernel_rfl) (by kernel_rfl)
end Go.Proofs.Y
namespace Go.Proofs.Y
open Go.Rb Go.Kx
noncomputable def z4a : Code := zg Tryz.f71
noncomputable def z4b : FuncId → Option GS := tabG []
theorem zdt : ΓOK Tryz.prog z4b := ze
def z4c : HT := ⟨tabL [], tabH []⟩
abbrev jd : List IT := []
abbrev z2Y : List OT := [⟨.one (.sl 3 (.one (.int .i64))), false, [true]⟩]
set_option maxRecDepth 100000
noncomputable def ZI : Option (List Int) := some [-1, -1, -1]
theorem z9u (x : PI jd) : ZI  = fnE T z4b z4c z4a (zo Tryz.f71) jd z2Y x := by kernel_rfl
noncomputable abbrev Jh : GS := zp false jd z2Y fun x => ZI 
theorem z1Q : GSOK Tryz.prog 71 Jh := zm tok zdt fmo (Ht := z4c) (fn := Tryz.f71) (Tryz.func71) (c := z4a) (by kernel_rfl) (by kernel_rfl) (by kernel_rfl) (by decide +kernel) (by decide) z9u
end Go.Proofs.Y
namespace Go.Proofs.Y
open Go.Rb Go.Kx
noncomputable def z0P : Code := zg Tryz.f21
noncomputable def z0Q : FuncId → Option GS := tabG [(68, znw), (64, y4), (69, zfC), (55, vR), (70, vy), (71, Jh), (56, Vq), (72, z2o), (73, z2X), (74, z2O)]
theorem z8v : ΓOK Tryz.prog z0Q := z8 (zoo) (z8 (ZP) (z8 (zeT) (z8 (j7) (z8 (Vy) (z8 (z1Q) (z8 (jS) (z8 (z6P) (z8 (z8t) (z8 (z6Y) (ze))))))))))
def z0R : HT := ⟨tabL [], tabH []⟩
abbrev vT : List IT := [.v (.cons (.sl 95 (.cons (.sl 126 (.cons (.int .i64) (.cons (.int .i64) (.cons (.int .i64) (.one (.sl 4 (.one .bool))))))) (.one (.sl 73 (.cons (.int .i64) (.one (.int .i64))))))) (.cons (.sl 5 (.one (.int .u8))) (.cons (.sl 5 (.one (.int .u8))) (.cons (.bool) (.one (.sl 3 (.one (.int .i64)))))))) true, .v (.cons (.int .i64) (.cons (.int .i64) (.cons (.int .i64) (.one (.sl 77 (.cons (.int .i64) (.cons (.int .i64) (.one (.int .i64))))))))) true]
abbrev z08 : List OT := [⟨.cons (.sl 95 (.cons (.sl 126 (.cons (.int .i64) (.cons (.int .i64) (.cons (.int .i64) (.one (.sl 4 (.one .bool))))))) (.one (.sl 73 (.cons (.int .i64) (.one (.int .i64))))))) (.cons (.sl 5 (.one (.int .u8))) (.cons (.sl 5 (.one (.int .u8))) (.cons (.bool) (.one (.sl 3 (.one (.int .i64))))))), true, []⟩, ⟨.one (.int .i64), false, []⟩]
set_option maxRecDepth 100000
noncomputable def Ya : List (List (Int × Int × Int × List Bool) × List (Int × Int)) × List Int × List Int × Bool × List Int → Int × Int × Int × List (Int × Int × Int) → Option ((List (List (Int × Int × Int × List Bool) × List (Int × Int)) × List Int × List Int × Bool × List Int) × Int) := fun a b => z6 (zl b.1 1 9) fun y => ifB (notB y) (some (([], [], [], false, []), 4)) (ifB (notB (eqB a.2.2.2.1 (neI b.1 8))) (some (([], [], [], false, []), 7)) (z6 (z3y a.2.2.2.2) fun y => z6 (ZB (a.2.1, a.2.2.1)) fun y_1 => ifB (eqI b.1 5) (z6 (zl b.2.2.1 0 2) fun y_2 => ifB (notB y_2) (some (([], [], [], false, []), 5)) (ifB (ltL b.2.2.1 y) (z6 (atN y (natI b.2.2.1)) fun y_3 => ifB (eqI b.1 5) (ifB (ltL b.2.2.1 (setN y (natI b.2.2.1) (-1))) (z6 (atN (setN y (natI b.2.2.1) (-1)) (natI b.2.2.1)) fun y_4 => some ((a.1, a.2.1, a.2.2.1, a.2.2.2.1, setN (setN y (natI b.2.2.1) (-1)) (natI b.2.2.1) (lenI y_1.2)), 0)) none) (some ((a.1, a.2.1, a.2.2.1, a.2.2.2.1, setN y (natI b.2.2.1) (-1)), 0))) none)) (ifB (eqI b.1 6) (z6 (zl b.2.2.1 0 2) fun y_2 => ifB (notB y_2) (some (([], [], [], false, []), 5)) (ifB (ltL b.2.2.1 y) (z6 (atN y (natI b.2.2.1)) fun y_3 => ifB (eqI b.1 5) (ifB (ltL b.2.2.1 (setN y (natI b.2.2.1) (-1))) (z6 (atN (setN y (natI b.2.2.1) (-1)) (natI b.2.2.1)) fun y_4 => some ((a.1, a.2.1, a.2.2.1, a.2.2.2.1, setN (setN y (natI b.2.2.1) (-1)) (natI b.2.2.1) (lenI y_1.2)), 0)) none) (some ((a.1, a.2.1, a.2.2.1, a.2.2.2.1, setN y (natI b.2.2.1) (-1)), 0))) none)) (ifB (eqI b.1 7) (z6 zT fun y => z6 ZI fun y_2 => some ((y, a.2.1, a.2.2.1, false, y_2), 0)) (ifB (eqI b.1 8) (z6 (ZB (a.2.1, a.2.2.1)) fun y_2 => z6 (ZJ y_2.2) fun y_3 => ifB (neI y_3.2 0) (some (([], [], [], false, []), y_3.2)) (some ((y_3.1, y_2.1.1, y_2.1.2, true, y), 0))) (ifB (eqI b.1 2) (z6 (ZX a.1 (2, b.2.1, b.2.2.1, [])) fun y_2 => ifB (neI y_2.2 0) (some (([], [], [], false, []), y_2.2)) (z6 (y8 (a.2.1, a.2.2.1) (2, b.2.1, b.2.2.1, [])) fun y_3 => ifB (neI y_3.2 0) (some (([], [], [], false, []), y_3.2)) (ifB (eqI b.1 9) (ifB (in1 y_3.1.2 (maxI 0 (minI b.2.2.1 (lenI y_3.1.2)))) (z6 zT fun y => z6 ZI fun y_4 => some ((y, y_3.1.1, YE y_3.1.2 (maxI 0 (minI b.2.2.1 (lenI y_3.1.2))), false, y_4), 0)) none) (z6 (ZZ (y_3.1.1, y_3.1.2)) fun y_4 => ifB (neI y_4.2 0) (some (([], [], [], false, []), y_4.2)) (some ((y_2.1, y_4.1.1, y_4.1.2, a.2.2.2.1, y), 0)))))) (ifB (eqI b.1 3) (z6 (ZX a.1 (3, b.2.1, b.2.2.1, [])) fun y_2 => ifB (neI y_2.2 0) (some (([], [], [], false, []), y_2.2)) (z6 (y8 (a.2.1, a.2.2.1) (3, b.2.1, b.2.2.1, [])) fun y_3 => ifB (neI y_3.2 0) (some (([], [], [], false, []), y_3.2)) (ifB (eqI b.1 9) (ifB (in1 y_3.1.2 (maxI 0 (minI b.2.2.1 (lenI y_3.1.2)))) (z6 zT fun y => z6 ZI fun y_4 => some ((y, y_3.1.1, YE y_3.1.2 (maxI 0 (minI b.2.2.1 (lenI y_3.1.2))), false, y_4), 0)) none) (z6 (ZZ (y_3.1.1, y_3.1.2)) fun y_4 => ifB (neI y_4.2 0) (some (([], [], [], false, []), y_4.2)) (some ((y_2.1, y_4.1.1, y_4.1.2, a.2.2.2.1, y), 0)))))) (ifB (eqI b.1 4) (z6 (ZX a.1 (4, 0, b.2.2.1, [])) fun y_2 => ifB (neI y_2.2 0) (some (([], [], [], false, []), y_2.2)) (z6 (y8 (a.2.1, a.2.2.1) (4, 0, b.2.2.1, [])) fun y_3 => ifB (neI y_3.2 0) (some (([], [], [], false, []), y_3.2)) (ifB (eqI b.1 9) (ifB (in1 y_3.1.2 (maxI 0 (minI b.2.2.1 (lenI y_3.1.2)))) (z6 zT fun y => z6 ZI fun y_4 => some ((y, y_3.1.1, YE y_3.1.2 (maxI 0 (minI b.2.2.1 (lenI y_3.1.2))), false, y_4), 0)) none) (z6 (ZZ (y_3.1.1, y_3.1.2)) fun y_4 => ifB (neI y_4.2 0) (some (([], [], [], false, []), y_4.2)) (some ((y_2.1, y_4.1.1, y_4.1.2, a.2.2.2.1, y), 0)))))) (z6 (ZX a.1 (1, 0, 0, b.2.2.2)) fun y_2 => ifB (neI y_2.2 0) (some (([], [], [], false, []), y_2.2)) (z6 (y8 (a.2.1, a.2.2.1) (1, 0, 0, b.2.2.2)) fun y_3 => ifB (neI y_3.2 0) (some (([], [], [], false, []), y_3.2)) (ifB (eqI b.1 9) (ifB (in1 y_3.1.2 (maxI 0 (minI b.2.2.1 (lenI y_3.1.2)))) (z6 zT fun y => z6 ZI fun y_4 => some ((y, y_3.1.1, YE y_3.1.2 (maxI 0 (minI b.2.2.1 (lenI y_3.1.2))), false, y_4), 0)) none) (z6 (ZZ (y_3.1.1, y_3.1.2)) fun y_4 => ifB (neI y_4.2 0) (some (([], [], [], false, []), y_4.2)) (some ((y_2.1, y_4.1.1, y_4.1.2, a.2.2.2.1, y), 0))))))))))))))
theorem z5l (x : PI vT) : Ya (x.1) (x.2) = fnE T z0Q z0R z0P (zo Tryz.f21) vT z08 x := by kernel_rfl
noncomputable abbrev z0S : GS := zp false vT z08 fun x => Ya (x.1) (x.2)
theorem z5m : GSOK Tryz.prog 21 z0S := zm tok z8v fmo (Ht := z0R) (fn := Tryz.f21) (Tryz.func21) (c := z0P) (by kernel_rfl) (by kernel_rfl) (by kernel_rfl) (by decide +kernel) (by decide) z5l
end Go.Proofs.Y
namespace Go.Proofs.Y
open Go.Rb Go.Kx
noncomputable def z09 : Code := zg Tryz.f20
noncomputable def z0a : FuncId → Option GS := tabG [(63, vP), (66, z0O), (67, zfH)]
theorem z6Z : ΓOK Tryz.prog z0a := z8 (VV) (z8 (z5k) (z8 (zf2) (ze)))
def z0b : HT := ⟨tabL [], tabH []⟩
abbrev vG : List IT := [.v (.cons (.sl 95 (.cons (.sl 126 (.cons (.int .i64) (.cons (.int .i64) (.cons (.int .i64) (.one (.sl 4 (.one .bool))))))) (.one (.sl 73 (.cons (.int .i64) (.one (.int .i64))))))) (.cons (.sl 5 (.one (.int .u8))) (.cons (.sl 5 (.one (.int .u8))) (.cons (.bool) (.one (.sl 3 (.one (.int .i64)))))))) true, .v (.cons (.sl 95 (.cons (.sl 126 (.cons (.int .i64) (.cons (.int .i64) (.cons (.int .i64) (.one (.sl 4 (.one .bool))))))) (.one (.sl 73 (.cons (.int .i64) (.one (.int .i64))))))) (.cons (.sl 5 (.one (.int .u8))) (.cons (.sl 5 (.one (.int .u8))) (.cons (.bool) (.one (.sl 3 (.one (.int .i64)))))))) true]
abbrev Ji : List OT := [⟨.one .bool, false, []⟩]
set_option maxRecDepth 100000
noncomputable def Z9 : List (List (Int × Int × Int × List Bool) × List (Int × Int)) × List Int × List Int × Bool × List Int → List (List (Int × Int × Int × List Bool) × List (Int × Int)) × List Int × List Int × Bool × List Int → Option Bool := fun a b => ifB (eqB a.2.2.2.1 b.2.2.2.1) (z6 (Zj a.1 b.1) fun y => ifB y (z6 (Y9 (a.2.1, a.2.2.1) (b.2.1, b.2.2.1)) fun y => ifB y (z6 (J8 a.2.2.2.2 b.2.2.2.2) fun y => some y) (some false)) (some false)) (some false)
theorem z4F (x : PI vG) : Z9 (x.1) (x.2) = fnE T z0a z0b z09 (zo Tryz.f20) vG Ji x := by kernel_rfl
noncomputable abbrev z0c : GS := zp false vG Ji fun x => Z9 (x.1) (x.2)
theorem z4G : GSOK Tryz.prog 20 z0c := zm tok z6Z fmo (Ht := z0b) (fn := Tryz.f20) (Tryz.func20) (c := z09) (by kernel_rfl) (by kernel_rfl) (by kernel_rfl) (by decide +kernel) (by decide) z4F
end Go.Proofs.Y
namespace Go.Proofs.Y
open Go.Rb Go.Kx
noncomputable def z2Z : Code := zg Tryz.f27
noncomputable def z30 : FuncId → Option GS := tabG [(70, vy), (71, Jh)]
theorem zb5 : ΓOK Tryz.prog z30 := z8 (Vy) (z8 (z1Q) (ze))
def z32 : HT := ⟨tabL [], tabH []⟩
abbrev VL : List IT := []
abbrev z2P : List OT := [⟨.cons (.sl 95 (.cons (.sl 126 (.cons (.int .i64) (.cons (.int .i64) (.cons (.int .i64) (.one (.sl 4 (.one .bool))))))) (.one (.sl 73 (.cons (.int .i64) (.one (.int .i64))))))) (.cons (.sl 5 (.one (.int .u8))) (.cons (.sl 5 (.one (.int .u8))) (.cons (.bool) (.one (.sl 3 (.one (.int .i64))))))), true, []⟩]
set_option maxRecDepth 100000
noncomputable def YI : Option (List (List (Int × Int × Int × List Bool) × List (Int × Int)) × List Int × List Int × Bool × List Int) :=  z6 zT fun y => z6 ZI fun y_1 => some (y, [], [], true, y_1)
theorem z8w (x : PI VL) : YI  = fnE T z30 z32 z2Z (zo Tryz.f27) VL z2P x := by kernel_rfl
noncomputable abbrev z33 : GS := zp false VL z2P fun x => YI 
theorem z8x : GSOK Tryz.prog 27 z33 := zm tok zb5 fmo (Ht := z32) (fn := Tryz.f27) (Tryz.func27) (c := z2Z) (by kernel_rfl) (by kernel_rfl) (by kernel_rfl) (by decide +kernel) (by decide) z8w
end Go.Proofs.Y
namespace Go.Proofs.Y
open Go.Rb Go.Kx
noncomputable def wrQ (a : Wv) (rd : List Int) (k n : Int) (r : Rc) : Option (Wv × Int) :=
 z6 (ZX a.1 r) fun (s : Shf × Int) => ifB (neI s.2 0) (some (zW, s.2)) (z6 (y8 (a.2.1, a.2.2.1) r) fun (d : (List Int × List Int) × Int) => ifB (neI d.2 0) (some (zW, d.2))
  (ifB (eqI k 9) (ifB (in1 d.1.2 (maxI 0 (minI n (lenI d.1.2)))) (z6 zT fun (f : Shf) => z6 ZI fun (c : List Int) => some ((f, d.1.1, YE d.1.2 (maxI 0 (minI n (lenI d.1.2))), false, c), 0)) none)
   (z6 (ZZ (d.1.1, d.1.2)) fun (e : (List Int × List Int) × Int) => ifB (neI e.2 0) (some (zW, e.2)) (some ((s.1, e.1.1, e.1.2, a.2.2.2.1, rd), 0)))))
noncomputable def opQ (a : Wv) (rd : List Int) (recs : List Rc) (k n : Int) : Option (Wv × Int) :=
 z6 (zl n 0 2) fun (t : Bool) => ifB (notB t) (some (zW, 5)) (ifB (ltL n rd) (z6 (atN rd (natI n)) fun (_ : Int) => ifB (eqI k 5)
  (ifB (ltL n (setN rd (natI n) (-1))) (z6 (atN (setN rd (natI n) (-1)) (natI n)) fun (_ : Int) => some ((a.1, a.2.1, a.2.2.1, a.2.2.2.1, setN (setN rd (natI n) (-1)) (natI n) (lenI recs)), 0)) none)
  (some ((a.1, a.2.1, a.2.2.1, a.2.2.2.1, setN rd (natI n) (-1)), 0))) none)
theorem zkz (a : Wv) (b : Hp) : Ya a b = z6 (zl b.1 1 9) fun (t : Bool) => ifB (notB t) (some (zW, 4)) (ifB (notB (eqB a.2.2.2.1 (neI b.1 8))) (some (zW, 7))
  (z6 (z3y a.2.2.2.2) fun (rd : List Int) => z6 (ZB (a.2.1, a.2.2.1)) fun (q : (List Int × List Int) × List Rc) =>
   ifB (eqI b.1 5) (opQ a rd q.2 b.1 b.2.2.1) (ifB (eqI b.1 6) (opQ a rd q.2 b.1 b.2.2.1)
   (ifB (eqI b.1 7) (z6 zT fun (f : Shf) => z6 ZI fun (c : List Int) => some ((f, a.2.1, a.2.2.1, false, c), 0))
   (ifB (eqI b.1 8) (z6 (ZB (a.2.1, a.2.2.1)) fun (q : (List Int × List Int) × List Rc) => z6 (ZJ q.2) fun (s : Shf × Int) => ifB (neI s.2 0) (some (zW, s.2)) (some ((s.1, q.1.1, q.1.2, true, rd), 0)))
   (ifB (eqI b.1 2) (wrQ a rd b.1 b.2.2.1 (2, b.2.1, b.2.2.1, [])) (ifB (eqI b.1 3) (wrQ a rd b.1 b.2.2.1 (3, b.2.1, b.2.2.1, [])) (ifB (eqI b.1 4) (wrQ a rd b.1 b.2.2.1 (4, 0, b.2.2.1, [])) (wrQ a rd b.1 b.2.2.1 (1, 0, 0, b.2.2.2)))))))))) := by kernel_rfl
theorem zdu : zT = some yG := by
 unfold zT
 rw [Z2, if_pos (by decide)]; rfl
theorem zit : ZI = some [-1, -1, -1] := rfl
theorem zop : YI = some (wvd w0) := by
 unfold YI
 rw [zdu, z7, zit, z7]; rfl
theorem zs6 {s t : List UInt8} (h : (lnP 60 s).2.2 = 0) (hl : s.length + t.length ≤ 60000) : zM (s, t) = 0 := by
 unfold zM
 rw [if_neg (by simp only; omega), if_neg (by simp only; omega)]
 exact h
def ansP (w : Wd) (q : Wd × Int) : Wv × Int := if q.2 = 0 then (wvd q.1, 0) else (zW, q.2)
theorem z5x (w v : Wd) : ansP w (v, 0) = (wvd v, 0) := by unfold ansP; rw [if_pos rfl]
theorem z3z (w v : Wd) {e : Int} (h : ¬ e = 0) : ansP w (v, e) = (zW, e) := by unfold ansP; rw [if_neg h]
theorem zdv {w : Wd} (hs : okS w.1) (hc : zM w.2.1 = 0) (k n : Int) {r : Rc} (hr : r.2.2.2.length < 4611686018427387904) : wrQ (wvd w) w.2.2.2 k n r = some (ansP w (wrP w (decide (k = 9)) n r)) := by
 unfold wrQ
 refine (Zb (zrz w.1 r hs hr) _).trans ?_
 rw [zj]
 by_cases c1 : (ZN w.1 r).2 = 0
 ·rw [if_pos c1]
  refine (Zb (ztw hc hr) _).trans ?_
  simp only
  rw [zj]
  by_cases c2 : (dPut w.2.1 r).2 = 0
  ·obtain ⟨hcr, hp⟩ := zis c2
   have hpl := zfE c2
   have hsafe := z3M (s := w.2.1.1) (w := w.2.1.2) hc
   have hcd : zM (dPut w.2.1 r).1 = 0 := by
    rw [hp] at hpl ⊢
    exact zs6 hsafe hpl
   rw [if_pos c2, zf]
   by_cases c9 : k = 9
   ·have hm : (maxI 0 (minI n (lenI (bD (dPut w.2.1 r).1).2)) : Int) = max 0 (min n ((dPut w.2.1 r).1.2.length : Int)) := by
     rw [zb]
     show max 0 (min n ((bytB (dPut w.2.1 r).1.2).length : Int)) = _
     rw [ZC]
    have e : wrP w (decide (k = 9)) n r = ((yG, ((dPut w.2.1 r).1.1, (dPut w.2.1 r).1.2.take (max 0 (min n ((dPut w.2.1 r).1.2.length : Int))).toNat), false, [-1, -1, -1]), 0) := by
     have hcrash : vB (dPut w.2.1 r).1 (max 0 (min n ((dPut w.2.1 r).1.2.length : Int))) = (((dPut w.2.1 r).1.1, (dPut w.2.1 r).1.2.take (max 0 (min n ((dPut w.2.1 r).1.2.length : Int))).toNat), 0) := by
      unfold vB
      rw [if_pos hcd, if_neg (by omega)]
     unfold wrP
     rw [if_pos c1, if_pos c2, if_pos (decide_eq_true c9), hcrash, if_pos rfl]
    rw [if_pos c9, e, z5x, hm, zI, if_pos ⟨by omega, by show _ ≤ ((bytB (dPut w.2.1 r).1.2).length : Int); rw [ZC]; omega⟩, zdu, z7, zit, z7, zU]
    show some ((yG, bytB (dPut w.2.1 r).1.1, (bytB (dPut w.2.1 r).1.2).take _, false, [-1, -1, -1]), 0) = _
    rw [z7P]; rfl
   ·have hd9 : ¬ decide (k = 9) = true := by simpa using c9
    rw [if_neg c9]
    refine (Zb (zs5 hcd) _).trans ?_
    simp only
    rw [zj]
    by_cases c3 : (vJ (dPut w.2.1 r).1).2 = 0
    ·have e : wrP w (decide (k = 9)) n r = (((ZN w.1 r).1, (vJ (dPut w.2.1 r).1).1, w.2.2.1, w.2.2.2), 0) := by
      unfold wrP
      rw [if_pos c1, if_pos c2, if_neg hd9, if_pos c3]
     rw [if_pos c3, e, z5x]; rfl
    ·have e : wrP w (decide (k = 9)) n r = (w, (vJ (dPut w.2.1 r).1).2) := by
      unfold wrP
      rw [if_pos c1, if_pos c2, if_neg hd9, if_neg c3]
     rw [if_neg c3, e, z3z w w c3]
  ·have e : wrP w (decide (k = 9)) n r = (w, (dPut w.2.1 r).2) := by
    unfold wrP
    rw [if_pos c1, if_neg c2]
   rw [if_neg c2, e, z3z w w c2]
 ·have e : wrP w (decide (k = 9)) n r = (w, (ZN w.1 r).2) := by
   unfold wrP
   rw [if_neg c1]
  rw [if_neg c1, e, z3z w w c1]
theorem zs7 {w : Wd} (h3 : w.2.2.2.length = 3) (hr : (zq w.2.1).2.2 = 0) (k n : Int) (hk : k = 5 ∨ k = 6) : opQ (wvd w) w.2.2.2 (zq w.2.1).2.1 k n = some (ansP w (opP w (decide (k = 6)) n)) := by
 unfold opQ
 rw [ju, z7, zC, zO]
 by_cases c : 0 ≤ n ∧ n ≤ 2
 ·obtain ⟨m, rfl⟩ : ∃ m : Nat, n = m := ⟨n.toNat, by omega⟩
  have hat : atN w.2.2.2 m = some (w.2.2.2.getD m default) := yw (by omega)
  have hat2 : atN (w.2.2.2.set m (-1)) m = some ((w.2.2.2.set m (-1)).getD m default) := yw (by rw [List.length_set]; omega)
  have n0 : ¬ ((m : Nat) : Int) < 0 := by omega
  have n1 : ¬ (w.2.2.2.length : Int) ≤ m := by omega
  rw [if_pos c, zH, if_pos ⟨by omega, by omega⟩, zL, Int.toNat_natCast, hat, z7, zf, Zi, Zi]
  rcases hk with rfl | rfl
  ·have e : opP w (decide ((5 : Int) = 6)) (m : Int) = ((w.1, w.2.1, w.2.2.1, w.2.2.2.set m ((zq w.2.1).2.1.length : Int)), 0) := by
    unfold opP
    rw [if_neg n0, if_neg n1, if_neg (by simp), if_pos hr, Int.toNat_natCast]
   rw [if_pos rfl, zH, if_pos ⟨by omega, by rw [List.length_set]; omega⟩, hat2, z7, e, z5x, zb, List.set_set]; rfl
  ·have e : opP w (decide ((6 : Int) = 6)) (m : Int) = ((w.1, w.2.1, w.2.2.1, w.2.2.2.set m (-1)), 0) := by
    unfold opP
    rw [if_neg n0, if_neg n1, if_pos (by simp), Int.toNat_natCast]
   rw [if_neg (show ¬ (6 : Int) = 5 by omega), e, z5x]; rfl
 ·have e : opP w (decide (k = 6)) n = (w, 5) := by
   unfold opP
   by_cases c0 : n < 0
   ·rw [if_pos c0]
   ·rw [if_neg c0, if_pos (show (w.2.2.2.length : Int) ≤ n by omega)]
  rw [if_neg c, e, z3z w w (by omega)]
theorem zoq {w : Wd} (h : okc w = 0) {x : Hp} (hx : x.2.2.2.length < 4611686018427387904) : Ya (wvd w) x = some (ansP w (hapP w x)) := by
 obtain ⟨⟨o1, _, o3⟩, o4, _⟩ := V3 h
 have hs := J4 o1
 have hc := (VZ o4).1
 obtain ⟨b1, b2, b3⟩ := j5 hc
 rw [zkz, ju, z7, zC, zO]
 by_cases c0 : 1 ≤ x.1 ∧ x.1 ≤ 9
 ·have e8 : eqB w.2.2.1 (neI x.1 8) = !decide (w.2.2.1 = decide (x.1 = 8)) := by
   by_cases q : x.1 = 8 <;> cases hu : w.2.2.1 <;> simp [eqB, neI, q]
  have hg0 : hapP w x = if w.2.2.1 = decide (x.1 = 8) then (w, 7) else if x.1 = 5 then opP w false x.2.2.1 else if x.1 = 6 then opP w true x.2.2.1 else
    if x.1 = 7 then ((yG, w.2.1, false, [-1, -1, -1]), 0) else if x.1 = 8 then zdP w else
    if x.1 = 1 then wrP w false x.2.2.1 (1, 0, 0, x.2.2.2) else if x.1 = 9 then wrP w true x.2.2.1 (1, 0, 0, x.2.2.2) else
    if x.1 = 4 then wrP w false 0 (4, 0, x.2.2.1, []) else wrP w false 0 (x.1, x.2.1, x.2.2.1, []) := by
   unfold hapP
   rw [if_neg (show ¬ x.1 < 1 by omega), if_neg (show ¬ 9 < x.1 by omega)]
  have wrF : ∀ n m : Int, ∀ r : Rc, wrP w false n r = wrP w false m r := fun n m r => by unfold wrP; simp only [if_neg (show ¬ false = true by decide)]
  rw [if_pos c0, hg0]
  show ifB (notB (eqB w.2.2.1 (neI x.1 8))) _ _ = _
  rw [e8]
  simp only [notB, Bool.not_not]
  rw [zO]
  by_cases c7 : w.2.2.1 = decide (x.1 = 8)
  ·rw [if_pos c7, if_pos c7, z3z w w (by omega)]
  rw [if_neg c7, if_neg c7]
  refine (Zb (zjS (a := w.2.2.2) (by omega)) _).trans ?_
  refine (Zb (z6C hc) _).trans ?_
  simp only
  rw [zf, zf, zf, zf, zf, zf, zf]
  by_cases k5 : x.1 = 5
  ·rw [if_pos k5, if_pos k5, k5]
   exact zs7 o3 o4 5 x.2.2.1 (.inl rfl)
  rw [if_neg k5, if_neg k5]
  by_cases k6 : x.1 = 6
  ·rw [if_pos k6, if_pos k6, k6]
   exact zs7 o3 o4 6 x.2.2.1 (.inr rfl)
  rw [if_neg k6, if_neg k6]
  by_cases k7 : x.1 = 7
  ·rw [if_pos k7, if_pos k7, zdu, z7, zit, z7, z5x]; rfl
  rw [if_neg k7, if_neg k7]
  by_cases k8 : x.1 = 8
  ·rw [if_pos k8, if_pos k8]
   refine (Zb (z6C hc) _).trans ?_
   simp only
   refine (Zb (zgW (zq w.2.1).2.1 (by omega) (fun r hr => z45 (b3 r hr))) _).trans ?_
   rw [zj]
   unfold zdP
   rw [if_pos o4]
   by_cases c5 : (zE (zq w.2.1).2.1).2 = 0
   ·rw [if_pos c5, if_pos c5, z5x]; rfl
   ·rw [if_neg c5, if_neg c5, z3z w w c5]
  rw [if_neg k8, if_neg k8]
  by_cases k2 : x.1 = 2
  ·rw [if_pos k2, if_neg (show ¬ x.1 = 1 by omega), if_neg (show ¬ x.1 = 9 by omega), if_neg (show ¬ x.1 = 4 by omega)]
   refine (zdv hs hc x.1 x.2.2.1 (r := (2, x.2.1, x.2.2.1, [])) (by simp)).trans ?_
   rw [decide_eq_false (show ¬ x.1 = 9 by omega), k2, wrF x.2.2.1 0]
  rw [if_neg k2]
  by_cases k3 : x.1 = 3
  ·rw [if_pos k3, if_neg (show ¬ x.1 = 1 by omega), if_neg (show ¬ x.1 = 9 by omega), if_neg (show ¬ x.1 = 4 by omega)]
   refine (zdv hs hc x.1 x.2.2.1 (r := (3, x.2.1, x.2.2.1, [])) (by simp)).trans ?_
   rw [decide_eq_false (show ¬ x.1 = 9 by omega), k3, wrF x.2.2.1 0]
  rw [if_neg k3]
  by_cases k4 : x.1 = 4
  ·rw [if_pos k4, if_neg (show ¬ x.1 = 1 by omega), if_neg (show ¬ x.1 = 9 by omega), if_pos k4]
   refine (zdv hs hc x.1 x.2.2.1 (r := (4, 0, x.2.2.1, [])) (by simp)).trans ?_
   rw [decide_eq_false (show ¬ x.1 = 9 by omega), wrF x.2.2.1 0]
  rw [if_neg k4]
  by_cases k1 : x.1 = 1
  ·rw [if_pos k1]
   refine (zdv hs hc x.1 x.2.2.1 (r := (1, 0, 0, x.2.2.2)) hx).trans ?_
   rw [decide_eq_false (show ¬ x.1 = 9 by omega)]
  rw [if_neg k1]
  have k9 : x.1 = 9 := by omega
  rw [if_pos k9]
  refine (zdv hs hc x.1 x.2.2.1 (r := (1, 0, 0, x.2.2.2)) hx).trans ?_
  rw [decide_eq_true k9]
 ·have e : hapP w x = (w, 4) := by
   unfold hapP
   by_cases q : x.1 < 1
   ·rw [if_pos q]
   ·rw [if_neg q, if_pos (show 9 < x.1 by omega)]
  rw [if_neg c0, e, z3z w w (by omega)]
end Go.Proofs.Y
namespace Go.Proofs.Y
open Go.Rb Go.Kx
noncomputable def z0d : Code := zg Tryz.f4
noncomputable def z0e : FuncId → Option GS := tabG [(23, zhv), (18, Jg), (19, z1C), (24, VY), (25, zdr), (20, z0c), (26, z8p), (27, z33), (21, z0S)]
theorem z71 : ΓOK Tryz.prog z0e := z8 (zkw) (z8 (z49) (z8 (z6x) (z8 (VJ) (z8 (zhF) (z8 (z4G) (z8 (z9n) (z8 (z8x) (z8 (z5m) (ze)))))))))
def z0f : HT := ⟨tabL [], tabH []⟩
abbrev vH : List IT := [.v (.cons (.sl 95 (.cons (.sl 126 (.cons (.int .i64) (.cons (.int .i64) (.cons (.int .i64) (.one (.sl 4 (.one .bool))))))) (.one (.sl 73 (.cons (.int .i64) (.one (.int .i64))))))) (.cons (.sl 5 (.one (.int .u8))) (.cons (.sl 5 (.one (.int .u8))) (.cons (.bool) (.one (.sl 3 (.one (.int .i64)))))))) true, .v (.cons (.int .i64) (.cons (.int .i64) (.cons (.int .i64) (.one (.sl 77 (.cons (.int .i64) (.cons (.int .i64) (.one (.int .i64))))))))) true, .v (.cons (.sl 95 (.cons (.sl 126 (.cons (.int .i64) (.cons (.int .i64) (.cons (.int .i64) (.one (.sl 4 (.one .bool))))))) (.one (.sl 73 (.cons (.int .i64) (.one (.int .i64))))))) (.cons (.sl 5 (.one (.int .u8))) (.cons (.sl 5 (.one (.int .u8))) (.cons (.bool) (.one (.sl 3 (.one (.int .i64)))))))) true]
abbrev Jj : List OT := [⟨.one .bool, false, []⟩]
set_option maxRecDepth 100000
noncomputable def yY : List (List (Int × Int × Int × List Bool) × List (Int × Int)) × List Int × List Int × Bool × List Int → Int × Int × Int × List (Int × Int × Int) → List (List (Int × Int × Int × List Bool) × List (Int × Int)) × List Int × List Int × Bool × List Int → Option Bool := fun a b c => z6 (z2F (a.1, a.2.1, a.2.2.1, a.2.2.2.1, a.2.2.2.2) (b.1, b.2.1, b.2.2.1, b.2.2.2)) fun y => z6 (yO (a.1, a.2.1, a.2.2.1, a.2.2.2.1, a.2.2.2.2)) fun y_1 => z6 Yi fun y_2 => ifB (notB y_2) (some false) (z6 (yd (a.1, a.2.1, a.2.2.1, a.2.2.2.1, a.2.2.2.2)) fun y_3 => ifB (neI y_3 y_1) (some false) (z6 (J9 (a.1, a.2.1, a.2.2.1, a.2.2.2.1, a.2.2.2.2) (c.1, c.2.1, c.2.2.1, c.2.2.2.1, c.2.2.2.2)) fun y_4 => z6 (Z9 (a.1, a.2.1, a.2.2.1, a.2.2.2.1, a.2.2.2.2) (c.1, c.2.1, c.2.2.1, c.2.2.2.1, c.2.2.2.2)) fun y_5 => ifB (notB (eqB y_4 y_5)) (some false) (z6 jc fun y_6 => z6 YI fun y_7 => z6 (Z9 (y_6.1, y_6.2.1, y_6.2.2.1, y_6.2.2.2.1, y_6.2.2.2.2) (y_7.1, y_7.2.1, y_7.2.2.1, y_7.2.2.2.1, y_7.2.2.2.2)) fun y_8 => ifB (notB y_8) (some false) (ifB (neI y_1 0) (ifB (eqI y.2 y_1) (z6 (Z9 (y.1.1, y.1.2.1, y.1.2.2.1, y.1.2.2.2.1, y.1.2.2.2.2) ([], [], [], false, [])) fun y => some y) (some false)) (z6 (Ya (a.1, a.2.1, a.2.2.1, a.2.2.2.1, a.2.2.2.2) (b.1, b.2.1, b.2.2.1, b.2.2.2)) fun y_9 => ifB (eqI y.2 y_9.2) (z6 (Z9 (y.1.1, y.1.2.1, y.1.2.2.1, y.1.2.2.2.1, y.1.2.2.2.2) (y_9.1.1, y_9.1.2.1, y_9.1.2.2.1, y_9.1.2.2.2.1, y_9.1.2.2.2.2)) fun y => some y) (some false))))))
theorem z4H (x : PI vH) : yY (x.1) (x.2.1) (x.2.2) = fnE T z0e z0f z0d (zo Tryz.f4) vH Jj x := by kernel_rfl
noncomputable abbrev z73 : GS := zp false vH Jj fun x => yY (x.1) (x.2.1) (x.2.2)
theorem z4I : GSOK Tryz.prog 4 z73 := zm tok z71 fmo (Ht := z0f) (fn := Tryz.f4) (Tryz.func4) (c := z0d) (by kernel_rfl) (by kernel_rfl) (by kernel_rfl) (by decide +kernel) (by decide) z4H
end Go.Proofs.Y
namespace Go.Proofs.Y
open Go.Rb Go.Kx
set_option maxRecDepth 100000
end Go.Proofs.Y
namespace Go.Proofs.Y
open Go.Rb Go.Kx
def z5n (a b : Wd) : Bool := eqB a.2.2.1 b.2.2.1 && (decide (a.1 = b.1) && (decide (a.2.1 = b.2.1) && decide (a.2.2.2 = b.2.2.2)))
theorem zhG (a : Wd) : z5n a a = true := by unfold z5n; cases a.2.2.1 <;> simp [eqB]
theorem zty (a b : Wd) (hs : okS a.1) (h1 : a.2.1.1.length < 4611686018427387904) (h2 : a.2.1.2.length < 4611686018427387904) (h3 : a.2.2.2.length < 4611686018427387904) : J9 (wvd a) (wvd b) = some (z5n a b) := by
 have e1 : yz a.1 b.1 = some (decide (a.1 = b.1)) := zcB _ _ hs
 have e2 : jb (bytB a.2.1.1, bytB a.2.1.2) (bytB b.2.1.1, bytB b.2.1.2) = some (decide (a.2.1 = b.2.1)) := zmX a.2.1 b.2.1 h1 h2
 have e3 : J8 a.2.2.2 b.2.2.2 = some (decide (a.2.2.2 = b.2.2.2)) := zk3 _ _ h3
 unfold J9 z5n
 show ifB (eqB a.2.2.1 b.2.2.1) (z6 (yz a.1 b.1) _) _ = _
 cases eqB a.2.2.1 b.2.2.1 with
 | false => rfl
 | true =>
  rw [Z0, e1, z7]
  cases decide (a.1 = b.1) with
  | false => rfl
  | true =>
   rw [Z0]
   refine (Zb e2 _).trans ?_
   cases decide (a.2.1 = b.2.1) with
   | false => rfl
   | true =>
    rw [Z0]
    exact (Zb e3 _).trans rfl
theorem zfI (a b : Wd) (hs : okS a.1) (h1 : a.2.1.1.length < 4611686018427387904) (h2 : a.2.1.2.length < 4611686018427387904) (h3 : a.2.2.2.length < 4611686018427387904) : Z9 (wvd a) (wvd b) = some (z5n a b) := by
 have e1 : Zj a.1 b.1 = some (decide (a.1 = b.1)) := zcC _ _ hs
 have e2 : Y9 (bytB a.2.1.1, bytB a.2.1.2) (bytB b.2.1.1, bytB b.2.1.2) = some (decide (a.2.1 = b.2.1)) := zon a.2.1 b.2.1 h1 h2
 have e3 : J8 a.2.2.2 b.2.2.2 = some (decide (a.2.2.2 = b.2.2.2)) := zk3 _ _ h3
 unfold Z9 z5n
 show ifB (eqB a.2.2.1 b.2.2.1) (z6 (Zj a.1 b.1) _) _ = _
 cases eqB a.2.2.1 b.2.2.1 with
 | false => rfl
 | true =>
  rw [Z0, e1, z7]
  cases decide (a.1 = b.1) with
  | false => rfl
  | true =>
   rw [Z0]
   refine (Zb e2 _).trans ?_
   cases decide (a.2.1 = b.2.1) with
   | false => rfl
   | true =>
    rw [Z0]
    exact (Zb e3 _).trans rfl
theorem znx {a : Wd} (h : okc a = 0) : Z9 (wvd a) (wvd a) = some true := by
 obtain ⟨h1, h2, h3⟩ := zuG h
 rw [zfI a a h3 (by omega) (by omega) (by omega), zhG]
theorem zpi : Z9 zW zW = some true := by
 have := zfI ([], ([], []), false, []) ([], ([], []), false, []) z2A (by simp) (by simp) (by simp)
 rw [zhG] at this
 exact this
theorem zs8 {w : Wd} (h : okc w = 0) (x : Hp) : Z9 (ansP w (hapP w x)).1 (ansP w (hapP w x)).1 = some true := by
 unfold ansP
 by_cases he : (hapP w x).2 = 0
 ·rw [if_pos he]
  exact znx (zqp h he)
 ·rw [if_neg he]
  exact zpi
theorem zny (w v : Wd) (x : Hp) (hs : okS w.1) (h1 : w.2.1.1.length < 4611686018427387904) (h2 : w.2.1.2.length < 4611686018427387904) (hrd : w.2.2.2.length < 4611686018427387904) (hx : x.2.2.2.length < 4611686018427387904) : yY (wvd w) x (wvd v) = some true := by
 unfold yY
 refine (Zb (zvX w x h1 h2 hrd hx) _).trans ?_
 refine (Zb (zky w h1 h2 hrd) _).trans ?_
 refine (Zb zqk _).trans ?_
 rw [zC, Z0]
 refine (Zb (z0Y w.1 w.2.1 w.2.2.1 w.2.2.2 h1 h2 hrd) _).trans ?_
 rw [zj, if_pos rfl]
 refine (Zb (zty w v hs h1 h2 hrd) _).trans ?_
 refine (Zb (zfI w v hs h1 h2 hrd) _).trans ?_
 have e2 : eqB (z5n w v) (z5n w v) = true := by cases z5n w v <;> rfl
 rw [e2, zC, Z0]
 refine (Zb zk0 _).trans ?_
 refine (Zb zop _).trans ?_
 refine (Zb (znx chk0) _).trans ?_
 rw [zC, Z0, zj]
 by_cases hc : okc w = 0
 ·rw [if_pos hc, if_pos (show chkW w.1 w.2.1 w.2.2.1 w.2.2.2 = 0 from hc)]
  refine (Zb (zoq hc hx) _).trans ?_
  have e : (if (hapP w x).2 = 0 then (wvd (hapP w x).1, 0) else (zW, (hapP w x).2)) = ansP w (hapP w x) := rfl
  rw [e, zf, if_pos rfl]
  exact (Zb (zs8 hc x) _).trans rfl
 ·rw [if_neg hc, if_neg (show ¬ chkW w.1 w.2.1 w.2.2.1 w.2.2.2 = 0 from hc), zf, if_pos rfl]
  exact (Zb zpi _).trans rfl
end Go.Proofs.Y
namespace Go.Proofs.Y
open Go.Rb Go.Kx
theorem by77 : Tryz.prog.bytesOf 77 = 24 := by kernel_rfl
theorem z10 : reachBytes = 140737488351232 := by decide +kernel
abbrev entR : RT := .cons (.int .i64) (.cons (.int .i64) (.one (.int .i64)))
abbrev recR : RT := .cons (.int .i64) (.cons (.int .i64) (.cons (.int .i64) (.one (.sl 77 entR))))
theorem zvu (r : DenR recR) (h : BdR Tryz.prog recR r) : (r : Rc).2.2.2.length < 4611686018427387904 := by
 obtain ⟨_, _, _, h, _⟩ := h
 rw [by77, z10] at h
 show List.length r.2.2.2 < _
 omega
end Go.Proofs.Y
namespace Go.Proofs.Y
open Go.Rb Go.Kx
theorem by5 : Tryz.prog.bytesOf 5 = 1 := by kernel_rfl
theorem by3 : Tryz.prog.bytesOf 3 = 8 := by kernel_rfl
abbrev wPtR : RT := .cons (.int .i64) (.one (.int .i64))
abbrev wBkR : RT := .cons (.int .i64) (.cons (.int .i64) (.cons (.int .i64) (.one (.sl 4 (.one .bool)))))
abbrev zqs : RT := .cons (.sl 126 wBkR) (.one (.sl 73 wPtR))
abbrev zhH : RT := .cons (.sl 95 zqs) (.cons (.sl 5 (.one (.int .u8))) (.cons (.sl 5 (.one (.int .u8))) (.cons .bool (.one (.sl 3 (.one (.int .i64)))))))
theorem zs9 {n : Int} (h : (Lit.int .u8 n).wf = true) : ((UInt8.ofNat n.toNat).toNat : Int) = n := by
 have e1 : IntKind.u8.min = 0 := rfl
 have e2 : IntKind.u8.max = 255 := rfl
 simp [Lit.wf, e1, e2] at h
 rw [UInt8.toNat_ofNat']; omega
theorem zdw : ∀ {l : List Int}, (∀ n ∈ l, (Lit.int .u8 n).wf = true) → bytB (strB l) = l
 | [], _ => rfl
 | n :: l, h => by
  have ih := zdw fun m hm => h m (List.mem_cons_of_mem n hm)
  have h0 := zs9 (h n (by simp))
  unfold bytB strB at ih ⊢
  rw [List.map_cons, List.map_cons, ih, h0]
theorem znz (l : List Int) : (strB l).length = l.length := by unfold strB; rw [List.length_map]
theorem zsa (s : Shf) (a b : List Int) (up : Bool) (rd : List Int) (h1 : a.length ≤ 140737488351232) (h1' : ∀ n ∈ a, (Lit.int .u8 n).wf = true) (h2 : b.length ≤ 140737488351232) (h2' : ∀ n ∈ b, (Lit.int .u8 n).wf = true) (h3 : rd.length * 8 ≤ 140737488351232) :
  ∃ w : Wd, ((s, a, b, up, rd) : Wv) = wvd w ∧ w.2.1.1.length < 4611686018427387904 ∧ w.2.1.2.length < 4611686018427387904 ∧ w.2.2.2.length < 4611686018427387904 := by
 have ea := zdw h1'
 have eb := zdw h2'
 have la := znz a
 have lb := znz b
 refine ⟨(s, (strB a, strB b), up, rd), ?_, ?_, ?_, ?_⟩
 ·show (s, a, b, up, rd) = (s, bytB (strB a), bytB (strB b), up, rd)
  rw [ea, eb]
 ·show (strB a).length < _
  omega
 ·show (strB b).length < _
  omega
 ·show rd.length < _
  omega
theorem znA (x : DenR zhH) (h : BdR Tryz.prog zhH x) : ∃ w : Wd, (show Wv from x) = wvd w ∧ w.2.1.1.length < 4611686018427387904 ∧ w.2.1.2.length < 4611686018427387904 ∧ w.2.2.2.length < 4611686018427387904 := by
 obtain ⟨_, ⟨h1, h1'⟩, ⟨h2, h2'⟩, _, h3, _⟩ := h
 rw [by5, z10, Nat.mul_one] at h1 h2
 rw [by3, z10] at h3
 exact zsa x.1 x.2.1 x.2.2.1 x.2.2.2.1 x.2.2.2.2 h1 (fun n hn => h1' n hn) h2 (fun n hn => h2' n hn) h3
end Go.Proofs.Y
namespace Go.Proofs.Y
open Go.Rb Go.Kx
theorem by4 : Tryz.prog.bytesOf 4 = 1 := by kernel_rfl
theorem zw1 : Tryz.prog.bytesOf 126 = 48 := by kernel_rfl
theorem by73 : Tryz.prog.bytesOf 73 = 16 := by kernel_rfl
theorem by95 : Tryz.prog.bytesOf 95 = 48 := by kernel_rfl
theorem zw2 (b : DenR wBkR) (h : BdR Tryz.prog wBkR b) : okB (b : Bk) := by
 obtain ⟨_, _, _, h, _⟩ := h
 rw [by4, z10] at h
 show List.length b.2.2.2 ≤ _
 omega
theorem zvv (r : DenR zqs) (h : BdR Tryz.prog zqs r) : okR (r : Rowd) := by
 obtain ⟨⟨h1, h2⟩, h3, _⟩ := h
 rw [zw1, z10] at h1
 rw [by73, z10] at h3
 refine ⟨fun b hb => zw2 b (h2 b hb), ?_, ?_⟩
 ·show List.length r.1 < _; omega
 ·show List.length r.2 ≤ _; omega
theorem zsb (x : DenR zhH) (h : BdR Tryz.prog zhH x) : okS (show Shf from x.1) := by
 obtain ⟨⟨h1, h2⟩, _⟩ := h
 rw [by95, z10] at h1
 refine ⟨?_, fun r hr => zvv r (h2 r hr)⟩
 show List.length x.1 < _; omega
theorem zsc {s : Wv} {w : Wd} (h : s = wvd w) : s.1 = w.1 := by rw [h]; rfl
end Go.Proofs.Y
namespace Go.Proofs.YtnkegapccacndaaGreatDoor
open Go.Rb Go.Kx Go.RowKit
abbrev laidL : List (String × DataW Unit) := Rows.storePartsRow.laid
theorem zsd (u : TypeId) (h : Tryz.prog.typeName? 3 u = some "*errors.errorString") : u = 249 :=
 typeName_ptr_named (nm := "errors.errorString") (by kernel_rfl) (by kernel_rfl) (by decide) u h
theorem znB : Tryz.prog.cellsOf 251 = 1 := by kernel_rfl
theorem zse : Tryz.prog.cellsOf 9 = 1 := by kernel_rfl
theorem zuL {W : World} (h : laidMetH Tryz.prog laidL W) (hsh : W.ShapedOpen Tryz.prog) : Glob Tryz.prog W ∧ NG Tryz.prog ≤ W.heap.size := by
 rw [MakeChecks.laidMetH_plain _ _ _ (by kernel_rfl)] at h
 have h3 : laidMet Tryz.prog (("internal/strconv.uint64pow10", Lib.tabData .u64 Lib.pow10Tab) :: laidL.drop 3) W := h.tail.tail
 have h5 := h.tail.tail.tail.tail
 have h6 := h5.tail
 refine ⟨⟨?_, ?_, ?_, ?_⟩, zvC hsh (by kernel_rfl) (by kernel_rfl)⟩
 ·exact Lib.tabIs_of_head (g := 1) (t := 238) (e := 202) (n := 20) (by kernel_rfl) (by kernel_rfl) Tryz.underlying238 Tryz.underlying202 (by kernel_rfl) (by kernel_rfl) h3
 ·obtain ⟨a, s, hv, _⟩ := laid_sentinel (g := 2) (ti := 183) h6 (by kernel_rfl) (by kernel_rfl) Tryz.underlying183 zsd Tryz.underlying249 Tryz.underlying251 rfl rfl Tryz.underlying9 znB zse
  exact ⟨_, _, hv⟩
 ·obtain ⟨a, s, hv, _⟩ := laid_sentinel (g := 3) (ti := 183) h5 (by kernel_rfl) (by kernel_rfl) Tryz.underlying183 zsd Tryz.underlying249 Tryz.underlying251 rfl rfl Tryz.underlying9 znB zse
  exact ⟨_, _, hv⟩
 ·exact zsF (g := 0) (t := 3) (zero := #[.int .i64 0]) hsh (by kernel_rfl) (by kernel_rfl) (by kernel_rfl) (by kernel_rfl) (by kernel_rfl) Tryz.underlying3
theorem own : ownKnob Tryz.prog.godebug = none := by kernel_rfl
theorem zsf (os : Os) : (World.holding Tryz.prog os ⟨#[], #[], []⟩).layFits Tryz.prog laidL [] = true := by kernel_rfl
theorem zor (os : Os) : (World.holding Tryz.prog os ⟨#[], #[], []⟩).layIfaces Tryz.prog laidL (World.laidAll Tryz.prog os laidL) = true := by kernel_rfl
theorem ztz (os : Os) (args : Array Value) : laidMetH Tryz.prog laidL ((World.laidAll Tryz.prog os laidL).forCall (fun _ _ => 0) ⟨#[], args, []⟩).memory := by
 rw [MakeChecks.laidMetH_plain _ _ _ (by kernel_rfl)]
 exact laidMet_laidAll _ (zsf os) (zor os)
end Go.Proofs.YtnkegapccacndaaGreatDoor
