/-
  What is proved, part by part: what is read off a text is what stands there; a world that is right stays right, whatever happens. what slices.Equal[[]int,int] comes to. what world.Same comes to. what slices.Grow[[]api.Errno,api.Errno] comes to. what slices.Concat[[]api.Errno,api.Errno] comes to. what rainbooklaw.WorldParts comes to. scripts in two parts; versions, and what was there at one: in plain words. what story.Versions comes to. what story.At comes to. what rainbooklaw.told comes to. versions, and what was there at one: what the program's functions come to, in plain words; the closed fact on versions. strings.genSplit of Go's library is known by its answer. what strings.SplitAfter comes to. strings.HasSuffix of Go's library is known by its answer. what rainbookref.linesOf comes to. what rainbookref.CheckDisk comes to. what rainbookref.Recovered comes to. what rainbookref.CheckWorld comes to. a disk's text as lines, by the document's function: what the program's function says; disks and worlds checked, recovered by the document. versions of a world that came about from the new one: they only grow; what is there at one, by what its record says. disks and worlds checked, recovered by the document: what the program says. what rainbookref.RecText$1 comes to. strings joined: the laying of that function of Go's library over the program. strings.Join of Go's library is known by its answer. what rainbookref.RecText comes to. a record as a text, by the document's function: what the program's function prints. what rainbookref.PutOn comes to. what rainbookref.Synced comes to. what rainbookref.SameDisk comes to. records put on a disk, a disk synced, by the document: what the program says. what rainbookref.Happened$1 comes to. what rainbookref.shut comes to. what rainbookref.Happened comes to. what rainbookref.SameWorld comes to. what rainbookref.Fresh comes to. what happens to a right world, by the document: what the program says. what rainbooklaw.WorldDoes comes to. what rainbooklaw.WorldRuns comes to. any happening, any script does to any world what the document says: the laws' bodies are true, in plain words. what a law is handed is no larger than memory. a world that a law is handed is no larger than memory; its bytes are bytes. what the rows list of package-level variables is what the library's functions ask. Conditions: none.
-/
import Derived.Test.YtnkegapccacndaaGreatDoorKPE
import Derived.Test.YtnkegapccacndaaGreatDoorKPA
import Derived.Test.YtnkegapccacndaaGreatDoorKPB
import Derived.Test.YtnkegapccacndaaGreatDoorKPD
import Derived.Test.YtnkegapccacndaaGreatDoorKPC
import Derived.Test.YtnkegapccacndaaGreatDoorKED
import Derived.Test.YtnkegapccacndaaGreatDoorProg
import Derived.KernelRfl
import Derived.Test.YtnkegapccacndaaGreatDoorRows
set_option linter.unusedVariables false
set_option linter.unusedSimpArgs false
set_option linter.unnecessarySimpa false
set_option maxRecDepth 4000
namespace Go.Proofs.Y
open Go.Rb Go.Kx
theorem zmC (most all : Int) : ∀ (ws : List (List UInt8)) (acc : List Rc), ws ≠ [] →
  ∃ M t, (lnW most all ws acc).1 = acc ++ M ∧ jn 10 ws = zE M ++ t ∧ (lnW most all ws acc).2.1 = all - t.length ∧ ((lnW most all ws acc).2.2 = 0 → t = []) ∧ ∀ r ∈ M, zA r = 0
 | [], acc, h => absurd rfl h
 | w :: r, acc, _ => by
  rw [lnW]
  by_cases hr : r = []
  ·subst hr
   rw [if_pos rfl]
   by_cases hw : w = []
   ·subst hw; rw [if_pos rfl]; exact ⟨[], [], by simp, by simp [jn, zE], by simp, by simp, by simp⟩
   ·rw [if_neg hw]; exact ⟨[], w, by simp, by simp [jn, zE], rfl, by simp, by simp⟩
  ·rw [if_neg hr]
   by_cases hp : (yJ w).2 = 0
   ·rw [if_pos hp]
    by_cases hm : (acc.length : Int) = most
    ·rw [if_pos hm]; exact ⟨[], jn 10 (w :: r), by simp, by simp [zE], rfl, by simp, by simp⟩
    ·rw [if_neg hm]
     obtain ⟨M, t, h1, h2, h3, h4, h5⟩ := zmC most all r (acc ++ [(yJ w).1]) hr
     obtain ⟨p1, p2⟩ := zj2 hp
     refine ⟨(yJ w).1 :: M, t, by rw [h1]; simp, ?_, h3, h4, ?_⟩
     ·rw [z1m 10 w hr, zgQ, p2, h2]
     ·intro q hq
      rcases List.mem_cons.1 hq with rfl | hq
      ·exact p1
      ·exact h5 q hq
   ·rw [if_neg hp]; exact ⟨[], jn 10 (w :: r), by simp, by simp [zE], rfl, fun h => absurd h hp, by simp⟩
theorem zsG {s a t : List UInt8} (h : s = a ++ t) : s.take a.length = a := by rw [h, List.take_left]
theorem zmD (m : Int) (s : List UInt8) : ∃ t, s = zE (lnP m s).1 ++ t ∧ (lnP m s).2.1 = ((zE (lnP m s).1).length : Int) ∧ ((lnP m s).2.2 = 0 → t = []) ∧ ∀ r ∈ (lnP m s).1, zA r = 0 := by
 obtain ⟨M, t, h1, h2, h3, h4, h5⟩ := zmC m s.length (sp 10 s) [] (jp 10 s)
 rw [z7t] at h2
 rw [List.nil_append] at h1
 unfold lnP
 rw [h1]
 refine ⟨t, h2, ?_, h4, h5⟩
 rw [h3, h2, List.length_append]; omega
theorem ztU {m : Int} (hm : 0 ≤ m) (s : List UInt8) : ((lnP m s).1.length : Int) ≤ m := zfa m s.length (sp 10 s) [] (by simpa using hm)
theorem z86 {d : List UInt8 × List UInt8} (h : zN d = 0) : ∃ L, d.1 = zE L ∧ (lnP 60 d.1).1 = L ∧ L.length ≤ 60 ∧ ∀ r ∈ L, zA r = 0 := by
 obtain ⟨t, h1, h2, h3, h4⟩ := zmD 60 d.1
 have ht := h3 (z3w (s := d.1) (w := d.2) h)
 subst ht
 rw [List.append_nil] at h1
 exact ⟨_, h1, rfl, zmy _, h4⟩
theorem VV {d : List UInt8 × List UInt8} (h : zN d = 0) : zp d = ((zE (zp d).2.1, []), (zp d).2.1, 0) ∧ (zp d).2.1.length ≤ 60 ∧ ∀ r ∈ (zp d).2.1, zA r = 0 := by
 obtain ⟨L, h1, h2, h3, h4⟩ := z86 h
 have hm : (0 : Int) ≤ 60 - ((lnP 60 d.1).1.length : Int) := by rw [h2]; omega
 obtain ⟨t, g1, g2, g3, g4⟩ := zmD (60 - ((lnP 60 d.1).1.length : Int)) d.2
 have g5 := ztU hm d.2
 have hrec := zdn d
 have e : zp d = ((d.1 ++ d.2.take (Jt d).2.1.toNat, []), (lnP 60 d.1).1 ++ (Jt d).1, 0) := by unfold zp; rw [if_pos h]
 refine ⟨?_, ?_, hrec⟩
 ·rw [e]
  have hk : d.2.take (Jt d).2.1.toNat = zE (Jt d).1 := by
   unfold Jt
   rw [g2, Int.toNat_natCast]
   exact zsG g1
  rw [hk]
  simp only
  rw [zcJ, h2, h1]
 ·rw [e]
  simp only [List.length_append]
  unfold Jt
  omega
theorem z9Q {L : List Rc} (h : ∀ r ∈ L, zA r = 0) (hn : L.length ≤ 60) : zN (zE L, []) = 0 ∧ zp (zE L, []) = ((zE L, []), L, 0) := by
 have ht := zjm h
 refine ⟨zeo h hn (by simp only [List.length_nil]; omega), ?_⟩
 have := zjO (L := L) (M := []) (t := []) h (by simp) (by simp) (by simpa using hn) (by simp [zE] at ht ⊢; omega)
 simpa [zE] using this
theorem zvh {s : Shf} {d : List UInt8 × List UInt8} {rd : List Int} (h : chkW s d true rd = 0) : ∃ L, d = (zE L, []) ∧ (zp d).2.1 = L ∧ (zF L).2 = 0 ∧ (zF L).1 = s ∧ rd.length = 3 ∧ rdE L.length true rd = 0 := by
 obtain ⟨⟨o1, o2, o3⟩, o4, o5, o6⟩ := Vx (w := (s, d, true, rd)) h
 obtain ⟨p1, p2, p3⟩ := o5 rfl
 rw [if_pos rfl] at o6
 simp only at o3 o4 o6 p1 p2 p3
 have hc := (VU o4).1
 obtain ⟨L, h1, h2, h3, h4⟩ := z86 hc
 have hd : d = (zE L, []) := by rw [← h1, ← p1]
 have hL : (zp d).2.1 = L := by rw [hd, (z9Q h4 h3).2]
 rw [hL] at p2 p3 o6
 exact ⟨L, hd, hL, p2, p3, o3, o6⟩
theorem zpG {L : List Rc} {s : Shf} {rd : List Int} (h1 : (zF L).2 = 0) (h2 : (zF L).1 = s) (h3 : rd.length = 3) (h4 : rdE L.length true rd = 0) : chkW s (zE L, []) true rd = 0 := by
 obtain ⟨a1, _, a3⟩ := V8 h1
 have hr := (z9Q a3 a1).2
 unfold chkW chkL
 rw [hr, if_pos rfl, if_pos rfl, if_neg (by simp), if_pos h1, if_pos h2, if_pos h3, h4]
theorem ztV {s : Shf} {d : List UInt8 × List UInt8} {rd : List Int} (h : chkW s d false rd = 0) : s = yC ∧ rd = [-1, -1, -1] ∧ zN d = 0 := by
 unfold chkW at h
 by_cases c1 : (zp d).2.2 = 0
 ·rw [if_pos c1, if_neg (by decide)] at h
  obtain ⟨k1, k2, k3, k4⟩ := zcY h
  have hg := z91 k4
  refine ⟨k2.symm, ?_, (VU c1).1⟩
  obtain ⟨a, b, c, rfl⟩ : ∃ a b c, rd = [a, b, c] := by
   match rd, k3 with
   | [a, b, c], _ => exact ⟨a, b, c, rfl⟩
  rw [(hg a (by simp)).2.2 rfl, (hg b (by simp)).2.2 rfl, (hg c (by simp)).2.2 rfl]
 ·rw [if_neg c1] at h; exact absurd h c1
theorem zox {d : List UInt8 × List UInt8} (h : zN d = 0) : chkW yC d false [-1, -1, -1] = 0 := by
 unfold chkW
 rw [(VV h).1, if_pos rfl, if_neg (by decide)]
 decide +kernel
theorem zh2 {n : Int} {up : Bool} : ∀ {rd : List Int}, (∀ v ∈ rd, -1 ≤ v ∧ v ≤ n ∧ (up = false → v = -1)) → rdE n up rd = 0
 | [], _ => rfl
 | v :: r, h => by
  obtain ⟨h1, h2, h3⟩ := h v (by simp)
  rw [rdE, if_neg (by rintro (q | q | ⟨q1, q2⟩); omega; omega; exact q2 (h3 q1))]
  exact zh2 fun u hu => h u (List.mem_cons_of_mem _ hu)
theorem ztW {n : Int} {rd : List Int} (h : rdE n true rd = 0) {v : Int} (h1 : -1 ≤ v) (h2 : v ≤ n) (i : Nat) : rdE n true (rd.set i v) = 0 := by
 have hg := z91 h
 refine zh2 fun u hu => ?_
 rcases List.mem_or_eq_of_mem_set hu with hu | rfl
 ·exact hg u hu
 ·exact ⟨h1, h2, fun h => by cases h⟩
theorem zuL {n m : Int} {rd : List Int} (h : rdE n true rd = 0) (hm : n ≤ m) : rdE m true rd = 0 :=
 zh2 fun u hu => by obtain ⟨a, b, _⟩ := z91 h u hu; exact ⟨a, by omega, fun h => by cases h⟩
theorem zpH {L : List Rc} {s : Shf} {rd : List Int} {n : Int} {r : Rc} (h1 : (zF L).2 = 0) (h2 : (zF L).1 = s) (he : (wrP (s, (zE L, []), true, rd) false n r).2 = 0) :
  (wrP (s, (zE L, []), true, rd) false n r).1 = ((ZN s r).1, (zE (L ++ [r]), []), true, rd) ∧ (ZN s r).2 = 0 ∧ (zF (L ++ [r])).2 = 0 ∧ (zF (L ++ [r])).1 = (ZN s r).1 := by
 obtain ⟨a1, _, a3⟩ := V8 h1
 unfold wrP at he ⊢
 simp only at he ⊢
 by_cases c1 : (ZN s r).2 = 0
 ·rw [if_pos c1] at he ⊢
  by_cases c2 : (dPut (zE L, []) r).2 = 0
  ·obtain ⟨hr, hp⟩ := zhO c2
   simp only [List.nil_append] at hp
   rw [if_pos c2, if_neg (by decide), hp] at he ⊢
   by_cases c3 : (vI (zE L, Yv r)).2 = 0
   ·have e : zE L ++ Yv r = zE (L ++ [r]) := by rw [zcJ]; simp [zE]
    have hs : (vI (zE L, Yv r)).1 = (zE (L ++ [r]), []) ∧ zN (zE (L ++ [r]), []) = 0 := by
     unfold vI at c3 ⊢
     by_cases q : zN (zE L, Yv r) = 0
     ·rw [if_pos q] at c3 ⊢
      simp only [e] at c3 ⊢
      by_cases q2 : zN (zE (L ++ [r]), []) = 0
      ·rw [if_pos q2]; exact ⟨rfl, q2⟩
      ·rw [if_neg q2] at c3; exact absurd c3 q2
     ·rw [if_neg q] at c3; exact absurd c3 q
    have hlen : L.length < 60 := by
     have hh : ∀ q ∈ L ++ [r], zA q = 0 := by
      intro q hq
      rcases List.mem_append.1 hq with hq | hq
      ·exact a3 q hq
      ·rw [List.mem_singleton.1 hq]; exact hr
     obtain ⟨L', k1, k2, k3, _⟩ := z86 hs.2
     refine Classical.byContradiction fun hlt => ?_
     have h60 : L.length = 60 := by omega
     have h7 := z3w (s := zE (L ++ [r])) (w := []) hs.2
     unfold lnP at h7
     have e3 : sp 10 (zE (L ++ [r])) = sp 10 (zE L ++ Yv r) := by rw [e]
     rw [e3, zf3 60 _ L (Yv r) [] a3 (by simp; omega), show Yv r = yv r ++ 10 :: [] from rfl, z3O 10 _ _ (zgP hr), lnW, if_neg (jp 10 _), zen hr, if_pos rfl, if_pos (by simp; omega)] at h7
     cases h7
    obtain ⟨g1, g2⟩ := zpE (r := r) h1 hlen (by rw [h2]; exact c1)
    rw [if_pos c3, hs.1]
    exact ⟨rfl, c1, g1, by rw [g2, h2]⟩
   ·rw [if_neg c3] at he; exact absurd he c3
  ·rw [if_neg c2] at he; exact absurd he c2
 ·rw [if_neg c1] at he; exact absurd he c1
theorem ztX {L : List Rc} {s : Shf} {rd : List Int} {n : Int} {r : Rc} (he : (wrP (s, (zE L, []), true, rd) true n r).2 = 0) :
  (ZN s r).2 = 0 ∧ zA r = 0 ∧ ∃ k, (wrP (s, (zE L, []), true, rd) true n r).1 = (yC, (zE L, (Yv r).take k), false, [-1, -1, -1]) ∧ zN (zE L, (Yv r).take k) = 0 := by
 unfold wrP at he ⊢
 simp only at he ⊢
 by_cases c1 : (ZN s r).2 = 0
 ·rw [if_pos c1] at he ⊢
  by_cases c2 : (dPut (zE L, []) r).2 = 0
  ·obtain ⟨hr, hp⟩ := zhO c2
   simp only [List.nil_append] at hp
   rw [if_pos c2, if_pos trivial] at he ⊢
   generalize max 0 (min n ((dPut (zE L, []) r).1.2.length : Int)) = m at he ⊢
   by_cases c3 : (vA (dPut (zE L, []) r).1 m).2 = 0
   ·obtain ⟨q1, q2⟩ := zre c3
    rw [if_pos c3, q2]
    rw [hp] at q1 ⊢
    exact ⟨c1, hr, m.toNat, rfl, znC q1 (by rw [List.length_take]; omega)⟩
   ·rw [if_neg c3] at he; exact absurd he c3
  ·rw [if_neg c2] at he; exact absurd he c2
 ·rw [if_neg c1] at he; exact absurd he c1
theorem zuM {L : List Rc} {s : Shf} {rd : List Int} {x : Hp} (h1 : (zF L).2 = 0) (h2 : (zF L).1 = s) (h3 : rd.length = 3) (he : (hapP (s, (zE L, []), true, rd) x).2 = 0) :
  (∃ r, x.1 ≤ 4 ∧ (hapP (s, (zE L, []), true, rd) x).1 = ((ZN s r).1, (zE (L ++ [r]), []), true, rd) ∧ (ZN s r).2 = 0 ∧ (zF (L ++ [r])).2 = 0 ∧ (zF (L ++ [r])).1 = (ZN s r).1) ∨
  (∃ v, (hapP (s, (zE L, []), true, rd) x).1 = (s, (zE L, []), true, rd.set x.2.2.1.toNat v) ∧ 0 ≤ x.2.2.1 ∧ x.2.2.1 < 3 ∧ ((x.1 = 5 ∧ v = L.length) ∨ (x.1 = 6 ∧ v = -1))) ∨
  (x.1 = 7 ∧ (hapP (s, (zE L, []), true, rd) x).1 = (yC, (zE L, []), false, [-1, -1, -1])) ∨
  (x.1 = 9 ∧ ∃ r k, (hapP (s, (zE L, []), true, rd) x).1 = (yC, (zE L, (Yv r).take k), false, [-1, -1, -1]) ∧ zA r = 0 ∧ (ZN s r).2 = 0 ∧ zN (zE L, (Yv r).take k) = 0) := by
 obtain ⟨a1, _, a3⟩ := V8 h1
 have hrec := (z9Q a3 a1).2
 unfold hapP at he ⊢
 by_cases c1 : x.1 < 1
 ·rw [if_pos c1] at he; cases he
 rw [if_neg c1] at he ⊢
 by_cases c2 : 9 < x.1
 ·rw [if_pos c2] at he; cases he
 rw [if_neg c2] at he ⊢
 by_cases c3 : (s, (zE L, ([] : List UInt8)), true, rd).2.2.1 = decide (x.1 = 8)
 ·rw [if_pos c3] at he; cases he
 rw [if_neg c3] at he ⊢
 have opG : ∀ b, (opP (s, (zE L, []), true, rd) b x.2.2.1).2 = 0 → ∃ v, (opP (s, (zE L, []), true, rd) b x.2.2.1).1 = (s, (zE L, []), true, rd.set x.2.2.1.toNat v) ∧ 0 ≤ x.2.2.1 ∧ x.2.2.1 < 3 ∧ ((b = false ∧ v = L.length) ∨ (b = true ∧ v = -1)) := by
  intro b hb
  unfold opP at hb ⊢
  by_cases q1 : x.2.2.1 < 0
  ·rw [if_pos q1] at hb; cases hb
  rw [if_neg q1] at hb ⊢
  simp only at hb ⊢
  by_cases q2 : (rd.length : Int) ≤ x.2.2.1
  ·rw [if_pos q2] at hb; cases hb
  rw [if_neg q2] at hb ⊢
  cases b with
  | true => rw [if_pos rfl]; exact ⟨-1, rfl, by omega, by omega, .inr ⟨rfl, rfl⟩⟩
  | false =>
   rw [if_neg (by decide), hrec, if_pos rfl]
   exact ⟨(L.length : Int), rfl, by omega, by omega, .inl ⟨rfl, rfl⟩⟩
 by_cases k5 : x.1 = 5
 ·rw [if_pos k5] at he ⊢
  obtain ⟨v, g1, g2, g3, g4⟩ := opG false he
  exact .inr (.inl ⟨v, g1, g2, g3, by rcases g4 with g | g; exact .inl ⟨k5, g.2⟩; cases g.1⟩)
 rw [if_neg k5] at he ⊢
 by_cases k6 : x.1 = 6
 ·rw [if_pos k6] at he ⊢
  obtain ⟨v, g1, g2, g3, g4⟩ := opG true he
  exact .inr (.inl ⟨v, g1, g2, g3, by rcases g4 with g | g; cases g.1; exact .inr ⟨k6, g.2⟩⟩)
 rw [if_neg k6] at he ⊢
 by_cases k7 : x.1 = 7
 ·rw [if_pos k7]; exact .inr (.inr (.inl ⟨k7, rfl⟩))
 rw [if_neg k7] at he ⊢
 by_cases k8 : x.1 = 8
 ·exact absurd (show true = decide (x.1 = 8) by rw [decide_eq_true k8]) c3
 rw [if_neg k8] at he ⊢
 by_cases k1 : x.1 = 1
 ·rw [if_pos k1] at he ⊢
  exact .inl ⟨_, by omega, zpH h1 h2 he⟩
 rw [if_neg k1] at he ⊢
 by_cases k9 : x.1 = 9
 ·rw [if_pos k9] at he ⊢
  obtain ⟨g1, g2, k, g3, g4⟩ := ztX he
  exact .inr (.inr (.inr ⟨k9, _, k, g3, g2, g1, g4⟩))
 rw [if_neg k9] at he ⊢
 by_cases k4 : x.1 = 4
 ·rw [if_pos k4] at he ⊢
  exact .inl ⟨_, by omega, zpH h1 h2 he⟩
 rw [if_neg k4] at he ⊢
 have k8' : x.1 ≠ 8 := k8
 exact .inl ⟨_, by omega, zpH h1 h2 he⟩
theorem zsH {d : List UInt8 × List UInt8} {x : Hp} (hc : zN d = 0) (he : (hapP (yC, d, false, [-1, -1, -1]) x).2 = 0) :
  x.1 = 8 ∧ (zF (zp d).2.1).2 = 0 ∧ (hapP (yC, d, false, [-1, -1, -1]) x).1 = ((zF (zp d).2.1).1, (zE (zp d).2.1, []), true, [-1, -1, -1]) := by
 have hb := (VV hc).1
 unfold hapP at he ⊢
 by_cases c1 : x.1 < 1
 ·rw [if_pos c1] at he; cases he
 rw [if_neg c1] at he ⊢
 by_cases c2 : 9 < x.1
 ·rw [if_pos c2] at he; cases he
 rw [if_neg c2] at he ⊢
 by_cases c3 : (yC, d, false, ([-1, -1, -1] : List Int)).2.2.1 = decide (x.1 = 8)
 ·rw [if_pos c3] at he; cases he
 rw [if_neg c3] at he ⊢
 have k8 : x.1 = 8 := Classical.byContradiction fun h => c3 (by rw [decide_eq_false h])
 rw [if_neg (by omega), if_neg (by omega), if_neg (by omega), if_pos k8] at he ⊢
 unfold zdo at he ⊢
 simp only at he ⊢
 have e2 : (zp d).2.2 = 0 := by rw [hb]
 have e1 : (zp d).1 = (zE (zp d).2.1, []) := by rw [hb]
 rw [if_pos e2] at he ⊢
 by_cases c5 : (zF (zp d).2.1).2 = 0
 ·rw [if_pos c5, e1]; exact ⟨k8, c5, rfl⟩
 ·rw [if_neg c5] at he; exact absurd he c5
theorem zh3 {w : Wd} {x : Hp} (h : chkW w.1 w.2.1 w.2.2.1 w.2.2.2 = 0) (he : (hapP w x).2 = 0) : chkW (hapP w x).1.1 (hapP w x).1.2.1 (hapP w x).1.2.2.1 (hapP w x).1.2.2.2 = 0 := by
 obtain ⟨s, d, up, rd⟩ := w
 cases up with
 | true =>
  obtain ⟨L, rfl, _, h1, h2, h3, h4⟩ := zvh h
  obtain ⟨a1, _, a3⟩ := V8 h1
  rcases zuM h1 h2 h3 he with ⟨r, _, g1, g2, g3, g4⟩ | ⟨v, g1, g2, g3, g4⟩ | ⟨_, g1⟩ | ⟨_, r, k, g1, g2, g3, g4⟩
  ·rw [g1]
   exact zpG g3 g4 h3 (zuL h4 (by simp only [List.length_append, List.length_cons, List.length_nil]; omega))
  ·rw [g1]
   exact zpG h1 h2 (by rw [List.length_set]; exact h3) (ztW h4 (by rcases g4 with g | g <;> omega) (by rcases g4 with g | g <;> omega) _)
  ·rw [g1]; exact zox (z9Q a3 a1).1
  ·rw [g1]; exact zox g4
 | false =>
  obtain ⟨rfl, rfl, hd⟩ := ztV h
  obtain ⟨_, g1, g2⟩ := zsH hd he
  rw [g2]
  exact zpG g1 rfl rfl (zh2 (by intro v hv; simp at hv; omega))
end Go.Proofs.Y
namespace Go.Proofs.Y
open Go.Rb Go.Kx
noncomputable def zmE : Code := zj Tryz.f67
noncomputable def zmF : FuncId → Option GS := tabG []
theorem zsI : ΓOK Tryz.prog zmF := zf
def zmG : HT := ⟨tabL [(4, .it [] (dyn [.t 13 (.int .i64)]))], tabH []⟩
abbrev zd1 : List IT := [.v (.one (.sl 3 (.one (.int .i64)))) false, .v (.one (.sl 3 (.one (.int .i64)))) false]
abbrev zjn : List OT := [⟨.one .bool, false, []⟩]
set_option maxRecDepth 100000
noncomputable def z3i : List Int → List Int → Option Bool := fun a b => ifB (neI (lenI a) (lenI b)) (some false) (zi maxR (fun (x : Int) => ifB (ltI x (lenI a)) (z6 (atI a x) fun y => z6 (atI b x) fun y_1 => ifB (neI y y_1) (mapO Sum.inr (some false)) (some (Sum.inl (wadd .i64 x 1)))) (mapO Sum.inr (some true))) 0)
theorem znE (x : PI zd1) : z3i (x.1) (x.2) = fnE T zmF zmG zmE (zo Tryz.f67) zd1 zjn x := by kernel_rfl
noncomputable abbrev zmH : GS := zq false zd1 zjn fun x => z3i (x.1) (x.2)
theorem znF : GSOK Tryz.prog 67 zmH := zm tok zsI fmo (Ht := zmG) (fn := Tryz.f67) (Tryz.func67) (c := zmE) (by kernel_rfl) (by kernel_rfl) (by kernel_rfl) (by decide +kernel) (by decide) znE
end Go.Proofs.Y
namespace Go.Proofs.Y
open Go.Rb Go.Kx
set_option maxRecDepth 100000
end Go.Proofs.Y
namespace Go.Proofs.Y
open Go.Rb Go.Kx
end Go.Proofs.Y
namespace Go.Proofs.Y
open Go.Rb Go.Kx
set_option maxRecDepth 100000
end Go.Proofs.Y
namespace Go.Proofs.Y
open Go.Rb Go.Kx
set_option maxRecDepth 100000
end Go.Proofs.Y
namespace Go.Proofs.Y
open Go.Rb Go.Kx
abbrev okc (w : Wd) : Int := chkW w.1 w.2.1 w.2.2.1 w.2.2.2
theorem zh4 : ∀ (l : List Hp) (w : Wd) (said : List Int), okc w = 0 → okc (runP l w said).1 = 0
 | [], _, _, h => h
 | x :: l, w, said, h => by
  rw [runP]
  refine zh4 l _ _ ?_
  split
  ·rename_i he; exact zh3 h he
  ·exact h
theorem zmI : ∀ (l : List Hp) (w : Wd) (said : List Int), (runP l w said).2.length = said.length + l.length
 | [], _, _ => rfl
 | x :: l, w, said => by rw [runP, zmI l]; simp; omega
theorem ztY {w : Wd} (h : okc w = 0) : w.2.1.1.length + w.2.1.2.length ≤ 60000 ∧ w.2.2.2.length = 3 ∧ okS w.1 := by
 obtain ⟨⟨o1, o2, o3⟩, _⟩ := Vx h
 exact ⟨o2, o3, z0v o1⟩
theorem zrh (s t : List Int) (h : s.length < 4611686018427387904) : z3i s t = some (decide (s = t)) := by
 unfold z3i
 have := z3J (fun x y : Int => !(neI x y)) (fun x y => by by_cases h : x = y <;> simp [neI, h]) s t h
 simp only [notB, Bool.not_not] at this
 exact this
end Go.Proofs.Y
namespace Go.Proofs.Y
open Go.Rb Go.Kx
set_option maxRecDepth 100000
end Go.Proofs.Y
namespace Go.Proofs.Y
open Go.Rb Go.Kx
set_option maxRecDepth 100000
end Go.Proofs.Y
namespace Go.Proofs.Y
open Go.Rb Go.Kx
set_option maxRecDepth 100000
end Go.Proofs.Y
namespace Go.Proofs.Y
open Go.Rb Go.Kx
end Go.Proofs.Y
namespace Go.Proofs.Y
open Go.Rb Go.Kx
noncomputable abbrev zmJ : GS := .r (libS [.v (.one .str) false, .v (.one .str) false, .v (.one (.int .i64)) false, .v (.one (.int .i64)) false] (fun x => z5b (x.1) (x.2.1) (x.2.2.1) (x.2.2.2)) (z6P 9))
theorem znG : GSOK Tryz.prog 154 zmJ := zqZ
end Go.Proofs.Y
namespace Go.Proofs.Y
open Go.Rb Go.Kx
noncomputable def z2u : Code := zj Tryz.f127
noncomputable def z2v : FuncId → Option GS := tabG [(154, zmJ)]
theorem z9R : ΓOK Tryz.prog z2v := z8 (znG) (zf)
def z2w : HT := ⟨tabL [], tabH []⟩
abbrev Vt : List IT := [.v (.one .str) false, .v (.one .str) false]
abbrev z1w : List OT := [⟨.one (.sl 9 (.one .str)), false, []⟩]
set_option maxRecDepth 100000
noncomputable def Yx : List UInt8 → List UInt8 → Option (List (List UInt8)) := fun a b => z6 (z5b a b (lenI b) (-1)) fun y => some y
theorem z6B (x : PI Vt) : Yx (x.1) (x.2) = fnE T z2v z2w z2u (zo Tryz.f127) Vt z1w x := by kernel_rfl
noncomputable abbrev z2x : GS := zq false Vt z1w fun x => Yx (x.1) (x.2)
theorem z6C : GSOK Tryz.prog 127 z2x := zm tok z9R fmo (Ht := z2w) (fn := Tryz.f127) (Tryz.func127) (c := z2u) (by kernel_rfl) (by kernel_rfl) (by kernel_rfl) (by decide +kernel) (by decide) z6B
end Go.Proofs.Y
namespace Go.Proofs.Y
open Go.Rb Go.Kx
noncomputable abbrev zt8 : GS := .r (libS [.v (.one .str) false, .v (.one .str) false] (fun x => sufO (x.1) (x.2)) zk0)
theorem zsJ : GSOK Tryz.prog 128 zt8 := zuE
end Go.Proofs.Y
namespace Go.Proofs.Y
open Go.Rb Go.Kx
noncomputable def z1x : Code := zj Tryz.f101
noncomputable def z1y : FuncId → Option GS := tabG [(127, z2x), (128, zt8), (129, z1v)]
theorem z95 : ΓOK Tryz.prog z1y := z8 (z6C) (z8 (zsJ) (z8 (z6h) (zf)))
def z1z : HT := ⟨tabL [(4, .it [] (dyn [.a 7 52 (.cons (.int .i64) (.cons (.int .i64) (.cons (.int .i64) (.one (.sl 77 (.cons (.int .i64) (.cons (.int .i64) (.one (.int .i64))))))))), .t 8 (.int .i64), .t 16 (.int .i64)]))], tabH []⟩
abbrev Vb : List IT := [.v (.one .str) false, .v (.one (.int .i64)) false]
abbrev z0B : List OT := [⟨.one (.sl 52 (.cons (.int .i64) (.cons (.int .i64) (.cons (.int .i64) (.one (.sl 77 (.cons (.int .i64) (.cons (.int .i64) (.one (.int .i64)))))))))), false, []⟩, ⟨.one (.int .i64), false, []⟩, ⟨.one (.int .i64), false, []⟩]
set_option maxRecDepth 100000
noncomputable def yn : List UInt8 → Int → Option (List (Int × Int × Int × List (Int × Int × Int)) × Int × Int) := fun a b => z6 (Yx a [10]) fun y => zi maxR (fun (x : Int × Int × List (Int × Int × Int × List (Int × Int × Int))) => ifB (ltI x.2.1 (lenI y)) (z6 (atI y x.2.1) fun y => ifB (eqS y []) (mapO Sum.inr (some (x.2.2, x.1, 0))) (z6 (sufO y [10]) fun y_1 => ifB (notB y_1) (mapO Sum.inr (some (x.2.2, x.1, 8))) (ifB (in1 y (wsub .i64 (lenI y) 1)) (z6 (Yg (YB y (wsub .i64 (lenI y) 1))) fun y_2 => ifB (eqI y_2.2 0) (ifB (geI (lenI x.2.2) b) (mapO Sum.inr (some (x.2.2, x.1, 2))) (ifB (neI y_2.2 0) (mapO Sum.inr (some (x.2.2, x.1, y_2.2))) (ifB (zg 48 x.2.2 [(y_2.1.1, y_2.1.2.1, y_2.1.2.2.1, y_2.1.2.2.2)]) (some (Sum.inl (wadd .i64 x.1 (lenI y), wadd .i64 x.2.1 1, cat x.2.2 [(y_2.1.1, y_2.1.2.1, y_2.1.2.2.1, y_2.1.2.2.2)]))) none))) (ifB (neI y_2.2 0) (mapO Sum.inr (some (x.2.2, x.1, y_2.2))) (ifB (zg 48 x.2.2 [(y_2.1.1, y_2.1.2.1, y_2.1.2.2.1, y_2.1.2.2.2)]) (some (Sum.inl (wadd .i64 x.1 (lenI y), wadd .i64 x.2.1 1, cat x.2.2 [(y_2.1.1, y_2.1.2.1, y_2.1.2.2.1, y_2.1.2.2.2)]))) none))) none))) (mapO Sum.inr (some (x.2.2, x.1, 0)))) (0, 0, [])
theorem z6i (x : PI Vb) : yn (x.1) (x.2) = fnE T z1y z1z z1x (zo Tryz.f101) Vb z0B x := by kernel_rfl
noncomputable abbrev Vu : GS := zq false Vb z0B fun x => yn (x.1) (x.2)
theorem J1 : GSOK Tryz.prog 101 Vu := zm tok z95 fmo (Ht := z1z) (fn := Tryz.f101) (Tryz.func101) (c := z1x) (by kernel_rfl) (by kernel_rfl) (by kernel_rfl) (by decide +kernel) (by decide) z6i
end Go.Proofs.Y
namespace Go.Proofs.Y
open Go.Rb Go.Kx
noncomputable def JR : Code := zj Tryz.f62
noncomputable def JS : FuncId → Option GS := tabG [(101, Vu)]
theorem z6D : ΓOK Tryz.prog JS := z8 (J1) (zf)
def JT : HT := ⟨tabL [], tabH []⟩
abbrev vD : List IT := [.v (.cons (.sl 5 (.one (.int .u8))) (.one (.sl 5 (.one (.int .u8))))) true]
abbrev J2 : List OT := [⟨.one (.int .i64), false, []⟩]
set_option maxRecDepth 100000
noncomputable def ya : List Int × List Int → Option Int := fun a => ifB (gtI (lenI a.1) 60000) (some 2) (ifB (gtI (lenI a.2) (wsub .i64 60000 (lenI a.1))) (some 2) (z6 (yn (strB a.1) 60) fun y => some y.2.2))
theorem z4p (x : PI vD) : ya x = fnE T JS JT JR (zo Tryz.f62) vD J2 x := by kernel_rfl
noncomputable abbrev vP : GS := zq false vD J2 fun x => ya x
theorem VW : GSOK Tryz.prog 62 vP := zm tok z6D fmo (Ht := JT) (fn := Tryz.f62) (Tryz.func62) (c := JR) (by kernel_rfl) (by kernel_rfl) (by kernel_rfl) (by decide +kernel) (by decide) z4p
end Go.Proofs.Y
namespace Go.Proofs.Y
open Go.Rb Go.Kx
noncomputable def JU : Code := zj Tryz.f55
noncomputable def JV : FuncId → Option GS := tabG [(101, Vu), (87, Jr), (102, zgt)]
theorem z6E : ΓOK Tryz.prog JV := z8 (J1) (z8 (VT) (z8 (zjK) (zf)))
def JW : HT := ⟨tabL [], tabH []⟩
abbrev vE : List IT := [.v (.cons (.sl 5 (.one (.int .u8))) (.one (.sl 5 (.one (.int .u8))))) true]
abbrev J3 : List OT := [⟨.cons (.sl 5 (.one (.int .u8))) (.one (.sl 5 (.one (.int .u8)))), true, []⟩, ⟨.one (.sl 52 (.cons (.int .i64) (.cons (.int .i64) (.cons (.int .i64) (.one (.sl 77 (.cons (.int .i64) (.cons (.int .i64) (.one (.int .i64)))))))))), false, []⟩]
set_option maxRecDepth 100000
noncomputable def ZC : List Int × List Int → Option ((List Int × List Int) × List (Int × Int × Int × List (Int × Int × Int))) := fun a => z6 (yn (strB a.1) 60) fun y => z6 (yn (strB a.2) (wsub .i64 60 (lenI y.1))) fun y_1 => ifB (in1 a.2 y_1.2.1) (z6 (YJ [a.1, YB a.2 y_1.2.1]) fun y_2 => z6 (z2p [y.1, y_1.1]) fun y => some ((y_2, []), y)) none
theorem z4q (x : PI vE) : ZC x = fnE T JV JW JU (zo Tryz.f55) vE J3 x := by kernel_rfl
noncomputable abbrev vQ : GS := zq false vE J3 fun x => ZC x
theorem VX : GSOK Tryz.prog 55 vQ := zm tok z6E fmo (Ht := JW) (fn := Tryz.f55) (Tryz.func55) (c := JU) (by kernel_rfl) (by kernel_rfl) (by kernel_rfl) (by decide +kernel) (by decide) z4q
end Go.Proofs.Y
namespace Go.Proofs.Y
open Go.Rb Go.Kx
noncomputable def J4 : Code := zj Tryz.f18
noncomputable def J5 : FuncId → Option GS := tabG [(62, vP), (55, vQ), (56, Vo), (63, vO), (64, y0)]
theorem z6j : ΓOK Tryz.prog J5 := z8 (VW) (z8 (VX) (z8 (jL) (z8 (VQ) (z8 (ZO) (zf)))))
def J6 : HT := ⟨tabL [(15, .it [] (dyn [.t 50 (.int .i64)]))], tabH []⟩
abbrev vi : List IT := [.v (.cons (.sl 95 (.cons (.sl 126 (.cons (.int .i64) (.cons (.int .i64) (.cons (.int .i64) (.one (.sl 4 (.one .bool))))))) (.one (.sl 73 (.cons (.int .i64) (.one (.int .i64))))))) (.cons (.sl 5 (.one (.int .u8))) (.cons (.sl 5 (.one (.int .u8))) (.cons (.bool) (.one (.sl 3 (.one (.int .i64)))))))) true]
abbrev jq : List OT := [⟨.one (.int .i64), false, []⟩]
set_option maxRecDepth 100000
noncomputable def yK : List (List (Int × Int × Int × List Bool) × List (Int × Int)) × List Int × List Int × Bool × List Int → Option Int := fun a => z6 (ya (a.2.1, a.2.2.1)) fun y => ifB (neI y 0) (some y) (ifB a.2.2.2.1 (ifB (gtI (lenI a.2.2.1) 0) (some 4) (z6 (ZC (a.2.1, a.2.2.1)) fun y => z6 (ZJ y.2) fun y_1 => ifB (neI y_1.2 0) (some y_1.2) (z6 (Zj y_1.1 a.1) fun y_2 => ifB (notB y_2) (some 4) (ifB (neI (lenI a.2.2.2.2) 3) (some 4) (zi maxR (fun (x : Int) => ifB (ltI x (lenI a.2.2.2.2)) (z6 (atI a.2.2.2.2 x) fun y_3 => z6 (zk y_3 (-1) (lenI y.2)) fun y => ifB (notB y) (mapO Sum.inr (some 3)) (ifB (geI y_3 0) (ifB (notB a.2.2.2.1) (mapO Sum.inr (some 3)) (some (Sum.inl (wadd .i64 x 1)))) (some (Sum.inl (wadd .i64 x 1))))) (mapO Sum.inr (some 0))) 0))))) (z6 (ZJ []) fun y => ifB (neI y.2 0) (some y.2) (z6 (Zj y.1 a.1) fun y => ifB (notB y) (some 4) (ifB (neI (lenI a.2.2.2.2) 3) (some 4) (zi maxR (fun (x : Int) => ifB (ltI x (lenI a.2.2.2.2)) (z6 (atI a.2.2.2.2 x) fun y => z6 (zk y (-1) 0) fun y_1 => ifB (notB y_1) (mapO Sum.inr (some 3)) (ifB (geI y 0) (ifB (notB a.2.2.2.1) (mapO Sum.inr (some 3)) (some (Sum.inl (wadd .i64 x 1)))) (some (Sum.inl (wadd .i64 x 1))))) (mapO Sum.inr (some 0))) 0)))))
theorem z3S (x : PI vi) : yK x = fnE T J5 J6 J4 (zo Tryz.f18) vi jq x := by kernel_rfl
noncomputable abbrev J7 : GS := zq false vi jq fun x => yK x
theorem z3T : GSOK Tryz.prog 18 J7 := zm tok z6j fmo (Ht := J6) (fn := Tryz.f18) (Tryz.func18) (c := J4) (by kernel_rfl) (by kernel_rfl) (by kernel_rfl) (by decide +kernel) (by decide) z3S
end Go.Proofs.Y
namespace Go.Proofs.Y
open Go.Rb Go.Kx
def saL : List (List UInt8) → List (List UInt8)
 | [] => []
 | w :: r => if r = [] then [w] else (w ++ [10]) :: saL r
theorem znH : ∀ (l : List UInt8), Lib.splitK [10] 1 (Lib.count l [10]) l = saL (sp 10 l) := by
 have key : ∀ (ws : List (List UInt8)), ws ≠ [] → (∀ w ∈ ws, ∀ x ∈ w, x ≠ 10) → Lib.splitK [10] 1 (Lib.count (jn 10 ws) [10]) (jn 10 ws) = saL ws := by
  intro ws
  induction ws with
  | nil => intro h; exact absurd rfl h
  | cons w r ih =>
   intro _ h
   by_cases hr : r = []
   ·subst hr
    simp only [jn, List.map_nil, List.flatten_nil, List.append_nil]
    rw [Lib.count_miss (z3f (h w (by simp)))]; rfl
   ·rw [z1m _ _ hr]
    have hi : Lib.index (w ++ 10 :: jn 10 r) [10] = w.length := z4j (h w (by simp))
    have hd : (w ++ 10 :: jn 10 r).drop (w.length + [(10 : UInt8)].length) = jn 10 r := by
     rw [List.drop_append]; simp
    have hr2 := ih hr fun w hw => h w (by simp [hw])
    rw [Lib.count_hit (by simp) hi, hd, Nat.add_comm 1, Lib.splitK, if_neg (by rw [hi]; intro e; have := beq_iff_eq.1 e; omega), hi]
    have e : ((w.length : Nat) : Int).toNat = w.length := by omega
    rw [e, hd, hr2, saL, if_neg hr]
    congr 1
    rw [List.take_append, List.take_of_length_le (by omega)]
    simp
 intro l
 have h := key (sp 10 l) (jp 10 l) (z9H 10 l)
 rw [z7t] at h
 exact h
theorem zoy : ∀ ws : List (List UInt8), (saL ws).length = ws.length
 | [] => rfl
 | w :: r => by
  rw [saL]
  split
  ·rename_i h; subst h; rfl
  ·simp [zoy r]
theorem zoz : ∀ (ws : List (List UInt8)), ∀ t ∈ saL ws, ∃ w ∈ ws, t.length ≤ w.length + 1
 | [], t, h => by cases h
 | w :: r, t, h => by
  rw [saL] at h
  split at h
  ·rw [List.mem_singleton.1 h]; exact ⟨w, by simp, by omega⟩
  ·rcases List.mem_cons.1 h with rfl | h
   ·exact ⟨w, by simp, by simp⟩
   ·obtain ⟨v, hv, h2⟩ := zoz r t h
    exact ⟨v, List.mem_cons_of_mem _ hv, h2⟩
def lnA (most : Int) : List (List UInt8) → Int → List Rc → List Rc × Int × Int
 | [], n, acc => (acc, n, 0)
 | t :: r, n, acc => if t = [] then (acc, n, 0) else if Lib.hasSuffix t [10] = false then (acc, n, 8) else
  if (yJ (t.take (t.length - 1))).2 = 0 then (if most ≤ (acc.length : Int) then (acc, n, 2) else lnA most r (n + t.length) (acc ++ [(yJ (t.take (t.length - 1))).1])) else (acc, n, (yJ (t.take (t.length - 1))).2)
theorem ztZ (w : List UInt8) : Lib.hasSuffix (w ++ [10]) [10] = true := by
 unfold Lib.hasSuffix
 simp
theorem zsK {w : List UInt8} (h : ∀ x ∈ w, x ≠ 10) (hw : w ≠ []) : Lib.hasSuffix w [10] = false := by
 cases hq : Lib.hasSuffix w [10] with
 | false => rfl
 | true =>
  exfalso
  unfold Lib.hasSuffix at hq
  have h2 : [(10 : UInt8)] <:+ w := by simpa using hq
  obtain ⟨v, hv⟩ := h2
  exact h 10 (by rw [← hv]; simp) rfl
theorem zri (most all : Int) : ∀ (ws : List (List UInt8)) (n : Int) (acc : List Rc), ws ≠ [] → (∀ w ∈ ws, ∀ x ∈ w, x ≠ 10) → (acc.length : Int) ≤ most → n = all - (jn 10 ws).length → lnA most (saL ws) n acc = lnW most all ws acc
 | [], n, acc, h, _, _, _ => absurd rfl h
 | w :: r, n, acc, _, hc, hm, hn => by
  rw [saL, lnW]
  by_cases hr : r = []
  ·subst hr
   rw [if_pos rfl, if_pos rfl, lnA]
   simp only [jn, List.map_nil, List.flatten_nil, List.append_nil] at hn
   by_cases hw : w = []
   ·subst hw; rw [if_pos rfl, if_pos rfl, hn]; simp
   ·rw [if_neg hw, if_neg hw, zsK (hc w (by simp)) hw, if_pos rfl, hn]
  ·have hj := z1m 10 w hr
   have hl : ((jn 10 (w :: r)).length : Int) = w.length + 1 + (jn 10 r).length := by rw [hj]; simp; omega
   have ht : (w ++ [10]).take ((w ++ [(10 : UInt8)]).length - 1) = w := by simp
   rw [if_neg hr, if_neg hr, lnA, if_neg (by simp), ztZ, if_neg (by decide), ht]
   by_cases hp : (yJ w).2 = 0
   ·rw [if_pos hp, if_pos hp]
    by_cases hq : (acc.length : Int) = most
    ·rw [if_pos (by omega), if_pos hq, hn]
    ·rw [if_neg (by omega), if_neg hq]
     refine zri most all r _ _ hr (fun v hv => hc v (List.mem_cons_of_mem _ hv)) (by simp only [List.length_append, List.length_cons, List.length_nil]; omega) ?_
     simp only [List.length_append, List.length_cons, List.length_nil]
     omega
   ·rw [if_neg hp, if_neg hp, hn]
theorem z9S (s : List UInt8) (most : Int) (hs : s.length ≤ 60000) (hm : 0 ≤ most) : yn s most = some (lnP most s) := by
 unfold yn
 have e1 : Yx s [10] = some (saL (sp 10 s)) := by
  unfold Yx z5b
  rw [if_pos ⟨⟨by omega, by simp⟩, rfl, by rw [zb]; simp, by rw [zb]; simp⟩, z7, zb]
  exact congrArg some (znH s)
 have e2 : lnP most s = lnA most (saL (sp 10 s)) 0 [] := by
  unfold lnP
  exact (zri most s.length (sp 10 s) 0 [] (jp 10 s) (z9H 10 s) (by simpa using hm) (by rw [z7t]; omega)).symm
 have hlen : (saL (sp 10 s)).length ≤ 60001 := by rw [zoy]; have := zgO 10 s; omega
 have htl : ∀ t ∈ saL (sp 10 s), t.length ≤ 60001 := fun t ht => by
  obtain ⟨w, hw, h2⟩ := zoz _ t ht
  have := zhI 10 s w hw
  omega
 rw [e1, z7, e2]
 generalize saL (sp 10 s) = ts at *
 refine zP ts (fun j (x : Int × List Rc) => (x.1, (j : Int), x.2)) (G := fun rest x => some (lnA most rest x.1 x.2)) (P := fun j x => (0 ≤ x.1 ∧ x.1 ≤ 60001 * j) ∧ x.2.length ≤ j) (s0 := (0, [])) ?_ ?_ ⟨⟨by simp, by simp⟩, by simp⟩ (by omega)
 ·rintro j ⟨n, acc⟩ hj ⟨⟨p0, p1⟩, p2⟩ k hk
  have hat := zO hj
  have hmem : ts.getD j default ∈ ts := by simp only [List.getD, List.getElem?_eq_getElem hj, Option.getD_some]; exact List.getElem_mem hj
  have ht := htl _ hmem
  generalize ts.getD j default = t at *
  simp only at p0 p1 p2 hk ⊢
  rw [za, zh, zb, if_pos (by omega), hat, z7, za, zd, lnA, ZA]
  by_cases c0 : t = []
  ·rw [if_pos c0, if_pos c0]
  ·have hpos : 0 < t.length := List.length_pos_iff.2 c0
   have hsu : sufO t [10] = some (Lib.hasSuffix t [10]) := by unfold sufO; rw [if_pos (by omega)]
   rw [if_neg c0, if_neg c0, hsu, z7, za, zd, zC]
   cases hq : Lib.hasSuffix t [10] with
   | false => rw [ZB, if_pos rfl]
   | true =>
    have e3 : YB t (wsub .i64 (lenI t) 1) = t.take (t.length - 1) := by
     rw [zU, zb, ZT ⟨by omega, by omega⟩]
     congr 1; omega
    rw [Z1, if_neg (by decide), za, zI, zb, ZT ⟨by omega, by omega⟩, if_pos ⟨by omega, by omega⟩]
    rw [zb, ZT ⟨by omega, by omega⟩] at e3
    rw [e3, zpF _ (by rw [List.length_take]; omega), z7]
    generalize yJ (t.take (t.length - 1)) = p at *
    rw [za, ze]
    by_cases c1 : p.2 = 0
    ·rw [if_pos c1, if_pos c1, za, zR, zb]
     by_cases c2 : most ≤ (acc.length : Int)
     ·rw [if_pos c2, if_pos c2, zd]
     ·rw [if_neg c2, if_neg c2, za, zl, if_pos c1, za, zy, if_pos (by simp only [List.length_cons, List.length_nil]; omega), zt, zY, ZM ⟨by omega, by omega⟩, zD (by omega)]
      exact hk (n + t.length, acc ++ [p.1]) ⟨⟨by simp only; omega, by simp only; push_cast; omega⟩, by simp only [List.length_append, List.length_cons, List.length_nil]; omega⟩
    ·rw [if_neg c1, if_neg c1, za, zd, zl, if_neg c1]
 ·rintro ⟨n, acc⟩ _ k
  simp only
  rw [za, zd, zh, zb, if_neg (by omega)]; rfl
end Go.Proofs.Y
namespace Go.Proofs.Y
open Go.Rb Go.Kx
end Go.Proofs.Y
namespace Go.Proofs.Y
open Go.Rb Go.Kx
theorem zd2 (d : List UInt8 × List UInt8) (h1 : d.1.length < 4611686018427387904) (h2 : d.2.length < 4611686018427387904) : ya (bytB d.1, bytB d.2) = some (zN d) := by
 unfold ya zN
 simp only [z1n]
 rw [zz, zz, zb, zb, ZD, ZD]
 by_cases c1 : 60000 < d.1.length
 ·rw [if_pos (by omega), if_pos c1]
 ·rw [if_neg (by omega), if_neg c1, ZT ⟨by omega, by omega⟩]
  by_cases c2 : 60000 - d.1.length < d.2.length
  ·rw [if_pos (by omega), if_pos c2]
  ·rw [if_neg (by omega), if_neg c2, z9S _ _ (by omega) (by omega), z7]
theorem z6k {d : List UInt8 × List UInt8} (h : zN d = 0) : ZC (bytB d.1, bytB d.2) = some (bD (zp d).1, (zp d).2.1) := by
 have hlen := Yw h
 have hb := VV h
 have e : zp d = ((d.1 ++ d.2.take (Jt d).2.1.toNat, []), (lnP 60 d.1).1 ++ (Jt d).1, 0) := by unfold zp; rw [if_pos h]
 have n1 := zmy d.1
 have hm := zt6 (60 - ((lnP 60 d.1).1.length : Int)) d.2
 have h60 := hb.2.1
 rw [e] at h60
 simp only [List.length_append] at h60
 unfold ZC
 simp only [z1n]
 rw [z9S _ _ (by omega) (by omega), z7, zb, ZT ⟨by omega, by omega⟩, z9S _ _ (by omega) (by omega), z7, zI, if_pos ⟨hm.1, by rw [ZD]; exact hm.2⟩, zU, z7w, z0x _ _ (by rw [List.length_take]; omega), z7]
 unfold Jt at e h60
 rw [znx _ _ h60, z7, e]
 rfl
theorem zu0 (rd : List Int) (n : Int) (up : Bool) (hl : rd.length < 4611686018427387904) :
  zi maxR (fun (x : Int) => ifB (ltI x (lenI rd)) (z6 (atI rd x) fun (y : Int) => z6 (zk y (-1) n) fun (t : Bool) => ifB (notB t) (mapO Sum.inr (some 3)) (ifB (geI y 0) (ifB (notB up) (mapO Sum.inr (some 3)) (some (Sum.inl (wadd IntKind.i64 x 1)))) (some (Sum.inl (wadd IntKind.i64 x 1))))) (mapO Sum.inr (some 0))) 0 = some (rdE n up rd) := by
 refine zP rd (fun j (_ : Unit) => (j : Int)) (G := fun rest _ => some (rdE n up rest)) (P := fun _ _ => True) (s0 := ()) ?_ ?_ trivial (by omega)
 ·rintro j _ hj _ k hk
  have hat := zO hj
  generalize rd.getD j default = v at *
  rw [za, zh, zb, if_pos (by omega), hat, z7, jm, z7, za, zC, zQ, rdE]
  by_cases c1 : -1 ≤ v ∧ v ≤ n
  ·rw [if_pos c1, za, zR]
   by_cases c2 : 0 ≤ v
   ·rw [if_pos c2, za, zC]
    cases up with
    | true =>
     rw [Z1, if_neg (by rintro (h | h | h); omega; omega; cases h.1), zt, zD (by omega)]
     exact hk () trivial
    | false => rw [ZB, if_pos (.inr (.inr ⟨rfl, by omega⟩))]; rfl
   ·rw [if_neg c2, if_neg (by rintro (h | h | h); omega; omega; exact h.2 (by omega)), zt, zD (by omega)]
    exact hk () trivial
  ·rw [if_neg c1, if_pos (by by_cases h : v < -1; exact .inl h; exact .inr (.inl (by omega)))]; rfl
 ·rintro _ _ k
  rw [za, zd, zh, zb, if_neg (by omega)]; rfl
theorem zjR (w : Wd) (h1 : w.2.1.1.length < 4611686018427387904) (h2 : w.2.1.2.length < 4611686018427387904) (hrd : w.2.2.2.length < 4611686018427387904) : yK (wvd w) = some (okc w) := by
 obtain ⟨s, d, up, rd⟩ := w
 simp only at h1 h2 hrd
 unfold yK
 simp only [wvd, wv]
 rw [zd2 d h1 h2, z7, zl]
 show _ = some (chkW s d up rd)
 unfold chkW
 by_cases hc : zN d = 0
 ·obtain ⟨b1, b2, b3⟩ := VV hc
  have b0 : (zp d).2.2 = 0 := by rw [b1]
  have tailL : ∀ l : List Rc, l.length < 4611686018427387904 → (∀ r ∈ l, r.2.2.2.length < 4611686018427387904) → (z6 (ZJ l) fun (y_1 : Shf × Int) =>
    ifB (neI (Prod.snd y_1) 0) (some (Prod.snd y_1)) (z6 (Zj (Prod.fst y_1) s) fun (y_2 : Bool) => ifB (notB y_2) (some 4) (ifB (neI (lenI rd) 3) (some 4)
     (zi maxR (fun (x : Int) => ifB (ltI x (lenI rd)) (z6 (atI rd x) fun (y : Int) => z6 (zk y (-1) (lenI l)) fun (t : Bool) => ifB (notB t) (mapO Sum.inr (some 3)) (ifB (geI y 0) (ifB (notB up) (mapO Sum.inr (some 3)) (some (Sum.inl (wadd IntKind.i64 x 1)))) (some (Sum.inl (wadd IntKind.i64 x 1))))) (mapO Sum.inr (some 0))) 0)))) = some (chkL s l up rd) := by
   intro l hl he
   unfold chkL
   rw [zgp l hl he, z7, zl, zu0 rd (lenI l) up hrd]
   by_cases c : (zF l).2 = 0
   ·rw [if_pos c, if_pos c, zch _ _ (z7Z l), z7, zC, zQ, zl, zb, zb]
    by_cases c2 : (zF l).1 = s
    ·rw [if_pos c2, if_pos c2]
     by_cases c3 : rd.length = 3
     ·rw [if_pos (by omega), if_pos c3]
     ·rw [if_neg (by omega), if_neg c3]
    ·rw [if_neg c2, if_neg c2]
   ·rw [if_neg c, if_neg c]
  have t1 := tailL (zp d).2.1 (by omega) fun r hr => z3Q (b3 r hr)
  have t0 := tailL [] (by decide) (by simp)
  simp only [show lenI ([] : List Rc) = 0 from rfl] at t0
  rw [if_pos hc, if_pos b0, z6k hc]
  cases up with
  | true =>
   rw [Z1, if_pos rfl, zz, zb, ZD]
   by_cases c : 0 < d.2.length
   ·rw [if_pos (by omega), if_pos c]
   ·rw [if_neg (by omega), if_neg c, z7]
    exact t1
  | false =>
   rw [ZB, if_neg (by decide)]
   exact t0
 ·have b0 : (zp d).2.2 = zN d := by unfold zp; rw [if_neg hc]
  rw [if_neg hc, if_neg (by rw [b0]; exact hc), b0]
end Go.Proofs.Y
namespace Go.Proofs.Y
open Go.Rb Go.Kx
noncomputable def zmK : Code := zj Tryz.f142
noncomputable def zmL : FuncId → Option GS := tabG [(120, zgA)]
theorem zsL : ΓOK Tryz.prog zmL := z8 (zcn) (zf)
def zmM : HT := ⟨tabL [(1, .it [] (dyn [.t 7 (.int .i64), .b 1 0 9 (.one .str)]))], tabH [(0, [.frz 0])]⟩
noncomputable def zmN : GS := inl T zmL zmM zmK (zo Tryz.f142) (Tryz.f142.ntmps)
theorem znI : GSOK Tryz.prog 142 zmN := yR tok zsL fmo (Ht := zmM) (fn := Tryz.f142) (Tryz.func142) (c := zmK) (by kernel_rfl) (by kernel_rfl) (by kernel_rfl)
end Go.Proofs.Y
namespace Go.Proofs.Y
open Go.Rb Go.Kx Go.Proofs
def join_ren : Go.Shelf.Ren := ⟨fun | 156 => 143 | 165 => 163 | 166 => 164 | 169 => 165 | 240 => 181 | 241 => 182 | 276 => 203 | 277 => 204 | n => n, fun | 31 => 149 | 9 => 9 | 3 => 3 | 4 => 4 | 0 => 0 | 20 => 20 | 72 => 196 | 76 => 184 | 70 => 194 | 37 => 25 | 75 => 183 | 127 => 215 | 164 => 234 | 5 => 5 | 80 => 198 | n => n, fun | n => n⟩
theorem zrj : Go.Proofs.Lays.n156 Tryz.prog join_ren := {
 mixed := by kernel_rfl
 f156 := Tryz.func143.trans (congrArg some (by kernel_rfl))
 f165 := Tryz.func163.trans (congrArg some (by kernel_rfl))
 f166 := Tryz.func164.trans (congrArg some (by kernel_rfl))
 f169 := Tryz.func165.trans (congrArg some (by kernel_rfl))
 f240 := Tryz.func181.trans (congrArg some (by kernel_rfl))
 f241 := Tryz.func182.trans (congrArg some (by kernel_rfl))
 f276 := Tryz.func203.trans (congrArg some (by kernel_rfl))
 f277 := Tryz.func204.trans (congrArg some (by kernel_rfl))
 t0 := Tryz.underlying0
 a0 := Tryz.isAgg0
 z0 := Tryz.sizeOf0
 v0 := Tryz.zeroValue0
 t3 := Tryz.underlying3
 a3 := Tryz.isAgg3
 z3 := Tryz.sizeOf3
 v3 := Tryz.zeroValue3
 t4 := Tryz.underlying4
 a4 := Tryz.isAgg4
 z4 := Tryz.sizeOf4
 v4 := Tryz.zeroValue4
 t9 := Tryz.underlying9
 a9 := Tryz.isAgg9
 z9 := Tryz.sizeOf9
 v9 := Tryz.zeroValue9
 t20 := Tryz.underlying20
 a20 := Tryz.isAgg20
 z20 := Tryz.sizeOf20
 v20 := Tryz.zeroValue20
 t31 := Tryz.underlying149
 a31 := Tryz.isAgg149
 z31 := Tryz.sizeOf149
 v31 := Tryz.zeroValue149
 t37 := Tryz.underlying25
 a37 := Tryz.isAgg25
 z37 := Tryz.sizeOf25
 v37 := Tryz.zeroValue25
 t70 := Tryz.underlying194
 a70 := Tryz.isAgg194
 z70 := Tryz.sizeOf194
 v70 := Tryz.zeroValue194
 t72 := Tryz.underlying196
 a72 := Tryz.isAgg196
 z72 := Tryz.sizeOf196
 v72 := Tryz.zeroValue196
 t75 := Tryz.underlying183
 a75 := Tryz.isAgg183
 z75 := Tryz.sizeOf183
 v75 := Tryz.zeroValue183
 t76 := Tryz.underlying184
 a76 := Tryz.isAgg184
 z76 := Tryz.sizeOf184
 v76 := Tryz.zeroValue184
 t127 := Tryz.underlying215
 a127 := Tryz.isAgg215
 z127 := Tryz.sizeOf215
 v127 := Tryz.zeroValue215
 t164 := Tryz.underlying234
 a164 := Tryz.isAgg234
 z164 := Tryz.sizeOf234
 v164 := Tryz.zeroValue234 }
theorem zpI : Builder.Extra Tryz.prog join_ren := {
 sizeBuilder := by kernel_rfl
 liesBuilder := by kernel_rfl
 t5 := Tryz.underlying5
 a5 := Tryz.isAgg5
 z5 := Tryz.sizeOf5
 v5 := Tryz.zeroValue5
 infoByte := by kernel_rfl
 cellsByte := by kernel_rfl
 sizeByte := by kernel_rfl
 neB5 := by decide }
theorem zrk : yr Tryz.prog (join_ren.f 156) := ⟨Tryz.f143, zj Tryz.f143, Tryz.func143, by kernel_rfl, by kernel_rfl⟩
theorem zu1 : GSOK Tryz.prog 143 (.r (libS (isLS 9) (fun x => z3m (x.1) (x.2)) gStr)) := zqh 9 zrj zpI zrk
end Go.Proofs.Y
namespace Go.Proofs.Y
open Go.Rb Go.Kx
noncomputable abbrev zrl : GS := .r (libS [.v (.one (.sl 9 (.one .str))) false, .v (.one .str) false] (fun x => z3m (x.1) (x.2)) gStr)
theorem zrm : GSOK Tryz.prog 143 zrl := zu1
end Go.Proofs.Y
namespace Go.Proofs.Y
open Go.Rb Go.Kx
noncomputable def z1A : Code := zj Tryz.f112
noncomputable def z1B : FuncId → Option GS := tabG [(103, Y1), (142, zmN), (143, zrl)]
theorem z96 : ΓOK Tryz.prog z1B := z8 (Yi) (z8 (znI) (z8 (zrm) (zf)))
def z1C : HT := ⟨tabL [(12, .it [] (dyn [.t 29 (.int .i64), .b 5 0 9 (.one .str)]))], tabH []⟩
abbrev Vc : List IT := [.v (.cons (.int .i64) (.cons (.int .i64) (.cons (.int .i64) (.one (.sl 77 (.cons (.int .i64) (.cons (.int .i64) (.one (.int .i64))))))))) true]
abbrev z0C : List OT := [⟨.one .str, false, []⟩, ⟨.one (.int .i64), false, []⟩]
set_option maxRecDepth 100000
noncomputable def Yh : Int × Int × Int × List (Int × Int × Int) → Option (List UInt8 × Int) := fun a => z6 (zn (a.1, a.2.1, a.2.2.1, a.2.2.2)) fun y => ifB (neI y 0) (some ([], y)) (ifB (eqI a.1 1) (zi maxR (fun (x : Int × List (List UInt8)) => ifB (ltI x.1 (lenI a.2.2.2)) (z6 (atI a.2.2.2 x.1) fun y => zi maxR (fun (x_1 : Int × List (List UInt8)) => ifB (ltI x_1.1 (lenI [y.1, y.2.1, y.2.2])) (z6 (atI [y.1, y.2.1, y.2.2] x_1.1) fun y => z6 (Yl y) fun y => ifB (zg 16 x_1.2 [y]) (some (Sum.inl (wadd .i64 x_1.1 1, cat x_1.2 [y]))) none) (mapO Sum.inr (some (Sum.inl (wadd .i64 x.1 1, x_1.2))))) (0, x.2)) (mapO Sum.inr (z6 (z3m x.2 [32]) fun y => some (y, 0)))) (0, [[98, 97, 116, 99, 104]])) (ifB (eqI a.1 2) (zi maxR (fun (x : Int × List (List UInt8)) => ifB (ltI x.1 (lenI [a.2.1, a.2.2.1])) (z6 (atI [a.2.1, a.2.2.1] x.1) fun y => z6 (Yl y) fun y => ifB (zg 16 x.2 [y]) (some (Sum.inl (wadd .i64 x.1 1, cat x.2 [y]))) none) (mapO Sum.inr (z6 (z3m x.2 [32]) fun y => some (y, 0)))) (0, [ifB (eqI a.1 2) [115, 101, 97, 108] (ifB (eqI a.1 3) [109, 101, 114, 103, 101] [])])) (ifB (eqI a.1 3) (zi maxR (fun (x : Int × List (List UInt8)) => ifB (ltI x.1 (lenI [a.2.1, a.2.2.1])) (z6 (atI [a.2.1, a.2.2.1] x.1) fun y => z6 (Yl y) fun y => ifB (zg 16 x.2 [y]) (some (Sum.inl (wadd .i64 x.1 1, cat x.2 [y]))) none) (mapO Sum.inr (z6 (z3m x.2 [32]) fun y => some (y, 0)))) (0, [ifB (eqI a.1 2) [115, 101, 97, 108] (ifB (eqI a.1 3) [109, 101, 114, 103, 101] [])])) (zi maxR (fun (x : Int × List (List UInt8)) => ifB (ltI x.1 (lenI [a.2.2.1])) (z6 (atI [a.2.2.1] x.1) fun y => z6 (Yl y) fun y => ifB (zg 16 x.2 [y]) (some (Sum.inl (wadd .i64 x.1 1, cat x.2 [y]))) none) (mapO Sum.inr (z6 (z3m x.2 [32]) fun y => some (y, 0)))) (0, [[100, 114, 111, 112]])))))
theorem z6l (x : PI Vc) : Yh x = fnE T z1B z1C z1A (zo Tryz.f112) Vc z0C x := by kernel_rfl
noncomputable abbrev z1D : GS := zq false Vc z0C fun x => Yh x
theorem z6m : GSOK Tryz.prog 112 z1D := zm tok z96 fmo (Ht := z1C) (fn := Tryz.f112) (Tryz.func112) (c := z1A) (by kernel_rfl) (by kernel_rfl) (by kernel_rfl) (by decide +kernel) (by decide) z6l
end Go.Proofs.Y
namespace Go.Proofs.Y
open Go.Rb Go.Kx
theorem zoA {α : Type} (ns : List Int) (hn : ∀ n ∈ ns, z9z n) (hl : ns.length ≤ 1000) (F : List (List UInt8) → Option α) (s : List (List UInt8)) (hs : s.length ≤ 100000) :
  zi maxR (fun (x : Int × List (List UInt8)) => ifB (ltI x.1 (lenI ns)) (z6 (atI ns x.1) fun (y : Int) => z6 (Yl y) fun (t : List UInt8) => ifB (zg 16 x.2 [t]) (some (Sum.inl (wadd .i64 x.1 1, cat x.2 [t]))) none) (mapO Sum.inr (F x.2))) (0, s) = F (s ++ ns.map Lib.itoa) := by
 refine zP ns (fun j (s : List (List UInt8)) => ((j : Int), s)) (G := fun rest s => F (s ++ rest.map Lib.itoa)) (P := fun j s => s.length ≤ 100000 + j) (s0 := s) ?_ ?_ (by simpa using hs) (by omega)
 ·rintro j acc hj hp k hk
  have hat := zO hj
  have hm : ns.getD j default ∈ ns := y9 hj
  have hb := hn _ hm
  generalize ns.getD j default = n at *
  have hi : Yl n = some (Lib.itoa n) := by unfold Yl; exact if_pos hb
  simp only at hp ⊢
  rw [za, zh, zb, if_pos (by omega), hat, z7, hi, z7, za, zy, if_pos (by simp only [List.length_cons, List.length_nil]; omega), zt, zD (by omega), zY, hk _ (by simp only [List.length_append, List.length_cons, List.length_nil]; omega), List.append_assoc]
  rfl
 ·rintro acc hp k
  simp only
  rw [za, zd, zh, zb, if_neg (by omega)]
  simp
theorem zu2 (c : UInt8) (w : List UInt8) (r : List (List UInt8)) : Lib.join (w :: r) [c] = jn c (w :: r) := by
 rw [Lib.join_cons]; rfl
noncomputable def finT (ws : List (List UInt8)) : Option (List UInt8 × Int) := z6 (z3m ws [32]) fun (y : List UInt8) => some (y, 0)
theorem zoB {w : List UInt8} {r : List (List UInt8)} (h : (jn 32 (w :: r)).length ≤ 100000) (hl : r.length ≤ 100000) : finT (w :: r) = some (jn 32 (w :: r), 0) := by
 unfold finT z3m
 rw [zu2, if_pos ⟨by simp only [List.length_cons]; omega, by omega⟩, z7]
noncomputable def rtS (ns : List Int) (w : List UInt8) : Option (List UInt8 × Int) :=
 zi maxR (fun (x : Int × List (List UInt8)) => ifB (ltI x.1 (lenI ns)) (z6 (atI ns x.1) fun (y : Int) => z6 (Yl y) fun (t : List UInt8) => ifB (zg 16 x.2 [t]) (some (Sum.inl (wadd .i64 x.1 1, cat x.2 [t]))) none) (mapO Sum.inr (finT x.2))) (0, [w])
theorem zmO (a : Rc) : Yh a = z6 (zn a) fun (e : Int) => ifB (neI e 0) (some ([], e)) (ifB (eqI a.1 1)
  (zi maxR (fun (x : Int × List (List UInt8)) => ifB (ltI x.1 (lenI a.2.2.2)) (z6 (atI a.2.2.2 x.1) fun (z : Ent) =>
    zi maxR (fun (v : Int × List (List UInt8)) => ifB (ltI v.1 (lenI [z.1, z.2.1, z.2.2])) (z6 (atI [z.1, z.2.1, z.2.2] v.1) fun (y : Int) => z6 (Yl y) fun (t : List UInt8) => ifB (zg 16 v.2 [t]) (some (Sum.inl (wadd .i64 v.1 1, cat v.2 [t]))) none) (mapO Sum.inr (some (Sum.inl (wadd .i64 x.1 1, v.2))))) (0, x.2))
   (mapO Sum.inr (finT x.2))) (0, [[98, 97, 116, 99, 104]]))
  (ifB (eqI a.1 2) (rtS [a.2.1, a.2.2.1] (ifB (eqI a.1 2) [115, 101, 97, 108] (ifB (eqI a.1 3) [109, 101, 114, 103, 101] [])))
   (ifB (eqI a.1 3) (rtS [a.2.1, a.2.2.1] (ifB (eqI a.1 2) [115, 101, 97, 108] (ifB (eqI a.1 3) [109, 101, 114, 103, 101] []))) (rtS [a.2.2.1] [100, 114, 111, 112])))) := by kernel_rfl
theorem zmP {ns : List Int} {w : List UInt8} (hn : ∀ n ∈ ns, z9z n) (hl : ns.length ≤ 1000) (h : (jn 32 (w :: ns.map Lib.itoa)).length ≤ 100000) : rtS ns w = some (jn 32 (w :: ns.map Lib.itoa), 0) := by
 unfold rtS
 refine (zoA ns hn hl finT [w] (by simp)).trans ?_
 exact zoB (w := w) (r := ns.map Lib.itoa) h (by rw [List.length_map]; omega)
theorem zpJ (r : Rc) (hl : r.2.2.2.length < 4611686018427387904) : Yh r = some (z69 r) := by
 rw [zmO, z0w r hl, z7, zl]
 unfold z69
 by_cases hc : zA r = 0
 ·rw [if_pos hc, if_pos hc]
  have htl := z3P hc
  obtain ⟨a1, a2⟩ := zdl hc
  obtain ⟨k1, k2, k3, k4⟩ := Yj hc
  obtain ⟨k, i, n, l⟩ := r
  simp only at k1 k2 k3 k4 a1 a2 htl hl ⊢
  have hin : ∀ m ∈ Yu (k, i, n, l), z9z m := fun m hm => by have := a2 m hm; unfold z9z; omega
  unfold yv at htl ⊢
  rw [ze]
  by_cases c1 : k = 1
  ·subst c1
   have e1 : Yu (1, i, n, l) = yx l := rfl
   have e2 : kindW.getD (1 : Int).toNat [] = [98, 97, 116, 99, 104] := rfl
   rw [e1] at hin a1
   rw [e1, e2] at htl ⊢
   rw [if_pos rfl]
   have hl10 := z6a l
   have key := zP l (fun j (s : List (List UInt8)) => ((j : Int), s)) (f := fun (x : Int × List (List UInt8)) => ifB (ltI x.1 (lenI l)) (z6 (atI l x.1) fun (z : Ent) =>
     zi maxR (fun (v : Int × List (List UInt8)) => ifB (ltI v.1 (lenI [z.1, z.2.1, z.2.2])) (z6 (atI [z.1, z.2.1, z.2.2] v.1) fun (y : Int) => z6 (Yl y) fun (t : List UInt8) => ifB (zg 16 v.2 [t]) (some (Sum.inl (wadd .i64 v.1 1, cat v.2 [t]))) none) (mapO Sum.inr (some (Sum.inl (wadd .i64 x.1 1, v.2))))) (0, x.2))
    (mapO Sum.inr (finT x.2))) (G := fun rest s => finT (s ++ (yx rest).map Lib.itoa)) (P := fun j s => s.length ≤ 1 + 3 * j) (s0 := [[98, 97, 116, 99, 104]]) ?_ ?_ (by simp) (by omega)
   ·refine key.trans ?_
    exact zoB (w := [98, 97, 116, 99, 104]) (r := (yx l).map Lib.itoa) (by omega) (by rw [List.length_map]; omega)
   ·rintro j acc hj hp kk hk
    have hat := zO hj
    have hm : l.getD j default ∈ l := y9 hj
    have hz : ∀ m ∈ [(l.getD j default).1, (l.getD j default).2.1, (l.getD j default).2.2], z9z m := by
     have hsub : ∀ (l : List Ent) (z : Ent), z ∈ l → ∀ m ∈ [z.1, z.2.1, z.2.2], m ∈ yx l := by
      intro l z hz
      induction l with
      | nil => cases hz
      | cons x r ih =>
       intro m hm
       rw [yx]
       rcases List.mem_cons.1 hz with rfl | hz
       ·simp only [List.mem_cons, List.not_mem_nil, or_false] at hm
        rcases hm with rfl | rfl | rfl <;> simp
       ·have := ih hz m hm; simp [this]
     exact fun m hm' => hin m (hsub l _ hm m hm')
    generalize l.getD j default = z at *
    simp only at hp ⊢
    rw [za, zh, zb, if_pos (by omega), hat, z7]
    have := zoA [z.1, z.2.1, z.2.2] hz (by simp) (fun s => (some (Sum.inl (wadd .i64 (j : Int) 1, s)) : Option (Sum (Int × List (List UInt8)) (List UInt8 × Int)))) acc (by omega)
    rw [this, zt, zD (by omega), hk _ (by simp only [List.length_append, List.length_map, List.length_cons, List.length_nil]; omega), yx]
    simp only [List.map_cons, List.map_nil, List.append_assoc, List.cons_append, List.nil_append]
   ·rintro acc hp kk
    simp only
    rw [za, zd, zh, zb, if_neg (by omega)]
    simp [yx]
  ·rw [if_neg c1, ze]
   have : k = 2 ∨ k = 3 ∨ k = 4 := by omega
   rcases this with rfl | rfl | rfl
   ·rw [if_pos rfl]
    exact zmP (w := [115, 101, 97, 108]) hin (by simp) (by exact Nat.le_trans htl (by omega))
   ·rw [if_neg (by omega), ze, if_pos rfl]
    exact zmP (w := [109, 101, 114, 103, 101]) hin (by simp) (by exact Nat.le_trans htl (by omega))
   ·rw [if_neg (by omega), ze, if_neg (by omega)]
    exact zmP (w := [100, 114, 111, 112]) hin (by simp) (by exact Nat.le_trans htl (by omega))
 ·rw [if_neg hc, if_neg hc]
end Go.Proofs.Y
namespace Go.Proofs.Y
open Go.Rb Go.Kx
noncomputable def z2H : Code := zj Tryz.f73
noncomputable def z2I : FuncId → Option GS := tabG [(112, z1D), (87, Jr)]
theorem zaK : ΓOK Tryz.prog z2I := z8 (z6m) (z8 (VT) (zf))
def z2J : HT := ⟨tabL [], tabH []⟩
abbrev VH : List IT := [.v (.cons (.sl 5 (.one (.int .u8))) (.one (.sl 5 (.one (.int .u8))))) true, .v (.cons (.int .i64) (.cons (.int .i64) (.cons (.int .i64) (.one (.sl 77 (.cons (.int .i64) (.cons (.int .i64) (.one (.int .i64))))))))) true]
abbrev z2y : List OT := [⟨.cons (.sl 5 (.one (.int .u8))) (.one (.sl 5 (.one (.int .u8)))), true, []⟩, ⟨.one (.int .i64), false, []⟩]
set_option maxRecDepth 100000
noncomputable def y6 : List Int × List Int → Int × Int × Int × List (Int × Int × Int) → Option ((List Int × List Int) × Int) := fun a b => z6 (Yh (b.1, b.2.1, b.2.2.1, b.2.2.2)) fun y => ifB (neI y.2 0) (some (([], []), y.2)) (ifB (gtI (wadd .i64 (wadd .i64 (wadd .i64 (lenI a.1) (lenI a.2)) (lenI y.1)) 1) 60000) (some (([], []), 2)) (ifB (Jb y.1 [10]) (z6 (YJ [a.2, bytB (catS y.1 [10])]) fun y => some ((a.1, y), 0)) none))
theorem z87 (x : PI VH) : y6 (x.1) (x.2) = fnE T z2I z2J z2H (zo Tryz.f73) VH z2y x := by kernel_rfl
noncomputable abbrev z2K : GS := zq false VH z2y fun x => y6 (x.1) (x.2)
theorem z88 : GSOK Tryz.prog 73 z2K := zm tok zaK fmo (Ht := z2J) (fn := Tryz.f73) (Tryz.func73) (c := z2H) (by kernel_rfl) (by kernel_rfl) (by kernel_rfl) (by decide +kernel) (by decide) z87
end Go.Proofs.Y
namespace Go.Proofs.Y
open Go.Rb Go.Kx
noncomputable def z2z : Code := zj Tryz.f74
noncomputable def z2A : FuncId → Option GS := tabG [(87, Jr), (62, vP)]
theorem z9T : ΓOK Tryz.prog z2A := z8 (VT) (z8 (VW) (zf))
def z2B : HT := ⟨tabL [], tabH []⟩
abbrev Vv : List IT := [.v (.cons (.sl 5 (.one (.int .u8))) (.one (.sl 5 (.one (.int .u8))))) true]
abbrev z1E : List OT := [⟨.cons (.sl 5 (.one (.int .u8))) (.one (.sl 5 (.one (.int .u8)))), true, []⟩, ⟨.one (.int .i64), false, []⟩]
set_option maxRecDepth 100000
noncomputable def ZY : List Int × List Int → Option ((List Int × List Int) × Int) := fun a => z6 (YJ [a.1, a.2]) fun y => z6 (ya (y, [])) fun y_1 => ifB (neI y_1 0) (some (([], []), y_1)) (some ((y, []), 0))
theorem z6F (x : PI Vv) : ZY x = fnE T z2A z2B z2z (zo Tryz.f74) Vv z1E x := by kernel_rfl
noncomputable abbrev z2C : GS := zq false Vv z1E fun x => ZY x
theorem z6G : GSOK Tryz.prog 74 z2C := zm tok z9T fmo (Ht := z2B) (fn := Tryz.f74) (Tryz.func74) (c := z2z) (by kernel_rfl) (by kernel_rfl) (by kernel_rfl) (by decide +kernel) (by decide) z6F
end Go.Proofs.Y
namespace Go.Proofs.Y
open Go.Rb Go.Kx
noncomputable def z0D : Code := zj Tryz.f66
noncomputable def z0E : FuncId → Option GS := tabG [(99, ziV)]
theorem z89 : ΓOK Tryz.prog z0E := z8 (zmb) (zf)
def z0F : HT := ⟨tabL [], tabH []⟩
abbrev vR : List IT := [.v (.cons (.sl 5 (.one (.int .u8))) (.one (.sl 5 (.one (.int .u8))))) true, .v (.cons (.sl 5 (.one (.int .u8))) (.one (.sl 5 (.one (.int .u8))))) true]
abbrev JX : List OT := [⟨.one .bool, false, []⟩]
set_option maxRecDepth 100000
noncomputable def Y7 : List Int × List Int → List Int × List Int → Option Bool := fun a b => z6 (Vw a.1 b.1) fun y => ifB y (z6 (Vw a.2 b.2) fun y => some y) (some false)
theorem z54 (x : PI vR) : Y7 (x.1) (x.2) = fnE T z0E z0F z0D (zo Tryz.f66) vR JX x := by kernel_rfl
noncomputable abbrev z0G : GS := zq false vR JX fun x => Y7 (x.1) (x.2)
theorem z55 : GSOK Tryz.prog 66 z0G := zm tok z89 fmo (Ht := z0F) (fn := Tryz.f66) (Tryz.func66) (c := z0D) (by kernel_rfl) (by kernel_rfl) (by kernel_rfl) (by decide +kernel) (by decide) z54
end Go.Proofs.Y
namespace Go.Proofs.Y
open Go.Rb Go.Kx
theorem znJ (a b : List UInt8 × List UInt8) (h1 : a.1.length < 4611686018427387904) (h2 : a.2.length < 4611686018427387904) : Y7 (bytB a.1, bytB a.2) (bytB b.1, bytB b.2) = some (decide (a = b)) := by
 rw [← zsB a b h1 h2]; rfl
theorem zsM {d : List UInt8 × List UInt8} {r : Rc} (hc : zN d = 0) (hr : r.2.2.2.length < 4611686018427387904) : y6 (bytB d.1, bytB d.2) r = some (bD (dPut d r).1, (dPut d r).2) := by
 have hlen := Yw hc
 unfold y6 dPut
 refine (Zt (zpJ r hr) _).trans ?_
 unfold z69
 rw [if_pos hc]
 by_cases h : zA r = 0
 ·have htl := z3P h
  rw [if_pos h, if_pos h]
  simp only
  have w1 : wadd .i64 (d.1.length : Int) (d.2.length : Int) = d.1.length + d.2.length := ZM ⟨by omega, by omega⟩
  have w2 : wadd .i64 ((d.1.length : Int) + d.2.length) ((yv r).length : Int) = d.1.length + d.2.length + (yv r).length := ZM ⟨by omega, by omega⟩
  have w3 : wadd .i64 ((d.1.length : Int) + d.2.length + (yv r).length) 1 = d.1.length + d.2.length + (yv r).length + 1 := ZM ⟨by omega, by omega⟩
  rw [zl, if_pos rfl, zb, zb, zb, ZD, ZD, w1, w2, w3, zz]
  by_cases c : 60000 - (d.1.length : Int) - d.2.length < (yv r).length + 1
  ·rw [if_pos (by omega), if_pos c]; rfl
  ·have hl2 : (Yv r).length = (yv r).length + 1 := by simp [Yv]
   rw [if_neg (by omega), if_neg c, Z4, if_pos (by simp only [List.length_cons, List.length_nil]; omega)]
   refine (Zt (show YJ [bytB d.2, bytB (catS (yv r) [10])] = some (bytB (d.2 ++ Yv r)) from z0x d.2 (Yv r) (by omega)) _).trans ?_
   rfl
 ·rw [if_neg h, if_neg h]
  simp only
  rw [zl, if_neg h]; rfl
theorem zrn {d : List UInt8 × List UInt8} (hc : zN d = 0) : ZY (bytB d.1, bytB d.2) = some (bD (vI d).1, (vI d).2) := by
 have hlen := Yw hc
 unfold ZY vI
 rw [if_pos hc]
 refine (Zt (z0x d.1 d.2 hlen) _).trans ?_
 refine (Zt (show ya (bytB (d.1 ++ d.2), []) = some (zN (d.1 ++ d.2, [])) from zd2 (d.1 ++ d.2, []) (by simp only [List.length_append]; omega) (by simp)) _).trans ?_
 rw [zl]
 split
 ·rfl
 ·rfl
end Go.Proofs.Y
namespace Go.Proofs.Y
open Go.Rb Go.Kx
noncomputable def zmQ : Code := zj Tryz.f68
noncomputable def zmR : FuncId → Option GS := tabG []
theorem zsN : ΓOK Tryz.prog zmR := zf
def zmS : HT := ⟨tabL [], tabH []⟩
noncomputable def zmT : GS := inl T zmR zmS zmQ (zo Tryz.f68) (Tryz.f68.ntmps)
theorem znK : GSOK Tryz.prog 68 zmT := yR tok zsN fmo (Ht := zmS) (fn := Tryz.f68) (Tryz.func68) (c := zmQ) (by kernel_rfl) (by kernel_rfl) (by kernel_rfl)
end Go.Proofs.Y
namespace Go.Proofs.Y
open Go.Rb Go.Kx
noncomputable def z3U : Code := zj Tryz.f71
noncomputable def z3V : FuncId → Option GS := tabG []
theorem zd3 : ΓOK Tryz.prog z3V := zf
def z3W : HT := ⟨tabL [], tabH []⟩
abbrev j6 : List IT := []
abbrev z2L : List OT := [⟨.one (.sl 3 (.one (.int .i64))), false, [true]⟩]
set_option maxRecDepth 100000
noncomputable def ZZ : Option (List Int) := some [-1, -1, -1]
theorem z97 (x : PI j6) : ZZ  = fnE T z3V z3W z3U (zo Tryz.f71) j6 z2L x := by kernel_rfl
noncomputable abbrev z3X : GS := zq false j6 z2L fun x => ZZ 
theorem z98 : GSOK Tryz.prog 71 z3X := zm tok zd3 fmo (Ht := z3W) (fn := Tryz.f71) (Tryz.func71) (c := z3U) (by kernel_rfl) (by kernel_rfl) (by kernel_rfl) (by decide +kernel) (by decide) z97
end Go.Proofs.Y
namespace Go.Proofs.Y
open Go.Rb Go.Kx
noncomputable def z0H : Code := zj Tryz.f21
noncomputable def z0I : FuncId → Option GS := tabG [(68, zmT), (64, y0), (69, zf6), (55, vQ), (70, jV), (71, z3X), (56, Vo), (72, z2c), (73, z2K), (74, z2C)]
theorem z8a : ΓOK Tryz.prog z0I := z8 (znK) (z8 (ZO) (z8 (zep) (z8 (VX) (z8 (z3L) (z8 (z98) (z8 (jL) (z8 (z6x) (z8 (z88) (z8 (z6G) (zf))))))))))
def z0J : HT := ⟨tabL [], tabH []⟩
abbrev vS : List IT := [.v (.cons (.sl 95 (.cons (.sl 126 (.cons (.int .i64) (.cons (.int .i64) (.cons (.int .i64) (.one (.sl 4 (.one .bool))))))) (.one (.sl 73 (.cons (.int .i64) (.one (.int .i64))))))) (.cons (.sl 5 (.one (.int .u8))) (.cons (.sl 5 (.one (.int .u8))) (.cons (.bool) (.one (.sl 3 (.one (.int .i64)))))))) true, .v (.cons (.int .i64) (.cons (.int .i64) (.cons (.int .i64) (.one (.sl 77 (.cons (.int .i64) (.cons (.int .i64) (.one (.int .i64))))))))) true]
abbrev JY : List OT := [⟨.cons (.sl 95 (.cons (.sl 126 (.cons (.int .i64) (.cons (.int .i64) (.cons (.int .i64) (.one (.sl 4 (.one .bool))))))) (.one (.sl 73 (.cons (.int .i64) (.one (.int .i64))))))) (.cons (.sl 5 (.one (.int .u8))) (.cons (.sl 5 (.one (.int .u8))) (.cons (.bool) (.one (.sl 3 (.one (.int .i64))))))), true, []⟩, ⟨.one (.int .i64), false, []⟩]
set_option maxRecDepth 100000
noncomputable def yg : List (List (Int × Int × Int × List Bool) × List (Int × Int)) × List Int × List Int × Bool × List Int → Int × Int × Int × List (Int × Int × Int) → Option ((List (List (Int × Int × Int × List Bool) × List (Int × Int)) × List Int × List Int × Bool × List Int) × Int) := fun a b => z6 (zk b.1 1 9) fun y => ifB (notB y) (some (([], [], [], false, []), 4)) (ifB (notB (eqB a.2.2.2.1 (neI b.1 8))) (some (([], [], [], false, []), 7)) (z6 (z3h a.2.2.2.2) fun y => z6 (ZC (a.2.1, a.2.2.1)) fun y_1 => ifB (eqI b.1 5) (z6 (zk b.2.2.1 0 2) fun y_2 => ifB (notB y_2) (some (([], [], [], false, []), 5)) (ifB (ltL b.2.2.1 y) (z6 (atN y (natI b.2.2.1)) fun y_3 => ifB (eqI b.1 5) (ifB (ltL b.2.2.1 (setN y (natI b.2.2.1) (-1))) (z6 (atN (setN y (natI b.2.2.1) (-1)) (natI b.2.2.1)) fun y_4 => some ((a.1, a.2.1, a.2.2.1, a.2.2.2.1, setN (setN y (natI b.2.2.1) (-1)) (natI b.2.2.1) (lenI y_1.2)), 0)) none) (some ((a.1, a.2.1, a.2.2.1, a.2.2.2.1, setN y (natI b.2.2.1) (-1)), 0))) none)) (ifB (eqI b.1 6) (z6 (zk b.2.2.1 0 2) fun y_2 => ifB (notB y_2) (some (([], [], [], false, []), 5)) (ifB (ltL b.2.2.1 y) (z6 (atN y (natI b.2.2.1)) fun y_3 => ifB (eqI b.1 5) (ifB (ltL b.2.2.1 (setN y (natI b.2.2.1) (-1))) (z6 (atN (setN y (natI b.2.2.1) (-1)) (natI b.2.2.1)) fun y_4 => some ((a.1, a.2.1, a.2.2.1, a.2.2.2.1, setN (setN y (natI b.2.2.1) (-1)) (natI b.2.2.1) (lenI y_1.2)), 0)) none) (some ((a.1, a.2.1, a.2.2.1, a.2.2.2.1, setN y (natI b.2.2.1) (-1)), 0))) none)) (ifB (eqI b.1 7) (z6 Z5 fun y => z6 ZZ fun y_2 => some ((y, a.2.1, a.2.2.1, false, y_2), 0)) (ifB (eqI b.1 8) (z6 (ZC (a.2.1, a.2.2.1)) fun y_2 => z6 (ZJ y_2.2) fun y_3 => ifB (neI y_3.2 0) (some (([], [], [], false, []), y_3.2)) (some ((y_3.1, y_2.1.1, y_2.1.2, true, y), 0))) (ifB (eqI b.1 2) (z6 (ZW a.1 (2, b.2.1, b.2.2.1, [])) fun y_2 => ifB (neI y_2.2 0) (some (([], [], [], false, []), y_2.2)) (z6 (y6 (a.2.1, a.2.2.1) (2, b.2.1, b.2.2.1, [])) fun y_3 => ifB (neI y_3.2 0) (some (([], [], [], false, []), y_3.2)) (ifB (eqI b.1 9) (ifB (in1 y_3.1.2 (maxI 0 (minI b.2.2.1 (lenI y_3.1.2)))) (z6 Z5 fun y => z6 ZZ fun y_4 => some ((y, y_3.1.1, YB y_3.1.2 (maxI 0 (minI b.2.2.1 (lenI y_3.1.2))), false, y_4), 0)) none) (z6 (ZY (y_3.1.1, y_3.1.2)) fun y_4 => ifB (neI y_4.2 0) (some (([], [], [], false, []), y_4.2)) (some ((y_2.1, y_4.1.1, y_4.1.2, a.2.2.2.1, y), 0)))))) (ifB (eqI b.1 3) (z6 (ZW a.1 (3, b.2.1, b.2.2.1, [])) fun y_2 => ifB (neI y_2.2 0) (some (([], [], [], false, []), y_2.2)) (z6 (y6 (a.2.1, a.2.2.1) (3, b.2.1, b.2.2.1, [])) fun y_3 => ifB (neI y_3.2 0) (some (([], [], [], false, []), y_3.2)) (ifB (eqI b.1 9) (ifB (in1 y_3.1.2 (maxI 0 (minI b.2.2.1 (lenI y_3.1.2)))) (z6 Z5 fun y => z6 ZZ fun y_4 => some ((y, y_3.1.1, YB y_3.1.2 (maxI 0 (minI b.2.2.1 (lenI y_3.1.2))), false, y_4), 0)) none) (z6 (ZY (y_3.1.1, y_3.1.2)) fun y_4 => ifB (neI y_4.2 0) (some (([], [], [], false, []), y_4.2)) (some ((y_2.1, y_4.1.1, y_4.1.2, a.2.2.2.1, y), 0)))))) (ifB (eqI b.1 4) (z6 (ZW a.1 (4, 0, b.2.2.1, [])) fun y_2 => ifB (neI y_2.2 0) (some (([], [], [], false, []), y_2.2)) (z6 (y6 (a.2.1, a.2.2.1) (4, 0, b.2.2.1, [])) fun y_3 => ifB (neI y_3.2 0) (some (([], [], [], false, []), y_3.2)) (ifB (eqI b.1 9) (ifB (in1 y_3.1.2 (maxI 0 (minI b.2.2.1 (lenI y_3.1.2)))) (z6 Z5 fun y => z6 ZZ fun y_4 => some ((y, y_3.1.1, YB y_3.1.2 (maxI 0 (minI b.2.2.1 (lenI y_3.1.2))), false, y_4), 0)) none) (z6 (ZY (y_3.1.1, y_3.1.2)) fun y_4 => ifB (neI y_4.2 0) (some (([], [], [], false, []), y_4.2)) (some ((y_2.1, y_4.1.1, y_4.1.2, a.2.2.2.1, y), 0)))))) (z6 (ZW a.1 (1, 0, 0, b.2.2.2)) fun y_2 => ifB (neI y_2.2 0) (some (([], [], [], false, []), y_2.2)) (z6 (y6 (a.2.1, a.2.2.1) (1, 0, 0, b.2.2.2)) fun y_3 => ifB (neI y_3.2 0) (some (([], [], [], false, []), y_3.2)) (ifB (eqI b.1 9) (ifB (in1 y_3.1.2 (maxI 0 (minI b.2.2.1 (lenI y_3.1.2)))) (z6 Z5 fun y => z6 ZZ fun y_4 => some ((y, y_3.1.1, YB y_3.1.2 (maxI 0 (minI b.2.2.1 (lenI y_3.1.2))), false, y_4), 0)) none) (z6 (ZY (y_3.1.1, y_3.1.2)) fun y_4 => ifB (neI y_4.2 0) (some (([], [], [], false, []), y_4.2)) (some ((y_2.1, y_4.1.1, y_4.1.2, a.2.2.2.1, y), 0))))))))))))))
theorem z56 (x : PI vS) : yg (x.1) (x.2) = fnE T z0I z0J z0H (zo Tryz.f21) vS JY x := by kernel_rfl
noncomputable abbrev z0K : GS := zq false vS JY fun x => yg (x.1) (x.2)
theorem z57 : GSOK Tryz.prog 21 z0K := zm tok z8a fmo (Ht := z0J) (fn := Tryz.f21) (Tryz.func21) (c := z0H) (by kernel_rfl) (by kernel_rfl) (by kernel_rfl) (by decide +kernel) (by decide) z56
end Go.Proofs.Y
namespace Go.Proofs.Y
open Go.Rb Go.Kx
noncomputable def JZ : Code := zj Tryz.f20
noncomputable def z00 : FuncId → Option GS := tabG [(63, vO), (66, z0G), (67, zmH)]
theorem z6H : ΓOK Tryz.prog z00 := z8 (VQ) (z8 (z55) (z8 (znF) (zf)))
def z01 : HT := ⟨tabL [], tabH []⟩
abbrev vF : List IT := [.v (.cons (.sl 95 (.cons (.sl 126 (.cons (.int .i64) (.cons (.int .i64) (.cons (.int .i64) (.one (.sl 4 (.one .bool))))))) (.one (.sl 73 (.cons (.int .i64) (.one (.int .i64))))))) (.cons (.sl 5 (.one (.int .u8))) (.cons (.sl 5 (.one (.int .u8))) (.cons (.bool) (.one (.sl 3 (.one (.int .i64)))))))) true, .v (.cons (.sl 95 (.cons (.sl 126 (.cons (.int .i64) (.cons (.int .i64) (.cons (.int .i64) (.one (.sl 4 (.one .bool))))))) (.one (.sl 73 (.cons (.int .i64) (.one (.int .i64))))))) (.cons (.sl 5 (.one (.int .u8))) (.cons (.sl 5 (.one (.int .u8))) (.cons (.bool) (.one (.sl 3 (.one (.int .i64)))))))) true]
abbrev J8 : List OT := [⟨.one .bool, false, []⟩]
set_option maxRecDepth 100000
noncomputable def zJ : List (List (Int × Int × Int × List Bool) × List (Int × Int)) × List Int × List Int × Bool × List Int → List (List (Int × Int × Int × List Bool) × List (Int × Int)) × List Int × List Int × Bool × List Int → Option Bool := fun a b => ifB (eqB a.2.2.2.1 b.2.2.2.1) (z6 (Zj a.1 b.1) fun y => ifB y (z6 (Y7 (a.2.1, a.2.2.1) (b.2.1, b.2.2.1)) fun y => ifB y (z6 (z3i a.2.2.2.2 b.2.2.2.2) fun y => some y) (some false)) (some false)) (some false)
theorem z4r (x : PI vF) : zJ (x.1) (x.2) = fnE T z00 z01 JZ (zo Tryz.f20) vF J8 x := by kernel_rfl
noncomputable abbrev z02 : GS := zq false vF J8 fun x => zJ (x.1) (x.2)
theorem z4s : GSOK Tryz.prog 20 z02 := zm tok z6H fmo (Ht := z01) (fn := Tryz.f20) (Tryz.func20) (c := JZ) (by kernel_rfl) (by kernel_rfl) (by kernel_rfl) (by decide +kernel) (by decide) z4r
end Go.Proofs.Y
namespace Go.Proofs.Y
open Go.Rb Go.Kx
set_option maxRecDepth 100000
end Go.Proofs.Y
namespace Go.Proofs.Y
open Go.Rb Go.Kx
noncomputable def wrQ (a : Wv) (rd : List Int) (k n : Int) (r : Rc) : Option (Wv × Int) :=
 z6 (ZW a.1 r) fun (s : Shf × Int) => ifB (neI s.2 0) (some (zW, s.2)) (z6 (y6 (a.2.1, a.2.2.1) r) fun (d : (List Int × List Int) × Int) => ifB (neI d.2 0) (some (zW, d.2))
  (ifB (eqI k 9) (ifB (in1 d.1.2 (maxI 0 (minI n (lenI d.1.2)))) (z6 Z5 fun (f : Shf) => z6 ZZ fun (c : List Int) => some ((f, d.1.1, YB d.1.2 (maxI 0 (minI n (lenI d.1.2))), false, c), 0)) none)
   (z6 (ZY (d.1.1, d.1.2)) fun (e : (List Int × List Int) × Int) => ifB (neI e.2 0) (some (zW, e.2)) (some ((s.1, e.1.1, e.1.2, a.2.2.2.1, rd), 0)))))
noncomputable def opQ (a : Wv) (rd : List Int) (recs : List Rc) (k n : Int) : Option (Wv × Int) :=
 z6 (zk n 0 2) fun (t : Bool) => ifB (notB t) (some (zW, 5)) (ifB (ltL n rd) (z6 (atN rd (natI n)) fun (_ : Int) => ifB (eqI k 5)
  (ifB (ltL n (setN rd (natI n) (-1))) (z6 (atN (setN rd (natI n) (-1)) (natI n)) fun (_ : Int) => some ((a.1, a.2.1, a.2.2.1, a.2.2.2.1, setN (setN rd (natI n) (-1)) (natI n) (lenI recs)), 0)) none)
  (some ((a.1, a.2.1, a.2.2.1, a.2.2.2.1, setN rd (natI n) (-1)), 0))) none)
theorem zjS (a : Wv) (b : Hp) : yg a b = z6 (zk b.1 1 9) fun (t : Bool) => ifB (notB t) (some (zW, 4)) (ifB (notB (eqB a.2.2.2.1 (neI b.1 8))) (some (zW, 7))
  (z6 (z3h a.2.2.2.2) fun (rd : List Int) => z6 (ZC (a.2.1, a.2.2.1)) fun (q : (List Int × List Int) × List Rc) =>
   ifB (eqI b.1 5) (opQ a rd q.2 b.1 b.2.2.1) (ifB (eqI b.1 6) (opQ a rd q.2 b.1 b.2.2.1)
   (ifB (eqI b.1 7) (z6 Z5 fun (f : Shf) => z6 ZZ fun (c : List Int) => some ((f, a.2.1, a.2.2.1, false, c), 0))
   (ifB (eqI b.1 8) (z6 (ZC (a.2.1, a.2.2.1)) fun (q : (List Int × List Int) × List Rc) => z6 (ZJ q.2) fun (s : Shf × Int) => ifB (neI s.2 0) (some (zW, s.2)) (some ((s.1, q.1.1, q.1.2, true, rd), 0)))
   (ifB (eqI b.1 2) (wrQ a rd b.1 b.2.2.1 (2, b.2.1, b.2.2.1, [])) (ifB (eqI b.1 3) (wrQ a rd b.1 b.2.2.1 (3, b.2.1, b.2.2.1, [])) (ifB (eqI b.1 4) (wrQ a rd b.1 b.2.2.1 (4, 0, b.2.2.1, [])) (wrQ a rd b.1 b.2.2.1 (1, 0, 0, b.2.2.2)))))))))) := by kernel_rfl
theorem zjo : Z5 = some yC := by
 unfold Z5
 rw [Z3, if_pos (by decide)]; rfl
theorem zoC : ZZ = some [-1, -1, -1] := rfl
theorem zro {s t : List UInt8} (h : (lnP 60 s).2.2 = 0) (hl : s.length + t.length ≤ 60000) : zN (s, t) = 0 := by
 unfold zN
 rw [if_neg (by simp only; omega), if_neg (by simp only; omega)]
 exact h
def ansP (w : Wd) (q : Wd × Int) : Wv × Int := if q.2 = 0 then (wvd q.1, 0) else (zW, q.2)
theorem z5i (w v : Wd) : ansP w (v, 0) = (wvd v, 0) := by unfold ansP; rw [if_pos rfl]
theorem z3j (w v : Wd) {e : Int} (h : ¬ e = 0) : ansP w (v, e) = (zW, e) := by unfold ansP; rw [if_neg h]
theorem zd4 {w : Wd} (hs : okS w.1) (hc : zN w.2.1 = 0) (k n : Int) {r : Rc} (hr : r.2.2.2.length < 4611686018427387904) : wrQ (wvd w) w.2.2.2 k n r = some (ansP w (wrP w (decide (k = 9)) n r)) := by
 unfold wrQ
 refine (Zt (zqQ w.1 r hs hr) _).trans ?_
 rw [zl]
 by_cases c1 : (ZN w.1 r).2 = 0
 ·rw [if_pos c1]
  refine (Zt (zsM hc hr) _).trans ?_
  simp only
  rw [zl]
  by_cases c2 : (dPut w.2.1 r).2 = 0
  ·obtain ⟨hcr, hp⟩ := zhO c2
   have hpl := zf8 c2
   have hsafe := z3w (s := w.2.1.1) (w := w.2.1.2) hc
   have hcd : zN (dPut w.2.1 r).1 = 0 := by
    rw [hp] at hpl ⊢
    exact zro hsafe hpl
   rw [if_pos c2, ze]
   by_cases c9 : k = 9
   ·have hm : (maxI 0 (minI n (lenI (bD (dPut w.2.1 r).1).2)) : Int) = max 0 (min n ((dPut w.2.1 r).1.2.length : Int)) := by
     rw [zb]
     show max 0 (min n ((bytB (dPut w.2.1 r).1.2).length : Int)) = _
     rw [ZD]
    have e : wrP w (decide (k = 9)) n r = ((yC, ((dPut w.2.1 r).1.1, (dPut w.2.1 r).1.2.take (max 0 (min n ((dPut w.2.1 r).1.2.length : Int))).toNat), false, [-1, -1, -1]), 0) := by
     have hcrash : vA (dPut w.2.1 r).1 (max 0 (min n ((dPut w.2.1 r).1.2.length : Int))) = (((dPut w.2.1 r).1.1, (dPut w.2.1 r).1.2.take (max 0 (min n ((dPut w.2.1 r).1.2.length : Int))).toNat), 0) := by
      unfold vA
      rw [if_pos hcd, if_neg (by omega)]
     unfold wrP
     rw [if_pos c1, if_pos c2, if_pos (decide_eq_true c9), hcrash, if_pos rfl]
    rw [if_pos c9, e, z5i, hm, zI, if_pos ⟨by omega, by show _ ≤ ((bytB (dPut w.2.1 r).1.2).length : Int); rw [ZD]; omega⟩, zjo, z7, zoC, z7, zU]
    show some ((yC, bytB (dPut w.2.1 r).1.1, (bytB (dPut w.2.1 r).1.2).take _, false, [-1, -1, -1]), 0) = _
    rw [z7w]; rfl
   ·have hd9 : ¬ decide (k = 9) = true := by simpa using c9
    rw [if_neg c9]
    refine (Zt (zrn hcd) _).trans ?_
    simp only
    rw [zl]
    by_cases c3 : (vI (dPut w.2.1 r).1).2 = 0
    ·have e : wrP w (decide (k = 9)) n r = (((ZN w.1 r).1, (vI (dPut w.2.1 r).1).1, w.2.2.1, w.2.2.2), 0) := by
      unfold wrP
      rw [if_pos c1, if_pos c2, if_neg hd9, if_pos c3]
     rw [if_pos c3, e, z5i]; rfl
    ·have e : wrP w (decide (k = 9)) n r = (w, (vI (dPut w.2.1 r).1).2) := by
      unfold wrP
      rw [if_pos c1, if_pos c2, if_neg hd9, if_neg c3]
     rw [if_neg c3, e, z3j w w c3]
  ·have e : wrP w (decide (k = 9)) n r = (w, (dPut w.2.1 r).2) := by
    unfold wrP
    rw [if_pos c1, if_neg c2]
   rw [if_neg c2, e, z3j w w c2]
 ·have e : wrP w (decide (k = 9)) n r = (w, (ZN w.1 r).2) := by
   unfold wrP
   rw [if_neg c1]
  rw [if_neg c1, e, z3j w w c1]
theorem zrp {w : Wd} (h3 : w.2.2.2.length = 3) (hr : (zp w.2.1).2.2 = 0) (k n : Int) (hk : k = 5 ∨ k = 6) : opQ (wvd w) w.2.2.2 (zp w.2.1).2.1 k n = some (ansP w (opP w (decide (k = 6)) n)) := by
 unfold opQ
 rw [jm, z7, zC, zQ]
 by_cases c : 0 ≤ n ∧ n ≤ 2
 ·obtain ⟨m, rfl⟩ : ∃ m : Nat, n = m := ⟨n.toNat, by omega⟩
  have hat : atN w.2.2.2 m = some (w.2.2.2.getD m default) := yu (by omega)
  have hat2 : atN (w.2.2.2.set m (-1)) m = some ((w.2.2.2.set m (-1)).getD m default) := yu (by rw [List.length_set]; omega)
  have n0 : ¬ ((m : Nat) : Int) < 0 := by omega
  have n1 : ¬ (w.2.2.2.length : Int) ≤ m := by omega
  rw [if_pos c, zH, if_pos ⟨by omega, by omega⟩, zM, Int.toNat_natCast, hat, z7, ze, Zi, Zi]
  rcases hk with rfl | rfl
  ·have e : opP w (decide ((5 : Int) = 6)) (m : Int) = ((w.1, w.2.1, w.2.2.1, w.2.2.2.set m ((zp w.2.1).2.1.length : Int)), 0) := by
    unfold opP
    rw [if_neg n0, if_neg n1, if_neg (by simp), if_pos hr, Int.toNat_natCast]
   rw [if_pos rfl, zH, if_pos ⟨by omega, by rw [List.length_set]; omega⟩, hat2, z7, e, z5i, zb, List.set_set]; rfl
  ·have e : opP w (decide ((6 : Int) = 6)) (m : Int) = ((w.1, w.2.1, w.2.2.1, w.2.2.2.set m (-1)), 0) := by
    unfold opP
    rw [if_neg n0, if_neg n1, if_pos (by simp), Int.toNat_natCast]
   rw [if_neg (show ¬ (6 : Int) = 5 by omega), e, z5i]; rfl
 ·have e : opP w (decide (k = 6)) n = (w, 5) := by
   unfold opP
   by_cases c0 : n < 0
   ·rw [if_pos c0]
   ·rw [if_neg c0, if_pos (show (w.2.2.2.length : Int) ≤ n by omega)]
  rw [if_neg c, e, z3j w w (by omega)]
theorem znL {w : Wd} (h : okc w = 0) {x : Hp} (hx : x.2.2.2.length < 4611686018427387904) : yg (wvd w) x = some (ansP w (hapP w x)) := by
 obtain ⟨⟨o1, _, o3⟩, o4, _⟩ := Vx h
 have hs := z0v o1
 have hc := (VU o4).1
 obtain ⟨b1, b2, b3⟩ := VV hc
 rw [zjS, jm, z7, zC, zQ]
 by_cases c0 : 1 ≤ x.1 ∧ x.1 ≤ 9
 ·have e8 : eqB w.2.2.1 (neI x.1 8) = !decide (w.2.2.1 = decide (x.1 = 8)) := by
   by_cases q : x.1 = 8 <;> cases hu : w.2.2.1 <;> simp [eqB, neI, q]
  have hg0 : hapP w x = if w.2.2.1 = decide (x.1 = 8) then (w, 7) else if x.1 = 5 then opP w false x.2.2.1 else if x.1 = 6 then opP w true x.2.2.1 else
    if x.1 = 7 then ((yC, w.2.1, false, [-1, -1, -1]), 0) else if x.1 = 8 then zdo w else
    if x.1 = 1 then wrP w false x.2.2.1 (1, 0, 0, x.2.2.2) else if x.1 = 9 then wrP w true x.2.2.1 (1, 0, 0, x.2.2.2) else
    if x.1 = 4 then wrP w false 0 (4, 0, x.2.2.1, []) else wrP w false 0 (x.1, x.2.1, x.2.2.1, []) := by
   unfold hapP
   rw [if_neg (show ¬ x.1 < 1 by omega), if_neg (show ¬ 9 < x.1 by omega)]
  have wrF : ∀ n m : Int, ∀ r : Rc, wrP w false n r = wrP w false m r := fun n m r => by unfold wrP; simp only [if_neg (show ¬ false = true by decide)]
  rw [if_pos c0, hg0]
  show ifB (notB (eqB w.2.2.1 (neI x.1 8))) _ _ = _
  rw [e8]
  simp only [notB, Bool.not_not]
  rw [zQ]
  by_cases c7 : w.2.2.1 = decide (x.1 = 8)
  ·rw [if_pos c7, if_pos c7, z3j w w (by omega)]
  rw [if_neg c7, if_neg c7]
  refine (Zt (zje (a := w.2.2.2) (by omega)) _).trans ?_
  refine (Zt (z6k hc) _).trans ?_
  simp only
  rw [ze, ze, ze, ze, ze, ze, ze]
  by_cases k5 : x.1 = 5
  ·rw [if_pos k5, if_pos k5, k5]
   exact zrp o3 o4 5 x.2.2.1 (.inl rfl)
  rw [if_neg k5, if_neg k5]
  by_cases k6 : x.1 = 6
  ·rw [if_pos k6, if_pos k6, k6]
   exact zrp o3 o4 6 x.2.2.1 (.inr rfl)
  rw [if_neg k6, if_neg k6]
  by_cases k7 : x.1 = 7
  ·rw [if_pos k7, if_pos k7, zjo, z7, zoC, z7, z5i]; rfl
  rw [if_neg k7, if_neg k7]
  by_cases k8 : x.1 = 8
  ·rw [if_pos k8, if_pos k8]
   refine (Zt (z6k hc) _).trans ?_
   simp only
   refine (Zt (zgp (zp w.2.1).2.1 (by omega) (fun r hr => z3Q (b3 r hr))) _).trans ?_
   rw [zl]
   unfold zdo
   rw [if_pos o4]
   by_cases c5 : (zF (zp w.2.1).2.1).2 = 0
   ·rw [if_pos c5, if_pos c5, z5i]; rfl
   ·rw [if_neg c5, if_neg c5, z3j w w c5]
  rw [if_neg k8, if_neg k8]
  by_cases k2 : x.1 = 2
  ·rw [if_pos k2, if_neg (show ¬ x.1 = 1 by omega), if_neg (show ¬ x.1 = 9 by omega), if_neg (show ¬ x.1 = 4 by omega)]
   refine (zd4 hs hc x.1 x.2.2.1 (r := (2, x.2.1, x.2.2.1, [])) (by simp)).trans ?_
   rw [decide_eq_false (show ¬ x.1 = 9 by omega), k2, wrF x.2.2.1 0]
  rw [if_neg k2]
  by_cases k3 : x.1 = 3
  ·rw [if_pos k3, if_neg (show ¬ x.1 = 1 by omega), if_neg (show ¬ x.1 = 9 by omega), if_neg (show ¬ x.1 = 4 by omega)]
   refine (zd4 hs hc x.1 x.2.2.1 (r := (3, x.2.1, x.2.2.1, [])) (by simp)).trans ?_
   rw [decide_eq_false (show ¬ x.1 = 9 by omega), k3, wrF x.2.2.1 0]
  rw [if_neg k3]
  by_cases k4 : x.1 = 4
  ·rw [if_pos k4, if_neg (show ¬ x.1 = 1 by omega), if_neg (show ¬ x.1 = 9 by omega), if_pos k4]
   refine (zd4 hs hc x.1 x.2.2.1 (r := (4, 0, x.2.2.1, [])) (by simp)).trans ?_
   rw [decide_eq_false (show ¬ x.1 = 9 by omega), wrF x.2.2.1 0]
  rw [if_neg k4]
  by_cases k1 : x.1 = 1
  ·rw [if_pos k1]
   refine (zd4 hs hc x.1 x.2.2.1 (r := (1, 0, 0, x.2.2.2)) hx).trans ?_
   rw [decide_eq_false (show ¬ x.1 = 9 by omega)]
  rw [if_neg k1]
  have k9 : x.1 = 9 := by omega
  rw [if_pos k9]
  refine (zd4 hs hc x.1 x.2.2.1 (r := (1, 0, 0, x.2.2.2)) hx).trans ?_
  rw [decide_eq_true k9]
 ·have e : hapP w x = (w, 4) := by
   unfold hapP
   by_cases q : x.1 < 1
   ·rw [if_pos q]
   ·rw [if_neg q, if_pos (show 9 < x.1 by omega)]
  rw [if_neg c0, e, z3j w w (by omega)]
end Go.Proofs.Y
namespace Go.Proofs.Y
open Go.Rb Go.Kx
set_option maxRecDepth 100000
end Go.Proofs.Y
namespace Go.Proofs.Y
open Go.Rb Go.Kx
noncomputable def z03 : Code := zj Tryz.f3
noncomputable def z04 : FuncId → Option GS := tabG [(17, z84), (18, J7), (19, z1r), (20, z02), (21, z0K), (22, zcZ)]
theorem z6I : ΓOK Tryz.prog z04 := z8 (z90) (z8 (z3T) (z8 (z6f) (z8 (z4s) (z8 (z57) (z8 (zd0) (zf))))))
def z05 : HT := ⟨tabL [(9, .it [] (dyn [.a 9 33 (.one (.int .i64)), .t 54 (.int .i64), .c 2 0 (.sl 95 (.cons (.sl 126 (.cons (.int .i64) (.cons (.int .i64) (.cons (.int .i64) (.one (.sl 4 (.one .bool))))))) (.one (.sl 73 (.cons (.int .i64) (.one (.int .i64))))))), .c 2 1 (.sl 5 (.one (.int .u8))), .c 2 2 (.sl 5 (.one (.int .u8))), .c 2 3 (.bool), .c 2 4 (.sl 3 (.one (.int .i64)))]))], tabH []⟩
abbrev vG : List IT := [.v (.cons (.sl 95 (.cons (.sl 126 (.cons (.int .i64) (.cons (.int .i64) (.cons (.int .i64) (.one (.sl 4 (.one .bool))))))) (.one (.sl 73 (.cons (.int .i64) (.one (.int .i64))))))) (.cons (.sl 5 (.one (.int .u8))) (.cons (.sl 5 (.one (.int .u8))) (.cons (.bool) (.one (.sl 3 (.one (.int .i64)))))))) true, .v (.one (.sl 41 (.cons (.int .i64) (.cons (.int .i64) (.cons (.int .i64) (.one (.sl 77 (.cons (.int .i64) (.cons (.int .i64) (.one (.int .i64))))))))))) false]
abbrev J9 : List OT := [⟨.one .bool, false, []⟩]
set_option maxRecDepth 100000
noncomputable def yU : List (List (Int × Int × Int × List Bool) × List (Int × Int)) × List Int × List Int × Bool × List Int → List (Int × Int × Int × List (Int × Int × Int)) → Option Bool := fun a b => z6 (YL (a.1, a.2.1, a.2.2.1, a.2.2.2.1, a.2.2.2.2) b) fun y => z6 (yK (a.1, a.2.1, a.2.2.1, a.2.2.2.1, a.2.2.2.2)) fun y_1 => ifB (eqI y_1 0) (ifB (gtI (lenI b) 100) (z6 Z0 fun y_2 => ifB (notB y_2) (z6 Z0 fun y_3 => ifB y_3 (ifB (eqI y.2.2 2) (ifB (eqI (lenI y.2.1) 0) (z6 (zJ (y.1.1, y.1.2.1, y.1.2.2.1, y.1.2.2.2.1, y.1.2.2.2.2) ([], [], [], false, [])) fun y => some y) (some false)) (some false)) (some false)) (z6 Z0 fun y_3 => ifB y_3 (ifB (eqI y.2.2 2) (ifB (eqI (lenI y.2.1) 0) (z6 (zJ (y.1.1, y.1.2.1, y.1.2.2.1, y.1.2.2.2.1, y.1.2.2.2.2) ([], [], [], false, [])) fun y => some y) (some false)) (some false)) (some false))) (z6 Z0 fun y_2 => ifB (notB y_2) (z6 Z0 fun y_3 => ifB y_3 (ifB (eqI y.2.2 y_1) (ifB (eqI (lenI y.2.1) 0) (z6 (zJ (y.1.1, y.1.2.1, y.1.2.2.1, y.1.2.2.2.1, y.1.2.2.2.2) ([], [], [], false, [])) fun y => some y) (some false)) (some false)) (some false)) (ifB (neI y_1 0) (z6 Z0 fun y_3 => ifB y_3 (ifB (eqI y.2.2 y_1) (ifB (eqI (lenI y.2.1) 0) (z6 (zJ (y.1.1, y.1.2.1, y.1.2.2.1, y.1.2.2.2.1, y.1.2.2.2.2) ([], [], [], false, [])) fun y => some y) (some false)) (some false)) (some false)) (zi maxR (fun (x : Int × List (List (Int × Int × Int × List Bool) × List (Int × Int)) × List Int × List Int × Bool × List Int × List Int) => ifB (ltI x.1 (lenI b)) (z6 (atI b x.1) fun y => z6 (yg (x.2.1, x.2.2.1, x.2.2.2.1, x.2.2.2.2.1, x.2.2.2.2.2.1) (y.1, y.2.1, y.2.2.1, y.2.2.2)) fun y => ifB (eqI y.2 0) (ifB (zg 8 x.2.2.2.2.2.2 [y.2]) (some (Sum.inl (wadd .i64 x.1 1, y.1.1, y.1.2.1, y.1.2.2.1, y.1.2.2.2.1, y.1.2.2.2.2, cat x.2.2.2.2.2.2 [y.2]))) none) (ifB (zg 8 x.2.2.2.2.2.2 [y.2]) (some (Sum.inl (wadd .i64 x.1 1, x.2.1, x.2.2.1, x.2.2.2.1, x.2.2.2.2.1, x.2.2.2.2.2.1, cat x.2.2.2.2.2.2 [y.2]))) none)) (mapO Sum.inr (ifB (eqI y.2.2 0) (z6 (V1 y.2.1 x.2.2.2.2.2.2) fun y_3 => ifB y_3 (z6 (zJ (y.1.1, y.1.2.1, y.1.2.2.1, y.1.2.2.2.1, y.1.2.2.2.2) (x.2.1, x.2.2.1, x.2.2.2.1, x.2.2.2.2.1, x.2.2.2.2.2.1)) fun y => some y) (some false)) (some false)))) (0, a.1, a.2.1, a.2.2.1, a.2.2.2.1, a.2.2.2.2, []))))) (z6 Z0 fun y_2 => ifB (notB y_2) (z6 Z0 fun y_3 => ifB y_3 (ifB (eqI y.2.2 y_1) (ifB (eqI (lenI y.2.1) 0) (z6 (zJ (y.1.1, y.1.2.1, y.1.2.2.1, y.1.2.2.2.1, y.1.2.2.2.2) ([], [], [], false, [])) fun y => some y) (some false)) (some false)) (some false)) (ifB (neI y_1 0) (z6 Z0 fun y_3 => ifB y_3 (ifB (eqI y.2.2 y_1) (ifB (eqI (lenI y.2.1) 0) (z6 (zJ (y.1.1, y.1.2.1, y.1.2.2.1, y.1.2.2.2.1, y.1.2.2.2.2) ([], [], [], false, [])) fun y => some y) (some false)) (some false)) (some false)) (zi maxR (fun (x : Int × List (List (Int × Int × Int × List Bool) × List (Int × Int)) × List Int × List Int × Bool × List Int × List Int) => ifB (ltI x.1 (lenI b)) (z6 (atI b x.1) fun y => z6 (yg (x.2.1, x.2.2.1, x.2.2.2.1, x.2.2.2.2.1, x.2.2.2.2.2.1) (y.1, y.2.1, y.2.2.1, y.2.2.2)) fun y => ifB (eqI y.2 0) (ifB (zg 8 x.2.2.2.2.2.2 [y.2]) (some (Sum.inl (wadd .i64 x.1 1, y.1.1, y.1.2.1, y.1.2.2.1, y.1.2.2.2.1, y.1.2.2.2.2, cat x.2.2.2.2.2.2 [y.2]))) none) (ifB (zg 8 x.2.2.2.2.2.2 [y.2]) (some (Sum.inl (wadd .i64 x.1 1, x.2.1, x.2.2.1, x.2.2.2.1, x.2.2.2.2.1, x.2.2.2.2.2.1, cat x.2.2.2.2.2.2 [y.2]))) none)) (mapO Sum.inr (ifB (eqI y.2.2 0) (z6 (V1 y.2.1 x.2.2.2.2.2.2) fun y_3 => ifB y_3 (z6 (zJ (y.1.1, y.1.2.1, y.1.2.2.1, y.1.2.2.2.1, y.1.2.2.2.2) (x.2.1, x.2.2.1, x.2.2.2.1, x.2.2.2.2.1, x.2.2.2.2.2.1)) fun y => some y) (some false)) (some false)))) (0, a.1, a.2.1, a.2.2.1, a.2.2.2.1, a.2.2.2.2, []))))
theorem z4t (x : PI vG) : yU (x.1) (x.2) = fnE T z04 z05 z03 (zo Tryz.f3) vG J9 x := by kernel_rfl
noncomputable abbrev z6J : GS := zq false vG J9 fun x => yU (x.1) (x.2)
theorem z4u : GSOK Tryz.prog 3 z6J := zm tok z6I fmo (Ht := z05) (fn := Tryz.f3) (Tryz.func3) (c := z03) (by kernel_rfl) (by kernel_rfl) (by kernel_rfl) (by decide +kernel) (by decide) z4t
end Go.Proofs.Y
namespace Go.Proofs.Y
open Go.Rb Go.Kx
def zk2 (a b : Wd) : Bool := eqB a.2.2.1 b.2.2.1 && (decide (a.1 = b.1) && (decide (a.2.1 = b.2.1) && decide (a.2.2.2 = b.2.2.2)))
theorem zh5 (a : Wd) : zk2 a a = true := by unfold zk2; cases a.2.2.1 <;> simp [eqB]
theorem zmU (a b : Wd) (hs : okS a.1) (h1 : a.2.1.1.length < 4611686018427387904) (h2 : a.2.1.2.length < 4611686018427387904) (h3 : a.2.2.2.length < 4611686018427387904) : zJ (wvd a) (wvd b) = some (zk2 a b) := by
 have e1 : Zj a.1 b.1 = some (decide (a.1 = b.1)) := zch _ _ hs
 have e2 : Y7 (bytB a.2.1.1, bytB a.2.1.2) (bytB b.2.1.1, bytB b.2.1.2) = some (decide (a.2.1 = b.2.1)) := znJ a.2.1 b.2.1 h1 h2
 have e3 : z3i a.2.2.2 b.2.2.2 = some (decide (a.2.2.2 = b.2.2.2)) := zrh _ _ h3
 unfold zJ zk2
 show ifB (eqB a.2.2.1 b.2.2.1) (z6 (Zj a.1 b.1) _) _ = _
 cases eqB a.2.2.1 b.2.2.1 with
 | false => rfl
 | true =>
  rw [Z1, e1, z7]
  cases decide (a.1 = b.1) with
  | false => rfl
  | true =>
   rw [Z1]
   refine (Zt e2 _).trans ?_
   cases decide (a.2.1 = b.2.1) with
   | false => rfl
   | true =>
    rw [Z1]
    exact (Zt e3 _).trans rfl
theorem zsO {a : Wd} (h : okc a = 0) : zJ (wvd a) (wvd a) = some true := by
 obtain ⟨h1, h2, h3⟩ := ztY h
 rw [zmU a a h3 (by omega) (by omega) (by omega), zh5]
theorem zoD : zJ zW zW = some true := by
 have := zmU ([], ([], []), false, []) ([], ([], []), false, []) z2o (by simp) (by simp) (by simp)
 rw [zh5] at this
 exact this
theorem zmV (w : Wd) (l : List Hp) (h1 : w.2.1.1.length < 4611686018427387904) (h2 : w.2.1.2.length < 4611686018427387904) (hrd : w.2.2.2.length < 4611686018427387904) (hl : l.length < 4611686018427387904) (hx : ∀ x ∈ l, x.2.2.2.length < 4611686018427387904) : yU (wvd w) l = some true := by
 unfold yU
 refine (Zt (zmw w l h1 h2 hrd hx) _).trans ?_
 refine (Zt (zjR w h1 h2 hrd) _).trans ?_
 rw [ze]
 by_cases hc : okc w = 0
 ·rw [if_pos hc, if_pos (show chkW w.1 w.2.1 w.2.2.1 w.2.2.2 = 0 from hc), zz, zb]
  by_cases h100 : 100 < l.length
  ·rw [if_pos (by omega), if_pos h100]
   refine (Zt z2t _).trans ?_
   rw [zC, Z1]
   refine (Zt z2t _).trans ?_
   rw [Z1, ze, if_pos rfl]
   show ifB (eqI 0 0) _ _ = _
   rw [ze, if_pos rfl]
   exact (Zt zoD _).trans rfl
  ·rw [if_neg (by omega), if_neg h100]
   refine (Zt z2t _).trans ?_
   rw [zC, Z1, zl, if_pos hc]
   have hlen := zmI l w []
   have hkeep := zh4 l w [] hc
   refine zP l (fun j (s : Wd × List Int) => ((j : Int), (wvd s.1).1, (wvd s.1).2.1, (wvd s.1).2.2.1, (wvd s.1).2.2.2.1, (wvd s.1).2.2.2.2, s.2)) (G := fun _ _ => some true) (P := fun j s => okc s.1 = 0 ∧ s.2.length = j ∧ runP (l.drop j) s.1 s.2 = runP l w []) (s0 := (w, [])) ?_ ?_ ⟨hc, rfl, by simp⟩ (by omega)
   ·rintro j ⟨v, said⟩ hj ⟨hv, hs, hq⟩ k hk
    have hat := zO hj
    have hm : l.getD j default ∈ l := y9 hj
    have hxx := hx _ hm
    have hd : l.drop j = l.getD j default :: l.drop (j + 1) := vo hj
    rw [hd] at hq
    generalize l.getD j default = x at *
    replace hv : okc v = 0 := hv
    replace hs : said.length = j := hs
    replace hq : runP (x :: l.drop (j + 1)) v said = runP l w [] := hq
    rw [runP] at hq
    show yq (ifB (ltI (j : Int) (lenI l)) (z6 (atI l (j : Int)) fun (y : Hp) => z6 (yg (wvd v) y) _) _) k = _
    rw [za, zh, zb, if_pos (by omega), hat, z7, znL hv hxx, z7, za, ze]
    by_cases he : (hapP v x).2 = 0
    ·have ea : ansP v (hapP v x) = (wvd (hapP v x).1, 0) := by unfold ansP; rw [if_pos he]
     rw [if_pos he, he] at hq
     rw [ea, if_pos rfl, za]
     show ifB (zg 8 said [0]) (yq (some (Sum.inl (wadd .i64 (j : Int) 1, _))) k) _ = _
     rw [zy, if_pos (by simp only [List.length_cons, List.length_nil]; omega), zt, zD (by omega)]
     exact hk ((hapP v x).1, said ++ [0]) ⟨zh3 hv he, by simp only [List.length_append, List.length_cons, List.length_nil]; omega, hq⟩
    ·have ea : ansP v (hapP v x) = (zW, (hapP v x).2) := by unfold ansP; rw [if_neg he]
     rw [if_neg he] at hq
     rw [ea, if_neg he, za]
     show ifB (zg 8 said [(hapP v x).2]) (yq (some (Sum.inl (wadd .i64 (j : Int) 1, _))) k) _ = _
     rw [zy, if_pos (by simp only [List.length_cons, List.length_nil]; omega), zt, zD (by omega)]
     exact hk (v, said ++ [(hapP v x).2]) ⟨hv, by simp only [List.length_append, List.length_cons, List.length_nil]; omega, hq⟩
   ·rintro ⟨v, said⟩ ⟨hv, hs, hq⟩ k
    rw [List.drop_length] at hq
    replace hq : (v, said) = runP l w [] := hq
    show yq (ifB (ltI (l.length : Int) (lenI l)) _ (mapO Sum.inr _)) k = _
    rw [za, zd, zh, zb, if_neg (by omega), ← hq]
    show ifB (eqI 0 0) (z6 (V1 said said) fun (t : Bool) => ifB t (z6 (zJ (wvd v) (wvd v)) fun (y : Bool) => some y) (some false)) (some false) = _
    replace hs : said.length = l.length := hs
    rw [ze, if_pos rfl, z9P said said (by omega), z7, decide_eq_true rfl, Z1, zsO hv, z7]
 ·rw [if_neg hc, if_neg (show ¬ chkW w.1 w.2.1 w.2.2.1 w.2.2.2 = 0 from hc)]
  refine (Zt z2t _).trans ?_
  rw [zC, Z1, zl, if_neg hc]
  refine (Zt z2t _).trans ?_
  rw [Z1, ze, if_pos rfl]
  show ifB (eqI 0 0) _ _ = _
  rw [ze, if_pos rfl]
  exact (Zt zoD _).trans rfl
end Go.Proofs.Y
namespace Go.Proofs.Y
open Go.Rb Go.Kx
theorem by77 : Tryz.prog.bytesOf 77 = 24 := by kernel_rfl
theorem z9U : reachBytes = 140737488351232 := by decide +kernel
abbrev entR : RT := .cons (.int .i64) (.cons (.int .i64) (.one (.int .i64)))
abbrev recR : RT := .cons (.int .i64) (.cons (.int .i64) (.cons (.int .i64) (.one (.sl 77 entR))))
theorem zuN (r : DenR recR) (h : BdR Tryz.prog recR r) : (r : Rc).2.2.2.length < 4611686018427387904 := by
 obtain ⟨_, _, _, h, _⟩ := h
 rw [by77, z9U] at h
 show List.length r.2.2.2 < _
 omega
end Go.Proofs.Y
namespace Go.Proofs.Y
open Go.Rb Go.Kx
theorem by5 : Tryz.prog.bytesOf 5 = 1 := by kernel_rfl
theorem by3 : Tryz.prog.bytesOf 3 = 8 := by kernel_rfl
abbrev wPtR : RT := .cons (.int .i64) (.one (.int .i64))
abbrev wBkR : RT := .cons (.int .i64) (.cons (.int .i64) (.cons (.int .i64) (.one (.sl 4 (.one .bool)))))
abbrev zvi : RT := .cons (.sl 126 wBkR) (.one (.sl 73 wPtR))
abbrev zrq : RT := .cons (.sl 95 zvi) (.cons (.sl 5 (.one (.int .u8))) (.cons (.sl 5 (.one (.int .u8))) (.cons .bool (.one (.sl 3 (.one (.int .i64)))))))
theorem by41 : Tryz.prog.bytesOf 41 = 48 := by kernel_rfl
theorem zu3 (l : Den (.sl 41 recR)) (h : Bd Tryz.prog (.sl 41 recR) l) : List.length (show List Hp from l) < 4611686018427387904 ∧ ∀ r ∈ (show List Hp from l), r.2.2.2.length < 4611686018427387904 := by
 obtain ⟨h1, h2⟩ := h
 rw [by41, z9U] at h1
 refine ⟨?_, fun r hr => zuN r (h2 r hr)⟩
 show List.length l < _; omega
theorem zrr {n : Int} (h : (Lit.int .u8 n).wf = true) : ((UInt8.ofNat n.toNat).toNat : Int) = n := by
 have e1 : IntKind.u8.min = 0 := rfl
 have e2 : IntKind.u8.max = 255 := rfl
 simp [Lit.wf, e1, e2] at h
 rw [UInt8.toNat_ofNat']; omega
theorem zd5 : ∀ {l : List Int}, (∀ n ∈ l, (Lit.int .u8 n).wf = true) → bytB (strB l) = l
 | [], _ => rfl
 | n :: l, h => by
  have ih := zd5 fun m hm => h m (List.mem_cons_of_mem n hm)
  have h0 := zrr (h n (by simp))
  unfold bytB strB at ih ⊢
  rw [List.map_cons, List.map_cons, ih, h0]
theorem zmW (l : List Int) : (strB l).length = l.length := by unfold strB; rw [List.length_map]
theorem zrs (s : Shf) (a b : List Int) (up : Bool) (rd : List Int) (h1 : a.length ≤ 140737488351232) (h1' : ∀ n ∈ a, (Lit.int .u8 n).wf = true) (h2 : b.length ≤ 140737488351232) (h2' : ∀ n ∈ b, (Lit.int .u8 n).wf = true) (h3 : rd.length * 8 ≤ 140737488351232) :
  ∃ w : Wd, ((s, a, b, up, rd) : Wv) = wvd w ∧ w.2.1.1.length < 4611686018427387904 ∧ w.2.1.2.length < 4611686018427387904 ∧ w.2.2.2.length < 4611686018427387904 := by
 have ea := zd5 h1'
 have eb := zd5 h2'
 have la := zmW a
 have lb := zmW b
 refine ⟨(s, (strB a, strB b), up, rd), ?_, ?_, ?_, ?_⟩
 ·show (s, a, b, up, rd) = (s, bytB (strB a), bytB (strB b), up, rd)
  rw [ea, eb]
 ·show (strB a).length < _
  omega
 ·show (strB b).length < _
  omega
 ·show rd.length < _
  omega
theorem zsP (x : DenR zrq) (h : BdR Tryz.prog zrq x) : ∃ w : Wd, (show Wv from x) = wvd w ∧ w.2.1.1.length < 4611686018427387904 ∧ w.2.1.2.length < 4611686018427387904 ∧ w.2.2.2.length < 4611686018427387904 := by
 obtain ⟨_, ⟨h1, h1'⟩, ⟨h2, h2'⟩, _, h3, _⟩ := h
 rw [by5, z9U, Nat.mul_one] at h1 h2
 rw [by3, z9U] at h3
 exact zrs x.1 x.2.1 x.2.2.1 x.2.2.2.1 x.2.2.2.2 h1 (fun n hn => h1' n hn) h2 (fun n hn => h2' n hn) h3
end Go.Proofs.Y
namespace Go.Proofs.YtnkegapccacndaaGreatDoor
open Go.Rb Go.Kx Go.RowKit
abbrev laidL : List (String × DataW Unit) := Rows.storePartsRow.laid
theorem zrt (u : TypeId) (h : Tryz.prog.typeName? 3 u = some "*errors.errorString") : u = 249 :=
 typeName_ptr_named (nm := "errors.errorString") (by kernel_rfl) (by kernel_rfl) (by decide) u h
theorem zmX : Tryz.prog.cellsOf 251 = 1 := by kernel_rfl
theorem zru : Tryz.prog.cellsOf 9 = 1 := by kernel_rfl
theorem zu4 {W : World} (h : laidMetH Tryz.prog laidL W) (hsh : W.ShapedOpen Tryz.prog) : Glob Tryz.prog W ∧ NG Tryz.prog ≤ W.heap.size := by
 rw [MakeChecks.laidMetH_plain _ _ _ (by kernel_rfl)] at h
 have h3 : laidMet Tryz.prog (("internal/strconv.uint64pow10", Lib.tabData .u64 Lib.pow10Tab) :: laidL.drop 3) W := h.tail.tail
 have h5 := h.tail.tail.tail.tail
 have h6 := h5.tail
 refine ⟨⟨?_, ?_, ?_, ?_⟩, zuU hsh (by kernel_rfl) (by kernel_rfl)⟩
 ·exact Lib.tabIs_of_head (g := 1) (t := 238) (e := 202) (n := 20) (by kernel_rfl) (by kernel_rfl) Tryz.underlying238 Tryz.underlying202 (by kernel_rfl) (by kernel_rfl) h3
 ·obtain ⟨a, s, hv, _⟩ := laid_sentinel (g := 2) (ti := 183) h6 (by kernel_rfl) (by kernel_rfl) Tryz.underlying183 zrt Tryz.underlying249 Tryz.underlying251 rfl rfl Tryz.underlying9 zmX zru
  exact ⟨_, _, hv⟩
 ·obtain ⟨a, s, hv, _⟩ := laid_sentinel (g := 3) (ti := 183) h5 (by kernel_rfl) (by kernel_rfl) Tryz.underlying183 zrt Tryz.underlying249 Tryz.underlying251 rfl rfl Tryz.underlying9 zmX zru
  exact ⟨_, _, hv⟩
 ·exact zrV (g := 0) (t := 3) (zero := #[.int .i64 0]) hsh (by kernel_rfl) (by kernel_rfl) (by kernel_rfl) (by kernel_rfl) (by kernel_rfl) Tryz.underlying3
theorem own : ownKnob Tryz.prog.godebug = none := by kernel_rfl
theorem zrv (os : Os) : (World.holding Tryz.prog os ⟨#[], #[], []⟩).layFits Tryz.prog laidL [] = true := by kernel_rfl
theorem znM (os : Os) : (World.holding Tryz.prog os ⟨#[], #[], []⟩).layIfaces Tryz.prog laidL (World.laidAll Tryz.prog os laidL) = true := by kernel_rfl
theorem zsQ (os : Os) (args : Array Value) : laidMetH Tryz.prog laidL ((World.laidAll Tryz.prog os laidL).forCall (fun _ _ => 0) ⟨#[], args, []⟩).memory := by
 rw [MakeChecks.laidMetH_plain _ _ _ (by kernel_rfl)]
 exact laidMet_laidAll _ (zrv os) (znM os)
end Go.Proofs.YtnkegapccacndaaGreatDoor
