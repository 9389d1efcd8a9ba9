/-
  What is proved, part by part: what rainbooklaw.DiskKeeps comes to. what a disk keeps: the law's function is always true, in plain words. parts of other chapters that this one leans on. numbers as bits, as plain functions. numbers as bits, further plain facts. numbers as bits: what is put is taken. small numbers in groups of four bits, as plain functions. what is put in groups of four bits is taken, and no two ways write one number. when points rise, as a plain function. points in bits, as plain functions. what rainbookref.in comes to. what rainbookref.CheckPoint comes to. what rainbookref.CheckRec comes to. parts of other chapters that this one leans on. strconv.ParseInt of Go's library is known by its answer. strconv.FormatInt of Go's library is known by its answer. what rainbookref.RecRead comes to. a text read as a record by the document's function: it is what the program's function reads. strings.genSplit of Go's library is known by its answer. what strings.SplitAfter comes to. strings.HasSuffix of Go's library is known by its answer. what rainbookref.linesOf comes to. what rainbookref.CheckDisk comes to. what rainbookref.Recovered comes to. a disk's text as lines, by the document's function: what the program's function says; disks and worlds checked, recovered by the document. parts of other chapters that this one leans on. what rainbookref.RecText$1 comes to. strings joined: the laying of that function of Go's library over the program. strings.Join of Go's library is known by its answer. what rainbookref.RecText comes to. a record as a text, by the document's function: what the program's function prints. what rainbookref.PutOn comes to. what rainbookref.Synced comes to. what rainbookref.SameDisk comes to. records put on a disk, a disk synced, by the document: what the program says. what rainbookref.SameRec comes to. what rainbooklaw.NoteSays comes to. records are checked, printed, read as the document says: the law's body is true, in plain words. what slices.EqualFunc[[]api.Rec,[]api.Rec,api.Rec,api.Rec] comes to. what rainbooklaw.DiskSays comes to. disks are checked, put on, synced, crash, recover as the document says: the law's body is true, in plain words. what a law is handed is no larger than memory. a disk that a law is handed is no larger than memory; its bytes are bytes. what the rows list of package-level variables is what the library's functions ask. Conditions: none.
-/
import Derived.Test.YtnkegapccacndaaDoorKPA
import Derived.Lib.ParseIntBTie
import Derived.Test.YtnkegapccacndaaDoorKED
import Derived.Test.YtnkegapccacndaaDoorProg
import Derived.KernelRfl
import Derived.Test.YtnkegapccacndaaDoorRows
set_option linter.unusedVariables false
set_option linter.unusedSimpArgs false
set_option linter.unnecessarySimpa false
set_option maxRecDepth 4000
namespace Go.Proofs.Y
open Go.Rb Go.Kx
set_option maxRecDepth 100000
end Go.Proofs.Y
namespace Go.Proofs.Y
open Go.Rb Go.Kx
theorem z7E (a b : List Rc) (h : a.length + b.length ≤ 60) : V5 [a, b] = some (a ++ b) := by
 unfold V5
 rw [← z0J]
 refine z3y 48 (0, 0, 0, []) [a, b] (by simp) (by omega) ?_ (by omega)
 rw [z0J, List.length_append]; omega
theorem z9W {r : Rc} (h : zk r = 0) : r.2.2.2.length < 4611686018427387904 := by
 obtain ⟨k1, k2, k3, k4⟩ := ZD h
 by_cases hk : r.1 = 1
 ·have := (k3 hk).2.2.1; omega
 ·rw [(k4 hk).1]; decide
end Go.Proofs.Y
namespace Go.Proofs.Y
open Go.Rb Go.Kx
theorem zM {α β : Type} {o : Option α} {a : α} (h : o = some a) (f : α → Option β) : z6 o f = f a := by rw [h]; rfl
theorem z2Z (most all : Int) : ∀ (ws : List (List UInt8)) (acc : List Rc), (acc.length : Int) ≤ most → ((lnW most all ws acc).1.length : Int) ≤ most
 | [], acc, h => h
 | w :: ws, acc, h => by
  rw [lnW]
  split
  ·split
   ·exact h
   ·exact h
  ·split
   ·split
    ·exact h
    ·exact z2Z most all ws _ (by simp only [List.length_append, List.length_cons, List.length_nil]; omega)
   ·exact h
theorem z6W (s : List UInt8) : (lnP 60 s).1.length ≤ 60 := by
 have := z2Z 60 s.length (sp 10 s) [] (by simp)
 unfold lnP
 omega
theorem z7F {s w : List UInt8} (h : zE (s, w) = 0) : (lnP 60 s).2.2 = 0 := by
 unfold zE at h
 split at h
 ·cases h
 ·split at h
  ·cases h
  ·exact h
theorem z4o (most all : Int) : ∀ (ws : List (List UInt8)) (acc : List Rc), (∀ r ∈ acc, zk r = 0) → ∀ r ∈ (lnW most all ws acc).1, zk r = 0
 | [], acc, h => h
 | w :: ws, acc, h => by
  rw [lnW]
  split
  ·split
   ·exact h
   ·exact h
  ·split
   ·rename_i hp
    split
    ·exact h
    ·exact z4o most all ws _ fun r hr => by
      rcases List.mem_append.1 hr with hr | hr
      ·exact h r hr
      ·rw [List.mem_singleton.1 hr]; exact (z4Z hp).1
   ·exact h
theorem zbE (d : List UInt8 × List UInt8) : ∀ r ∈ (zF d).2.1, zk r = 0 := by
 unfold zF
 split
 ·intro r hr
  rcases List.mem_append.1 hr with hr | hr
  ·exact z4o _ _ _ [] (by simp) r hr
  ·exact z4o _ _ _ [] (by simp) r hr
 ·intro r hr; cases hr
theorem z6X (most all : Int) : ∀ (ws : List (List UInt8)) (acc : List Rc), ws ≠ [] →
  ∃ M t, (lnW most all ws acc).1 = acc ++ M ∧ jn 10 ws = Zm M ++ t ∧ (lnW most all ws acc).2.1 = all - t.length ∧ ((lnW most all ws acc).2.2 = 0 → t = []) ∧ ∀ r ∈ M, zk r = 0
 | [], acc, h => absurd rfl h
 | w :: r, acc, _ => by
  rw [lnW]
  by_cases hr : r = []
  ·subst hr
   rw [if_pos rfl]
   by_cases hw : w = []
   ·subst hw; rw [if_pos rfl]; exact ⟨[], [], by simp, by simp [jn, Zm], by simp, by simp, by simp⟩
   ·rw [if_neg hw]; exact ⟨[], w, by simp, by simp [jn, Zm], rfl, by simp, by simp⟩
  ·rw [if_neg hr]
   by_cases hp : (Z4 w).2 = 0
   ·rw [if_pos hp]
    by_cases hm : (acc.length : Int) = most
    ·rw [if_pos hm]; exact ⟨[], jn 10 (w :: r), by simp, by simp [Zm], rfl, by simp, by simp⟩
    ·rw [if_neg hm]
     obtain ⟨M, t, h1, h2, h3, h4, h5⟩ := z6X most all r (acc ++ [(Z4 w).1]) hr
     obtain ⟨p1, p2⟩ := z4Z hp
     refine ⟨(Z4 w).1 :: M, t, by rw [h1]; simp, ?_, h3, h4, ?_⟩
     ·rw [vD 10 w hr, z3x, p2, h2]
     ·intro q hq
      rcases List.mem_cons.1 hq with rfl | hq
      ·exact p1
      ·exact h5 q hq
   ·rw [if_neg hp]; exact ⟨[], jn 10 (w :: r), by simp, by simp [Zm], rfl, fun h => absurd h hp, by simp⟩
theorem zaQ {s a t : List UInt8} (h : s = a ++ t) : s.take a.length = a := by rw [h, List.take_left]
theorem z6Y (m : Int) (s : List UInt8) : ∃ t, s = Zm (lnP m s).1 ++ t ∧ (lnP m s).2.1 = ((Zm (lnP m s).1).length : Int) ∧ ((lnP m s).2.2 = 0 → t = []) ∧ ∀ r ∈ (lnP m s).1, zk r = 0 := by
 obtain ⟨M, t, h1, h2, h3, h4, h5⟩ := z6X m s.length (sp 10 s) [] (Yz 10 s)
 rw [Jy] at h2
 rw [List.nil_append] at h1
 unfold lnP
 rw [h1]
 refine ⟨t, h2, ?_, h4, h5⟩
 rw [h3, h2, List.length_append]; omega
theorem zbF {m : Int} (hm : 0 ≤ m) (s : List UInt8) : ((lnP m s).1.length : Int) ≤ m := z2Z m s.length (sp 10 s) [] (by simpa using hm)
theorem z7G {d : List UInt8 × List UInt8} (h : zE d = 0) : ∃ L, d.1 = Zm L ∧ (lnP 60 d.1).1 = L ∧ L.length ≤ 60 ∧ ∀ r ∈ L, zk r = 0 := by
 obtain ⟨t, h1, h2, h3, h4⟩ := z6Y 60 d.1
 have ht := h3 (z7F (s := d.1) (w := d.2) h)
 subst ht
 rw [List.append_nil] at h1
 exact ⟨_, h1, rfl, z6W _, h4⟩
theorem z11 {d : List UInt8 × List UInt8} (h : zE d = 0) : zF d = ((Zm (zF d).2.1, []), (zF d).2.1, 0) ∧ (zF d).2.1.length ≤ 60 ∧ ∀ r ∈ (zF d).2.1, zk r = 0 := by
 obtain ⟨L, h1, h2, h3, h4⟩ := z7G h
 have hm : (0 : Int) ≤ 60 - ((lnP 60 d.1).1.length : Int) := by rw [h2]; omega
 obtain ⟨t, g1, g2, g3, g4⟩ := z6Y (60 - ((lnP 60 d.1).1.length : Int)) d.2
 have g5 := zbF hm d.2
 have hrec := zbE d
 have e : zF d = ((d.1 ++ d.2.take (vk d).2.1.toNat, []), (lnP 60 d.1).1 ++ (vk d).1, 0) := by unfold zF; rw [if_pos h]
 refine ⟨?_, ?_, hrec⟩
 ·rw [e]
  have hk : d.2.take (vk d).2.1.toNat = Zm (vk d).1 := by
   unfold vk
   rw [g2, Int.toNat_natCast]
   exact zaQ g1
  rw [hk]
  simp only
  rw [z9K, h2, h1]
 ·rw [e]
  simp only [List.length_append]
  unfold vk
  omega
end Go.Proofs.Y
namespace Go.Rb
def zba (n w : Int) : Prop := 0 ≤ w ∧ w ≤ 40 ∧ 0 ≤ n ∧ n < 2 ^ w.toNat
instance (n w : Int) : Decidable (zba n w) := by unfold zba; infer_instance
def val (l : List Bool) : Int := l.foldl (fun n b => 2 * n + (if b then 1 else 0)) 0
end Go.Rb
namespace Go.Rb
end Go.Rb
namespace Go.Rb
/-! ### Numbers one after the other -/
end Go.Rb
namespace Go.Rb
/-! ### Reading -/
section
variable {f k : Nat} {n sc : Int} {l : List Bool}
end
/-! ### The document's way -/
/-! A group as the document takes it apart. -/
end Go.Rb
namespace Go.Rb
end Go.Rb
namespace Go.Rb
def PtIn (p : Pt) : Prop := 0 ≤ p.1 ∧ p.1 ≤ 100000 ∧ -1000000 ≤ p.2 ∧ p.2 ≤ 1000000
theorem z30 {α : Type} [Inhabited α] {l : List α} {i : Nat} (h : i < l.length) : l.getD i default ∈ l := by
 have : l.getD i default = l[i] := by simp [List.getD, List.getElem?_eq_getElem h]
 rw [this]; exact List.getElem_mem h
end Go.Rb
namespace Go.Rb
abbrev badP (p : Pt) : Prop := p.1 < 0 ∨ p.1 > 100000 ∨ p.2 < -1000000 ∨ p.2 > 1000000
def chkP (p : Pt) : Int := if badP p then 3 else 0
theorem zbG (p : Pt) : (badP p ∧ chkP p = 3) ∨ (PtIn p ∧ chkP p = 0) := by
 unfold chkP
 by_cases h : badP p
 ·left; exact ⟨h, if_pos h⟩
 ·right; exact ⟨by unfold badP at h; unfold PtIn; omega, if_neg h⟩
def JJ (l : List Pt) (i : Nat) : Pt := if i = 0 then ⟨0, 0⟩ else l.getD (i - 1) default
def z2m (l : List Pt) (i : Nat) : Int := if i = 0 then 0 else (l.getD (i - 1) default).1 - (JJ l (i - 1)).1
theorem second {l : List Pt} {i : Nat} : (i = 0 → (JJ l i).1 = 0 ∧ (JJ l i).2 = 0 ∧ z2m l i = 0) ∧ (0 < i → (JJ l i) = l.getD (i - 1) default) ∧ (i = 1 → z2m l i = (l.getD (i - 1) default).1) ∧
  (1 < i → z2m l i = (l.getD (i - 1) default).1 - (l.getD (i - 2) default).1) := by
 refine ⟨?_, ?_, ?_, ?_⟩
 ·rintro rfl; simp [JJ, z2m, ]
 ·intro h; unfold JJ; rw [if_neg (by omega)]
 ·rintro rfl; simp [JJ, z2m, ]
 ·intro h
  unfold z2m JJ
  rw [if_neg (by omega), if_neg (by omega), show i - 1 - 1 = i - 2 from by omega]
/-! ### Unpacking -/
section
variable {f k : Nat} {last : Pt} {step : Int} {acc : List Pt} {b : List Bool}
end
end Go.Rb
namespace Go.Proofs.Y
open Go.Rb Go.Kx
noncomputable def J3 : Code := zq Tryd.f54
noncomputable def J4 : FuncId → Option GS := tabG []
theorem z32 : ΓOK Tryd.prog J4 := zu
def J5 : HT := ⟨tabL [], tabH []⟩
abbrev YM : List IT := [.v (.one (.int .i64)) false, .v (.one (.int .i64)) false, .v (.one (.int .i64)) false]
abbrev jg : List OT := [⟨.one .bool, false, []⟩]
set_option maxRecDepth 100000
noncomputable def zd : Int → Int → Int → Option Bool := fun a b c => ifB (leI b a) (some (leI a c)) (some false)
theorem z13 (x : PI YM) : zd (x.1) (x.2.1) (x.2.2) = fnE T J4 J5 J3 (zO Tryd.f54) YM jg x := by kernel_rfl
noncomputable abbrev vt : GS := zI false YM jg fun x => zd (x.1) (x.2.1) (x.2.2)
theorem Vj : GSOK Tryd.prog 54 vt := zC tok z32 fmo (Ht := J5) (fn := Tryd.f54) (Tryd.func54) (c := J3) (by kernel_rfl) (by kernel_rfl) (by kernel_rfl) (by decide +kernel) (by decide) z13
end Go.Proofs.Y
namespace Go.Proofs.Y
open Go.Rb Go.Kx
noncomputable def Yj : Code := zq Tryd.f55
noncomputable def Yk : FuncId → Option GS := tabG [(54, vt)]
theorem J6 : ΓOK Tryd.prog Yk := za (Vj) (zu)
def Yl : HT := ⟨tabL [], tabH []⟩
abbrev ZM : List IT := [.v (.cons (.int .i64) (.one (.int .i64))) true]
abbrev Y5 : List OT := [⟨.one (.int .i64), false, []⟩]
set_option maxRecDepth 100000
noncomputable def zj : Int × Int → Option Int := fun a => z6 (zd a.1 0 100000) fun y => ifB (notB y) (some 3) (z6 (zd a.2 (-1000000) 1000000) fun y => ifB (notB y) (some 3) (some 0))
theorem VX (x : PI ZM) : zj x = fnE T Yk Yl Yj (zO Tryd.f55) ZM Y5 x := by kernel_rfl
noncomputable abbrev Ym : GS := zI false ZM Y5 fun x => zj x
theorem VY : GSOK Tryd.prog 55 Ym := zC tok J6 fmo (Ht := Yl) (fn := Tryd.f55) (Tryd.func55) (c := Yj) (by kernel_rfl) (by kernel_rfl) (by kernel_rfl) (by decide +kernel) (by decide) VX
end Go.Proofs.Y
namespace Go.Proofs.Y
open Go.Rb Go.Kx
noncomputable def YR : Code := zq Tryd.f38
noncomputable def YS : FuncId → Option GS := tabG [(54, vt), (55, Ym)]
theorem JS : ΓOK Tryd.prog YS := za (Vj) (za (VY) (zu))
def YT : HT := ⟨tabL [(11, .it [] (dyn [.t 59 (.int .i64)]))], tabH []⟩
abbrev y4 : List IT := [.v (.cons (.int .i64) (.cons (.int .i64) (.cons (.int .i64) (.one (.sl 56 (.cons (.int .i64) (.cons (.int .i64) (.one (.int .i64))))))))) true]
abbrev YC : List OT := [⟨.one (.int .i64), false, []⟩]
set_option maxRecDepth 100000
noncomputable def zb : Int × Int × Int × List (Int × Int × Int) → Option Int := fun a => z6 (zd a.1 1 4) fun y => ifB (notB y) (some 4) (ifB (eqI a.1 1) (ifB (neI a.2.1 0) (some 4) (ifB (neI a.2.2.1 0) (some 4) (ifB (neI a.1 1) (ifB (gtI (lenI a.2.2.2) 0) (some 4) (ifB (eqI a.1 4) (ifB (neI a.2.1 0) (some 4) (ifB (gtI (lenI a.2.2.2) 10) (some 2) (z6 (zd a.2.1 0 3) fun y => ifB (notB y) (some 3) (z6 (zd a.2.2.1 0 100001) fun y => ifB (notB y) (some 3) (zi maxR (fun (x : Int) => ifB (ltI x (lenI a.2.2.2)) (z6 (atI a.2.2.2 x) fun y => z6 (zd y.1 0 3) fun y_1 => ifB (notB y_1) (mapO Sum.inr (some 3)) (z6 (zj (y.2.1, y.2.2)) fun y => ifB (neI y 0) (mapO Sum.inr (some 3)) (some (Sum.inl (wadd .i64 x 1))))) (mapO Sum.inr (some 0))) 0))))) (ifB (gtI (lenI a.2.2.2) 10) (some 2) (z6 (zd a.2.1 0 3) fun y => ifB (notB y) (some 3) (z6 (zd a.2.2.1 0 100001) fun y => ifB (notB y) (some 3) (zi maxR (fun (x : Int) => ifB (ltI x (lenI a.2.2.2)) (z6 (atI a.2.2.2 x) fun y => z6 (zd y.1 0 3) fun y_1 => ifB (notB y_1) (mapO Sum.inr (some 3)) (z6 (zj (y.2.1, y.2.2)) fun y => ifB (neI y 0) (mapO Sum.inr (some 3)) (some (Sum.inl (wadd .i64 x 1))))) (mapO Sum.inr (some 0))) 0)))))) (ifB (eqI a.1 4) (ifB (neI a.2.1 0) (some 4) (ifB (gtI (lenI a.2.2.2) 10) (some 2) (z6 (zd a.2.1 0 3) fun y => ifB (notB y) (some 3) (z6 (zd a.2.2.1 0 100001) fun y => ifB (notB y) (some 3) (zi maxR (fun (x : Int) => ifB (ltI x (lenI a.2.2.2)) (z6 (atI a.2.2.2 x) fun y => z6 (zd y.1 0 3) fun y_1 => ifB (notB y_1) (mapO Sum.inr (some 3)) (z6 (zj (y.2.1, y.2.2)) fun y => ifB (neI y 0) (mapO Sum.inr (some 3)) (some (Sum.inl (wadd .i64 x 1))))) (mapO Sum.inr (some 0))) 0))))) (ifB (gtI (lenI a.2.2.2) 10) (some 2) (z6 (zd a.2.1 0 3) fun y => ifB (notB y) (some 3) (z6 (zd a.2.2.1 0 100001) fun y => ifB (notB y) (some 3) (zi maxR (fun (x : Int) => ifB (ltI x (lenI a.2.2.2)) (z6 (atI a.2.2.2 x) fun y => z6 (zd y.1 0 3) fun y_1 => ifB (notB y_1) (mapO Sum.inr (some 3)) (z6 (zj (y.2.1, y.2.2)) fun y => ifB (neI y 0) (mapO Sum.inr (some 3)) (some (Sum.inl (wadd .i64 x 1))))) (mapO Sum.inr (some 0))) 0)))))))) (ifB (neI a.1 1) (ifB (gtI (lenI a.2.2.2) 0) (some 4) (ifB (eqI a.1 4) (ifB (neI a.2.1 0) (some 4) (ifB (gtI (lenI a.2.2.2) 10) (some 2) (z6 (zd a.2.1 0 3) fun y => ifB (notB y) (some 3) (z6 (zd a.2.2.1 0 100001) fun y => ifB (notB y) (some 3) (zi maxR (fun (x : Int) => ifB (ltI x (lenI a.2.2.2)) (z6 (atI a.2.2.2 x) fun y => z6 (zd y.1 0 3) fun y_1 => ifB (notB y_1) (mapO Sum.inr (some 3)) (z6 (zj (y.2.1, y.2.2)) fun y => ifB (neI y 0) (mapO Sum.inr (some 3)) (some (Sum.inl (wadd .i64 x 1))))) (mapO Sum.inr (some 0))) 0))))) (ifB (gtI (lenI a.2.2.2) 10) (some 2) (z6 (zd a.2.1 0 3) fun y => ifB (notB y) (some 3) (z6 (zd a.2.2.1 0 100001) fun y => ifB (notB y) (some 3) (zi maxR (fun (x : Int) => ifB (ltI x (lenI a.2.2.2)) (z6 (atI a.2.2.2 x) fun y => z6 (zd y.1 0 3) fun y_1 => ifB (notB y_1) (mapO Sum.inr (some 3)) (z6 (zj (y.2.1, y.2.2)) fun y => ifB (neI y 0) (mapO Sum.inr (some 3)) (some (Sum.inl (wadd .i64 x 1))))) (mapO Sum.inr (some 0))) 0)))))) (ifB (eqI a.1 4) (ifB (neI a.2.1 0) (some 4) (ifB (gtI (lenI a.2.2.2) 10) (some 2) (z6 (zd a.2.1 0 3) fun y => ifB (notB y) (some 3) (z6 (zd a.2.2.1 0 100001) fun y => ifB (notB y) (some 3) (zi maxR (fun (x : Int) => ifB (ltI x (lenI a.2.2.2)) (z6 (atI a.2.2.2 x) fun y => z6 (zd y.1 0 3) fun y_1 => ifB (notB y_1) (mapO Sum.inr (some 3)) (z6 (zj (y.2.1, y.2.2)) fun y => ifB (neI y 0) (mapO Sum.inr (some 3)) (some (Sum.inl (wadd .i64 x 1))))) (mapO Sum.inr (some 0))) 0))))) (ifB (gtI (lenI a.2.2.2) 10) (some 2) (z6 (zd a.2.1 0 3) fun y => ifB (notB y) (some 3) (z6 (zd a.2.2.1 0 100001) fun y => ifB (notB y) (some 3) (zi maxR (fun (x : Int) => ifB (ltI x (lenI a.2.2.2)) (z6 (atI a.2.2.2 x) fun y => z6 (zd y.1 0 3) fun y_1 => ifB (notB y_1) (mapO Sum.inr (some 3)) (z6 (zj (y.2.1, y.2.2)) fun y => ifB (neI y 0) (mapO Sum.inr (some 3)) (some (Sum.inl (wadd .i64 x 1))))) (mapO Sum.inr (some 0))) 0)))))))
theorem jv (x : PI y4) : zb x = fnE T YS YT YR (zO Tryd.f38) y4 YC x := by kernel_rfl
noncomputable abbrev yj : GS := zI false y4 YC fun x => zb x
theorem Y6 : GSOK Tryd.prog 38 yj := zC tok JS fmo (Ht := YT) (fn := Tryd.f38) (Tryd.func38) (c := YR) (by kernel_rfl) (by kernel_rfl) (by kernel_rfl) (by decide +kernel) (by decide) jv
end Go.Proofs.Y
namespace Go.Proofs.Y
open Go.Rb Go.Kx
theorem z5y (a b c : Int) : zd a b c = some (decide (b ≤ a ∧ a ≤ c)) := by
 unfold zd
 rw [vA]
 split
 ·simp [leI, *]
 ·simp [*]
theorem z7H (p : Pt) : zj p = some (chkP p) := by
 unfold zj chkP badP
 rw [z5y, z5y, z7, z7, zW, zW, zK, zK]
 by_cases h : p.1 < 0 ∨ p.1 > 100000 ∨ p.2 < -1000000 ∨ p.2 > 1000000
 ·rw [if_pos h]
  split
  ·rw [if_neg (by omega)]
  ·rfl
 ·rw [if_neg h, if_pos (by omega), if_pos (by omega)]
theorem JT (r : Rc) (hl : r.2.2.2.length < 4611686018427387904) : zb r = some (zk r) := by
 unfold zb zk
 have hloop : zi maxR (fun (x : Int) => ifB (ltI x (lenI (Prod.snd (Prod.snd (Prod.snd r))))) (z6 (atI (Prod.snd (Prod.snd (Prod.snd r))) x) fun (y : Int × Int × Int) =>
   z6 (zd (Prod.fst y) 0 3) fun (y_1 : Bool) => ifB (notB y_1) (mapO Sum.inr (some 3)) (z6 (zj (Prod.fst (Prod.snd y), Prod.snd (Prod.snd y))) fun (y : Int) => ifB (neI y 0) (mapO Sum.inr (some 3)) (some (Sum.inl (wadd IntKind.i64 x 1)))))
   (mapO Sum.inr (some 0))) 0 = some (entE r.2.2.2) := by
  generalize r.2.2.2 = l at *
  refine Z9 l (fun j (_ : Unit) => (j : Int)) (G := fun rest _ => some (entE rest)) (P := fun _ _ => True) ?_ ?_ (s0 := ()) trivial (by omega)
  ·rintro j _ hj _ k hk
   have hat := ZT hj
   generalize l.getD j default = x at *
   simp only [ze, Zt, zm, zG, z5y, z7H, z7]
   rw [zt, zf, if_pos (by omega), hat, z7, zW, zK, zA, ZB (by omega), hk () trivial, entE]
   rcases zbG ((x.2.1, x.2.2) : Pt) with ⟨hb, hp⟩ | ⟨hb, hp⟩
   ·rw [hp, if_neg (show ¬ (3 : Int) = 0 by decide)]
    have : YO x := by unfold badP at hb; unfold YO; simp only at hb; omega
    rw [if_pos this]; split <;> rfl
   ·rw [hp, if_pos rfl]
    unfold PtIn at hb
    simp only at hb
    by_cases h : 0 ≤ x.1 ∧ x.1 ≤ 3
    ·rw [if_pos h, if_neg (by unfold YO; omega)]
    ·rw [if_neg h, if_pos (by unfold YO; omega)]
  ·rintro _ _ k
   simp only [ze, zm]
   rw [zt, zf, if_neg (by omega)]; rfl
 rw [hloop]
 simp only [z5y, z7, zt, Z0, zw, zA, yw, zf, zW, zK]
 have hnil : ∀ l : List Ent, l.length = 0 → entE l = 0 := fun l h => by rw [List.eq_nil_of_length_eq_zero h]; rfl
 clear hloop
 obtain ⟨a, b, c, l⟩ := r
 simp only at hl ⊢
 by_cases k : 1 ≤ a ∧ a ≤ 4
 ·rw [if_pos k, if_neg (show ¬ (a < 1 ∨ 4 < a) by omega)]
  by_cases k1 : a = 1
  ·subst k1
   by_cases z1 : b = 0
   ·by_cases z2 : c = 0
    ·subst z1; subst z2
     by_cases h10 : 10 < l.length
     ·have : (10 : Int) < l.length := by omega
      simp [this, h10]
     ·have : ¬ (10 : Int) < l.length := by omega
      simp [this, h10]
    ·simp [z1, z2]
   ·simp [z1]
  ·have h10 : 0 < l.length ∨ l.length = 0 := by omega
   rcases h10 with h0 | h0
   ·have : (0 : Int) < l.length := by omega
    simp only [if_neg k1, if_pos this, if_pos (show 0 < l.length ∨ (a = 4 ∧ ¬ b = 0) from .inl h0)]
   ·have e0 : ¬ (0 : Int) < l.length := by omega
    have e1 : ¬ (10 : Int) < l.length := by omega
    simp only [if_neg k1, if_neg e0, if_neg e1, hnil l h0]
    by_cases k4 : a = 4
    ·by_cases z : b = 0
     ·rw [if_pos k4, if_pos z, if_neg (show ¬ (0 < l.length ∨ (a = 4 ∧ ¬ b = 0)) by omega)]
      by_cases g : 0 ≤ c ∧ c ≤ 100001
      ·rw [if_pos (show 0 ≤ b ∧ b ≤ 3 by omega), if_pos g, if_neg (by omega)]
      ·rw [if_pos (show 0 ≤ b ∧ b ≤ 3 by omega), if_neg g, if_pos (by omega)]
     ·rw [if_pos k4, if_neg z, if_pos (.inr ⟨k4, z⟩)]
    ·rw [if_neg k4, if_neg (show ¬ (0 < l.length ∨ (a = 4 ∧ ¬ b = 0)) by omega)]
     by_cases g0 : 0 ≤ b ∧ b ≤ 3
     ·by_cases g : 0 ≤ c ∧ c ≤ 100001
      ·rw [if_pos g0, if_pos g, if_neg (by omega)]
      ·rw [if_pos g0, if_neg g, if_pos (by omega)]
     ·rw [if_neg g0, if_pos (by omega)]
 ·rw [if_neg k, if_pos (show a < 1 ∨ 4 < a by omega)]
end Go.Proofs.Y
namespace Go.Proofs.Y
open Go.Rb Go.Kx
noncomputable abbrev z3X : GS := .r (libS [.v (.one .str) false, .v (.one (.int .i64)) false, .v (.one (.int .i64)) false] (fun x => vW (x.1) (x.2.1) (x.2.2)) gErr)
theorem z5m : GSOK Tryd.prog 42 z3X := zaz
end Go.Proofs.Y
namespace Go.Proofs.Y
open Go.Rb Go.Kx
noncomputable abbrev z6Z : GS := .r (libS [.v (.one (.int .i64)) false, .v (.one (.int .i64)) false] (fun x => fmtO (x.1) (x.2)) gStr)
theorem z7I : GSOK Tryd.prog 43 z6Z := zc6
end Go.Proofs.Y
namespace Go.Proofs.Y
open Go.Rb Go.Kx
noncomputable def vE : Code := zq Tryd.f14
noncomputable def vF : FuncId → Option GS := tabG [(41, z8Y), (42, z3X), (43, z6Z), (38, yj)]
theorem z0h : ΓOK Tryd.prog vF := za (z6F) (za (z5m) (za (z7I) (za (Y6) (zu))))
def vG : HT := ⟨tabL [(3, .it [] (dyn [.t 5 (.str), .t 6 (.bool), .a 7 3 (.one (.int .i64)), .c 2 0 (.int .i64), .c 2 1 (.int .i64), .c 2 2 (.int .i64), .c 2 3 (.sl 56 (.cons (.int .i64) (.cons (.int .i64) (.one (.int .i64)))))])), (14, .it [] (dyn [.t 7 (.sl 3 (.one (.int .i64))), .b 11 3 56 (.cons (.int .i64) (.cons (.int .i64) (.one (.int .i64))))]))], tabH [(12, [.frz 7])]⟩
abbrev yk : List IT := [.v (.one .str) false]
abbrev YU : List OT := [⟨.cons (.int .i64) (.cons (.int .i64) (.cons (.int .i64) (.one (.sl 56 (.cons (.int .i64) (.cons (.int .i64) (.one (.int .i64)))))))), true, []⟩, ⟨.one (.int .i64), false, []⟩]
set_option maxRecDepth 100000
noncomputable def Zj : List UInt8 → Option ((Int × Int × Int × List (Int × Int × Int)) × Int) := fun a => z6 (cutO a [32]) fun y => zi maxR (fun (x : List UInt8 × Bool × Int × Int × Int × List (Int × Int × Int) × List Int) => ifB x.2.1 (z6 (cutO x.1 [32]) fun y => z6 (vW y.1 10 64) fun y_1 => ifB y_1.2 (mapO Sum.inr (some ((0, 0, 0, []), 1))) (z6 (fmtO y_1.1 10) fun y_2 => ifB (notB (eqS y_2 y.1)) (mapO Sum.inr (some ((0, 0, 0, []), 1))) (ifB (zB 8 x.2.2.2.2.2.2 [y_1.1]) (some (Sum.inl (y.2.1, y.2.2, x.2.2.1, x.2.2.2.1, x.2.2.2.2.1, x.2.2.2.2.2.1, cat x.2.2.2.2.2.2 [y_1.1]))) none))) (mapO Sum.inr (ifB (eqS y.1 [98, 97, 116, 99, 104]) (ifB (eqI (wrem (lenI x.2.2.2.2.2.2) 3) 0) (zi maxR (fun (x : List Int × List (Int × Int × Int)) => ifB (gtI (lenI x.1) 0) (z6 (atI x.1 0) fun y => z6 (atI x.1 1) fun y_1 => z6 (atI x.1 2) fun y_2 => ifB (zB 24 x.2 [(y, y_1, y_2)]) (ifB (in1 x.1 3) (some (Sum.inl (ji x.1 3, cat x.2 [(y, y_1, y_2)]))) none) none) (mapO Sum.inr (z6 (zb (1, 0, 0, x.2)) fun y => ifB (neI y 0) (some ((0, 0, 0, []), y)) (some ((1, 0, 0, x.2), 0))))) (x.2.2.2.2.2.2, [])) (ifB (eqS y.1 [115, 101, 97, 108]) (ifB (eqI (lenI x.2.2.2.2.2.2) 2) (z6 (atI x.2.2.2.2.2.2 0) fun y => z6 (atI x.2.2.2.2.2.2 1) fun y_1 => z6 (zb (2, y, y_1, [])) fun y_2 => ifB (neI y_2 0) (some ((0, 0, 0, []), y_2)) (some ((2, y, y_1, []), 0))) (ifB (eqS y.1 [109, 101, 114, 103, 101]) (ifB (eqI (lenI x.2.2.2.2.2.2) 2) (z6 (atI x.2.2.2.2.2.2 0) fun y => z6 (atI x.2.2.2.2.2.2 1) fun y_1 => z6 (zb (3, y, y_1, [])) fun y_2 => ifB (neI y_2 0) (some ((0, 0, 0, []), y_2)) (some ((3, y, y_1, []), 0))) (ifB (eqS y.1 [100, 114, 111, 112]) (ifB (eqI (lenI x.2.2.2.2.2.2) 1) (z6 (atI x.2.2.2.2.2.2 0) fun y => z6 (zb (4, 0, y, [])) fun y_1 => ifB (neI y_1 0) (some ((0, 0, 0, []), y_1)) (some ((4, 0, y, []), 0))) (some ((0, 0, 0, []), 1))) (some ((0, 0, 0, []), 1)))) (ifB (eqS y.1 [100, 114, 111, 112]) (ifB (eqI (lenI x.2.2.2.2.2.2) 1) (z6 (atI x.2.2.2.2.2.2 0) fun y => z6 (zb (4, 0, y, [])) fun y_1 => ifB (neI y_1 0) (some ((0, 0, 0, []), y_1)) (some ((4, 0, y, []), 0))) (some ((0, 0, 0, []), 1))) (some ((0, 0, 0, []), 1))))) (ifB (eqS y.1 [109, 101, 114, 103, 101]) (ifB (eqI (lenI x.2.2.2.2.2.2) 2) (z6 (atI x.2.2.2.2.2.2 0) fun y => z6 (atI x.2.2.2.2.2.2 1) fun y_1 => z6 (zb (3, y, y_1, [])) fun y_2 => ifB (neI y_2 0) (some ((0, 0, 0, []), y_2)) (some ((3, y, y_1, []), 0))) (ifB (eqS y.1 [100, 114, 111, 112]) (ifB (eqI (lenI x.2.2.2.2.2.2) 1) (z6 (atI x.2.2.2.2.2.2 0) fun y => z6 (zb (4, 0, y, [])) fun y_1 => ifB (neI y_1 0) (some ((0, 0, 0, []), y_1)) (some ((4, 0, y, []), 0))) (some ((0, 0, 0, []), 1))) (some ((0, 0, 0, []), 1)))) (ifB (eqS y.1 [100, 114, 111, 112]) (ifB (eqI (lenI x.2.2.2.2.2.2) 1) (z6 (atI x.2.2.2.2.2.2 0) fun y => z6 (zb (4, 0, y, [])) fun y_1 => ifB (neI y_1 0) (some ((0, 0, 0, []), y_1)) (some ((4, 0, y, []), 0))) (some ((0, 0, 0, []), 1))) (some ((0, 0, 0, []), 1)))))) (ifB (eqS y.1 [115, 101, 97, 108]) (ifB (eqI (lenI x.2.2.2.2.2.2) 2) (z6 (atI x.2.2.2.2.2.2 0) fun y => z6 (atI x.2.2.2.2.2.2 1) fun y_1 => z6 (zb (2, y, y_1, [])) fun y_2 => ifB (neI y_2 0) (some ((0, 0, 0, []), y_2)) (some ((2, y, y_1, []), 0))) (ifB (eqS y.1 [109, 101, 114, 103, 101]) (ifB (eqI (lenI x.2.2.2.2.2.2) 2) (z6 (atI x.2.2.2.2.2.2 0) fun y => z6 (atI x.2.2.2.2.2.2 1) fun y_1 => z6 (zb (3, y, y_1, [])) fun y_2 => ifB (neI y_2 0) (some ((0, 0, 0, []), y_2)) (some ((3, y, y_1, []), 0))) (ifB (eqS y.1 [100, 114, 111, 112]) (ifB (eqI (lenI x.2.2.2.2.2.2) 1) (z6 (atI x.2.2.2.2.2.2 0) fun y => z6 (zb (4, 0, y, [])) fun y_1 => ifB (neI y_1 0) (some ((0, 0, 0, []), y_1)) (some ((4, 0, y, []), 0))) (some ((0, 0, 0, []), 1))) (some ((0, 0, 0, []), 1)))) (ifB (eqS y.1 [100, 114, 111, 112]) (ifB (eqI (lenI x.2.2.2.2.2.2) 1) (z6 (atI x.2.2.2.2.2.2 0) fun y => z6 (zb (4, 0, y, [])) fun y_1 => ifB (neI y_1 0) (some ((0, 0, 0, []), y_1)) (some ((4, 0, y, []), 0))) (some ((0, 0, 0, []), 1))) (some ((0, 0, 0, []), 1))))) (ifB (eqS y.1 [109, 101, 114, 103, 101]) (ifB (eqI (lenI x.2.2.2.2.2.2) 2) (z6 (atI x.2.2.2.2.2.2 0) fun y => z6 (atI x.2.2.2.2.2.2 1) fun y_1 => z6 (zb (3, y, y_1, [])) fun y_2 => ifB (neI y_2 0) (some ((0, 0, 0, []), y_2)) (some ((3, y, y_1, []), 0))) (ifB (eqS y.1 [100, 114, 111, 112]) (ifB (eqI (lenI x.2.2.2.2.2.2) 1) (z6 (atI x.2.2.2.2.2.2 0) fun y => z6 (zb (4, 0, y, [])) fun y_1 => ifB (neI y_1 0) (some ((0, 0, 0, []), y_1)) (some ((4, 0, y, []), 0))) (some ((0, 0, 0, []), 1))) (some ((0, 0, 0, []), 1)))) (ifB (eqS y.1 [100, 114, 111, 112]) (ifB (eqI (lenI x.2.2.2.2.2.2) 1) (z6 (atI x.2.2.2.2.2.2 0) fun y => z6 (zb (4, 0, y, [])) fun y_1 => ifB (neI y_1 0) (some ((0, 0, 0, []), y_1)) (some ((4, 0, y, []), 0))) (some ((0, 0, 0, []), 1))) (some ((0, 0, 0, []), 1)))))))) (y.2.1, y.2.2, 0, 0, 0, [], [])
theorem J7 (x : PI yk) : Zj x = fnE T vF vG vE (zO Tryd.f14) yk YU x := by kernel_rfl
noncomputable abbrev vH : GS := zI false yk YU fun x => Zj x
theorem J8 : GSOK Tryd.prog 14 vH := zC tok z0h fmo (Ht := vG) (fn := Tryd.f14) (Tryd.func14) (c := vE) (by kernel_rfl) (by kernel_rfl) (by kernel_rfl) (by decide +kernel) (by decide) J7
end Go.Proofs.Y
namespace Go.Proofs.Y
open Go.Rb Go.Kx
noncomputable def rrK (k a b : Int) : Option (Rc × Int) := z6 (zb (k, a, b, [])) fun (e : Int) => ifB (neI e 0) (some ((0, 0, 0, []), e)) (some ((k, a, b, []), 0))
noncomputable def rrD (w : List UInt8) (ns : List Int) : Option (Rc × Int) := ifB (eqS w [100, 114, 111, 112]) (ifB (eqI (lenI ns) 1) (z6 (atI ns 0) fun (y : Int) => rrK 4 0 y) (some ((0, 0, 0, []), 1))) (some ((0, 0, 0, []), 1))
noncomputable def rrM (w : List UInt8) (ns : List Int) : Option (Rc × Int) := ifB (eqS w [109, 101, 114, 103, 101]) (ifB (eqI (lenI ns) 2) (z6 (atI ns 0) fun (y : Int) => z6 (atI ns 1) fun (z : Int) => rrK 3 y z) (rrD w ns)) (rrD w ns)
noncomputable def rrS (w : List UInt8) (ns : List Int) : Option (Rc × Int) := ifB (eqS w [115, 101, 97, 108]) (ifB (eqI (lenI ns) 2) (z6 (atI ns 0) fun (y : Int) => z6 (atI ns 1) fun (z : Int) => rrK 2 y z) (rrM w ns)) (rrM w ns)
noncomputable def rrL (ns : List Int) : Option (Rc × Int) := zi maxR (fun (x : List Int × List Ent) => ifB (gtI (lenI x.1) 0) (z6 (atI x.1 0) fun (y : Int) => z6 (atI x.1 1) fun (z : Int) => z6 (atI x.1 2) fun (v : Int) =>
  ifB (zB 24 x.2 [(y, z, v)]) (ifB (in1 x.1 3) (some (Sum.inl (ji x.1 3, cat x.2 [(y, z, v)]))) none) none)
 (mapO Sum.inr (z6 (zb (1, 0, 0, x.2)) fun (e : Int) => ifB (neI e 0) (some ((0, 0, 0, []), e)) (some ((1, 0, 0, x.2), 0))))) (ns, [])
noncomputable def rrB (w : List UInt8) (ns : List Int) : Option (Rc × Int) := ifB (eqS w [98, 97, 116, 99, 104]) (ifB (eqI (wrem (lenI ns) 3) 0) (rrL ns) (rrS w ns)) (rrS w ns)
theorem z71 (a : List UInt8) : Zj a = z6 (cutO a [32]) fun (y : List UInt8 × List UInt8 × Bool) =>
  zi maxR (fun (x : List UInt8 × Bool × Int × Int × Int × List Ent × List Int) => ifB x.2.1
   (z6 (cutO x.1 [32]) fun (y : List UInt8 × List UInt8 × Bool) => z6 (vW y.1 10 64) fun (v : Int × Bool) => ifB v.2 (mapO Sum.inr (some ((0, 0, 0, []), 1)))
    (z6 (fmtO v.1 10) fun (t : List UInt8) => ifB (notB (eqS t y.1)) (mapO Sum.inr (some ((0, 0, 0, []), 1))) (ifB (zB 8 x.2.2.2.2.2.2 [v.1]) (some (Sum.inl (y.2.1, y.2.2, x.2.2.1, x.2.2.2.1, x.2.2.2.2.1, x.2.2.2.2.2.1, cat x.2.2.2.2.2.2 [v.1]))) none)))
   (mapO Sum.inr (rrB y.1 x.2.2.2.2.2.2))) (y.2.1, y.2.2, 0, 0, 0, [], []) := by kernel_rfl
theorem zc9 (k a b : Int) : rrK k a b = some (if zk (k, a, b, []) = 0 then ((k, a, b, []), 0) else (ZL, zk (k, a, b, []))) := by
 unfold rrK
 rw [JT (k, a, b, []) (by simp), z7, zA]
 split <;> rfl
theorem zca (ns : List Int) (h3 : ns.length % 3 = 0) (hl : ns.length ≤ 100000) : rrL ns = some (if zk (1, 0, 0, trip ns) = 0 then ((1, 0, 0, trip ns), 0) else (ZL, zk (1, 0, 0, trip ns))) := by
 unfold rrL
 have key := jQ (f := fun (x : List Int × List Ent) => ifB (gtI (lenI x.1) 0) (z6 (atI x.1 0) fun (y : Int) => z6 (atI x.1 1) fun (z : Int) => z6 (atI x.1 2) fun (v : Int) =>
   ifB (zB 24 x.2 [(y, z, v)]) (ifB (in1 x.1 3) (some (Sum.inl (ji x.1 3, cat x.2 [(y, z, v)]))) none) none)
  (mapO Sum.inr (z6 (zb (1, 0, 0, x.2)) fun (e : Int) => ifB (neI e 0) (some (((0, 0, 0, []) : Rc), e)) (some ((1, 0, 0, x.2), 0)))))
  (G := fun x => some (if zk (1, 0, 0, x.2 ++ trip x.1) = 0 then ((1, 0, 0, x.2 ++ trip x.1), 0) else (ZL, zk (1, 0, 0, x.2 ++ trip x.1)))) (P := fun x => x.1.length % 3 = 0 ∧ x.1.length + x.2.length ≤ 100000) (μ := fun x => x.1.length) ?_ maxR (ns, []) ⟨h3, by simpa using hl⟩ (by unfold maxR; simp only; omega)
 ·simpa using key
 ·rintro ⟨l, acc⟩ ⟨p1, p2⟩ k hk
  simp only at p1 p2 hk ⊢
  rw [ze, Z0, zf]
  match l, p1, p2, hk with
  | [], p1, p2, hk =>
   rw [if_neg (by simp), zm, JT (1, 0, 0, acc) (by simp at p2 ⊢; omega), z7, zA]
   simp only [trip, List.append_nil]
   split <;> rfl
  | [_], p1, _, _ => simp at p1
  | [_, _], p1, _, _ => simp at p1
  | a :: b :: c :: l, p1, p2, hk =>
   simp only [List.length_cons] at p1 p2 hk
   rw [if_pos (by simp only [List.length_cons]; omega)]
   show yb (z6 (some a) fun (y : Int) => z6 (some b) fun (z : Int) => z6 (some c) _) k = _
   rw [z7, z7, z7, ze, zR, if_pos (by simp only [List.length_cons, List.length_nil]; omega), ze, Zy, if_pos ⟨by omega, by simp only [List.length_cons]; omega⟩, zG, Yh, ZG]
   have := hk (l, acc ++ [(a, b, c)]) ⟨by simp only; omega, by simp only [List.length_append, List.length_cons, List.length_nil]; omega⟩ (by simp only; omega)
   refine Eq.trans this ?_
   simp only [trip, List.append_assoc, List.singleton_append]
   rfl
theorem z8h (w v : List UInt8) : eqS w v = decide (w = v) := by unfold eqS; by_cases h : w = v <;> simp [h]
theorem zcb (w : List UInt8) (ns : List Int) (hl : ns.length ≤ 100000) : rrB w ns = some (endP (ixW kindW w 0) ns) := by
 unfold rrB rrS rrM rrD
 simp only [z8h, zK, zw, zf, zb9, zc9]
 by_cases c1 : w = [98, 97, 116, 99, 104]
 ·have n2 : ¬ w = [115, 101, 97, 108] := by rw [c1]; decide
  have n3 : ¬ w = [109, 101, 114, 103, 101] := by rw [c1]; decide
  have n4 : ¬ w = [100, 114, 111, 112] := by rw [c1]; decide
  have e : ixW kindW w 0 = 1 := by rw [c1]; decide
  rw [e, if_pos c1, if_neg n2, if_neg n3, if_neg n4]
  unfold endP ye
  by_cases c2 : ns.length % 3 = 0
  ·rw [if_pos (by omega), zca ns c2 hl, if_pos rfl, if_pos c2]
  ·rw [if_neg (by omega), if_pos rfl, if_neg c2]; rfl
 rw [if_neg c1]
 by_cases c2 : w = [115, 101, 97, 108]
 ·have n3 : ¬ w = [109, 101, 114, 103, 101] := by rw [c2]; decide
  have n4 : ¬ w = [100, 114, 111, 112] := by rw [c2]; decide
  have e : ixW kindW w 0 = 2 := by rw [c2]; decide
  rw [e, if_pos c2, if_neg n3, if_neg n4]
  match ns with
  | [a, b] => rfl
  | [] => rfl
  | [_] => rfl
  | _ :: _ :: _ :: _ => rw [if_neg (by simp only [List.length_cons]; omega)]; rfl
 rw [if_neg c2]
 by_cases c3 : w = [109, 101, 114, 103, 101]
 ·have n4 : ¬ w = [100, 114, 111, 112] := by rw [c3]; decide
  have e : ixW kindW w 0 = 3 := by rw [c3]; decide
  rw [e, if_pos c3, if_neg n4]
  match ns with
  | [a, b] => rfl
  | [] => rfl
  | [_] => rfl
  | _ :: _ :: _ :: _ => rw [if_neg (by simp only [List.length_cons]; omega)]; rfl
 rw [if_neg c3]
 by_cases c4 : w = [100, 114, 111, 112]
 ·have e : ixW kindW w 0 = 4 := by rw [c4]; decide
  rw [e, if_pos c4]
  match ns with
  | [a] => rfl
  | [] => rfl
  | _ :: _ :: _ => rw [if_neg (by simp only [List.length_cons]; omega)]; rfl
 rw [if_neg c4]
 have e : ixW kindW w 0 = 0 ∨ ixW kindW w 0 = -1 := by
  unfold kindW
  by_cases c0 : w = []
  ·rw [c0]; exact .inl (by decide)
  ·refine .inr ?_
   simp only [ixW, if_neg c0, if_neg c1, if_neg c2, if_neg c3, if_neg c4]
 rcases e with e | e <;> rw [e] <;> rfl
def z0i (more : Bool) (s : List UInt8) : List (List UInt8) := if more = true then sp 32 s else []
theorem z9X (x : List UInt8) (r : List (List UInt8)) : nums (x :: r) = match Lib.atoiAll x with | .ok v => if Lib.itoa v = x then (nums r).map (v :: ·) else none | _ => none := rfl
theorem z8i {s : List UInt8} (h : s.length ≤ 100000) : cutO s [32] = some (Lib.cut s [32]) := by unfold cutO; rw [if_pos (by omega)]
theorem z9Y {s : List UInt8} (h : s.length ≤ 100000) : vW s 10 64 = some (endO (Lib.atoiAll s) (Lib.atoiSat s)) := by
 unfold vW
 rw [if_pos ⟨by omega, rfl, rfl⟩, Lib.parseIntB_64, Lib.intSat_64]
theorem z92 (s : List UInt8) (hs : s.length ≤ 60000) : Zj s = some (Z4 s) := by
 have hp : Z4 s = z1u ((sp 32 s).headD []) (sp 32 s).tail := by unfold Z4; rw [if_neg (by omega)]
 rw [z71, z8i (by omega), z7, hp]
 obtain ⟨w, l, m, e, hl, hh, ht⟩ : ∃ w l m, Lib.cut s [32] = (w, l, m) ∧ l.length ≤ 60000 ∧ (sp 32 s).headD [] = w ∧ (sp 32 s).tail = z0i m l := by
  rcases z0I 32 s with hn | ⟨w, l, rfl, hn⟩
  ·exact ⟨s, [], false, z2V hn, by simp, by rw [z0c 32 hn]; rfl, by rw [z0c 32 hn]; rfl⟩
  ·refine ⟨w, l, true, z2W hn, ?_, by rw [jR 32 w l hn]; rfl, by rw [jR 32 w l hn]; rfl⟩
   simp only [List.length_append, List.length_cons] at hs; omega
 rw [e, hh, ht]
 simp only
 have key := jQ (f := fun (x : List UInt8 × Bool × Int × Int × Int × List Ent × List Int) => ifB x.2.1
   (z6 (cutO x.1 [32]) fun (y : List UInt8 × List UInt8 × Bool) => z6 (vW y.1 10 64) fun (v : Int × Bool) => ifB v.2 (mapO Sum.inr (some (((0, 0, 0, []) : Rc), (1 : Int))))
    (z6 (fmtO v.1 10) fun (t : List UInt8) => ifB (notB (eqS t y.1)) (mapO Sum.inr (some ((0, 0, 0, []), 1))) (ifB (zB 8 x.2.2.2.2.2.2 [v.1]) (some (Sum.inl (y.2.1, y.2.2, x.2.2.1, x.2.2.2.1, x.2.2.2.2.1, x.2.2.2.2.2.1, cat x.2.2.2.2.2.2 [v.1]))) none)))
   (mapO Sum.inr (rrB w x.2.2.2.2.2.2)))
  (G := fun x => some (match nums (z0i x.2.1 x.1) with | none => (ZL, 1) | some ns => endP (ixW kindW w 0) (x.2.2.2.2.2.2 ++ ns))) (P := fun x => x.1.length + (if x.2.1 = true then 1 else 0) + x.2.2.2.2.2.2.length ≤ 60001) (μ := fun x => if x.2.1 = true then x.1.length + 1 else 0) ?_ maxR (l, m, 0, 0, 0, [], []) (by simp only [List.length_nil]; split <;> omega) (by unfold maxR; simp only; split <;> omega)
 ·refine key.trans ?_
  rw [z55]; rfl
 ·rintro ⟨t, more, z1, z2, z3, z4, acc⟩ hp k hk
  simp only at hp hk ⊢
  rw [ze]
  cases more with
  | false =>
   rw [if_neg (by decide)] at hp
   rw [vj, zm, zcb w acc (by omega)]
   show some (endP (ixW kindW w 0) acc) = some (endP (ixW kindW w 0) (acc ++ []))
   rw [List.append_nil]
  | true =>
   rw [if_pos rfl] at hp
   rw [Zs, z8i (by omega), z7]
   obtain ⟨v, r, m2, e2, hv, hr, hw, hlt⟩ : ∃ v r m2, Lib.cut t [32] = (v, r, m2) ∧ v.length ≤ t.length ∧ r.length ≤ t.length ∧ z0i true t = v :: z0i m2 r ∧ (m2 = true → r.length < t.length) := by
    rcases z0I 32 t with hn | ⟨v, r, rfl, hn⟩
    ·exact ⟨t, [], false, z2V hn, by omega, by simp, by show sp 32 t = _; rw [z0c 32 hn]; rfl, by simp⟩
    ·refine ⟨v, r, true, z2W hn, by simp, by simp only [List.length_append, List.length_cons]; omega, by show sp 32 _ = _; rw [jR 32 v r hn]; rfl, fun _ => by simp only [List.length_append, List.length_cons]; omega⟩
   rw [e2, hw, z9X]
   simp only
   rw [z9Y (by omega), z7]
   rcases hx : Lib.atoiAll v with n | _ | _
   ·have hb := Lib.atoiAll_bounds hx
    have hf : fmtO n 10 = some (Lib.itoa n) := by unfold fmtO; rw [if_pos ⟨rfl, hb.1, hb.2⟩]
    simp only [endO]
    rw [ze, vj, hf, z7, ze, zW, z8h, zK]
    by_cases c : Lib.itoa n = v
    ·rw [if_pos c, if_pos c, ze, zR, if_pos (by simp only [List.length_cons, List.length_nil]; omega), zG, ZG]
     refine Eq.trans (hk (r, m2, z1, z2, z3, z4, acc ++ [n]) ?_ ?_) ?_
     ·simp only [List.length_append, List.length_cons, List.length_nil]
      cases m2 with
      | true => have := hlt rfl; rw [if_pos rfl]; omega
      | false => rw [if_neg (by decide)]; omega
     ·cases m2 with
      | true => have := hlt rfl; simp only [if_true]; omega
      | false => simp
     ·simp only
      cases nums (z0i m2 r) <;> simp
    ·rw [if_neg c, if_neg c]; rfl
   ·simp only [endO]; rw [ze, Zs]; rfl
   ·simp only [endO]; rw [ze, Zs]; rfl
end Go.Proofs.Y
namespace Go.Proofs.Y
open Go.Rb Go.Kx
noncomputable abbrev z73 : GS := .r (libS [.v (.one .str) false, .v (.one .str) false, .v (.one (.int .i64)) false, .v (.one (.int .i64)) false] (fun x => jC (x.1) (x.2.1) (x.2.2.1) (x.2.2.2)) (Jn 9))
theorem z7J : GSOK Tryd.prog 51 z73 := z9R
end Go.Proofs.Y
namespace Go.Proofs.Y
open Go.Rb Go.Kx
noncomputable def V6 : Code := zq Tryd.f63
noncomputable def V7 : FuncId → Option GS := tabG [(51, z73)]
theorem z0O : ΓOK Tryd.prog V7 := za (z7J) (zu)
def V8 : HT := ⟨tabL [], tabH []⟩
abbrev yE : List IT := [.v (.one .str) false, .v (.one .str) false]
abbrev vI : List OT := [⟨.one (.sl 9 (.one .str)), false, []⟩]
set_option maxRecDepth 100000
noncomputable def Zv : List UInt8 → List UInt8 → Option (List (List UInt8)) := fun a b => z6 (jC a b (lenI b) (-1)) fun y => some y
theorem Jd (x : PI yE) : Zv (x.1) (x.2) = fnE T V7 V8 V6 (zO Tryd.f63) yE vI x := by kernel_rfl
noncomputable abbrev V9 : GS := zI false yE vI fun x => Zv (x.1) (x.2)
theorem Je : GSOK Tryd.prog 63 V9 := zC tok z0O fmo (Ht := V8) (fn := Tryd.f63) (Tryd.func63) (c := V6) (by kernel_rfl) (by kernel_rfl) (by kernel_rfl) (by decide +kernel) (by decide) Jd
end Go.Proofs.Y
namespace Go.Proofs.Y
open Go.Rb Go.Kx
noncomputable abbrev zbb : GS := .r (libS [.v (.one .str) false, .v (.one .str) false] (fun x => sufO (x.1) (x.2)) z5w)
theorem zaR : GSOK Tryd.prog 64 zbb := zc8
end Go.Proofs.Y
namespace Go.Proofs.Y
open Go.Rb Go.Kx
noncomputable def vJ : Code := zq Tryd.f49
noncomputable def vK : FuncId → Option GS := tabG [(63, V9), (64, zbb), (14, vH)]
theorem z0j : ΓOK Tryd.prog vK := za (Je) (za (zaR) (za (J8) (zu)))
def vL : HT := ⟨tabL [(4, .it [] (dyn [.a 7 24 (.cons (.int .i64) (.cons (.int .i64) (.cons (.int .i64) (.one (.sl 56 (.cons (.int .i64) (.cons (.int .i64) (.one (.int .i64))))))))), .t 8 (.int .i64), .t 16 (.int .i64)]))], tabH []⟩
abbrev ym : List IT := [.v (.one .str) false, .v (.one (.int .i64)) false]
abbrev YV : List OT := [⟨.one (.sl 24 (.cons (.int .i64) (.cons (.int .i64) (.cons (.int .i64) (.one (.sl 56 (.cons (.int .i64) (.cons (.int .i64) (.one (.int .i64)))))))))), false, []⟩, ⟨.one (.int .i64), false, []⟩, ⟨.one (.int .i64), false, []⟩]
set_option maxRecDepth 100000
noncomputable def zT : List UInt8 → Int → Option (List (Int × Int × Int × List (Int × Int × Int)) × Int × Int) := fun a b => z6 (Zv a [10]) fun y => zi maxR (fun (x : Int × Int × List (Int × Int × Int × List (Int × Int × Int))) => ifB (ltI x.2.1 (lenI y)) (z6 (atI y x.2.1) fun y => ifB (eqS y []) (mapO Sum.inr (some (x.2.2, x.1, 0))) (z6 (sufO y [10]) fun y_1 => ifB (notB y_1) (mapO Sum.inr (some (x.2.2, x.1, 8))) (ifB (in1 y (wsub .i64 (lenI y) 1)) (z6 (Zj (Yt y (wsub .i64 (lenI y) 1))) fun y_2 => ifB (eqI y_2.2 0) (ifB (geI (lenI x.2.2) b) (mapO Sum.inr (some (x.2.2, x.1, 2))) (ifB (neI y_2.2 0) (mapO Sum.inr (some (x.2.2, x.1, y_2.2))) (ifB (zB 48 x.2.2 [(y_2.1.1, y_2.1.2.1, y_2.1.2.2.1, y_2.1.2.2.2)]) (some (Sum.inl (wadd .i64 x.1 (lenI y), wadd .i64 x.2.1 1, cat x.2.2 [(y_2.1.1, y_2.1.2.1, y_2.1.2.2.1, y_2.1.2.2.2)]))) none))) (ifB (neI y_2.2 0) (mapO Sum.inr (some (x.2.2, x.1, y_2.2))) (ifB (zB 48 x.2.2 [(y_2.1.1, y_2.1.2.1, y_2.1.2.2.1, y_2.1.2.2.2)]) (some (Sum.inl (wadd .i64 x.1 (lenI y), wadd .i64 x.2.1 1, cat x.2.2 [(y_2.1.1, y_2.1.2.1, y_2.1.2.2.1, y_2.1.2.2.2)]))) none))) none))) (mapO Sum.inr (some (x.2.2, x.1, 0)))) (0, 0, [])
theorem J9 (x : PI ym) : zT (x.1) (x.2) = fnE T vK vL vJ (zO Tryd.f49) ym YV x := by kernel_rfl
noncomputable abbrev yF : GS := zI false ym YV fun x => zT (x.1) (x.2)
theorem Yn : GSOK Tryd.prog 49 yF := zC tok z0j fmo (Ht := vL) (fn := Tryd.f49) (Tryd.func49) (c := vJ) (by kernel_rfl) (by kernel_rfl) (by kernel_rfl) (by decide +kernel) (by decide) J9
end Go.Proofs.Y
namespace Go.Proofs.Y
open Go.Rb Go.Kx
noncomputable def YD : Code := zq Tryd.f25
noncomputable def YE : FuncId → Option GS := tabG [(49, yF)]
theorem Jf : ΓOK Tryd.prog YE := za (Yn) (zu)
def YF : HT := ⟨tabL [], tabH []⟩
abbrev ZZ : List IT := [.v (.cons (.sl 5 (.one (.int .u8))) (.one (.sl 5 (.one (.int .u8))))) true]
abbrev Yo : List OT := [⟨.one (.int .i64), false, []⟩]
set_option maxRecDepth 100000
noncomputable def zP : List Int × List Int → Option Int := fun a => ifB (gtI (lenI a.1) 60000) (some 2) (ifB (gtI (lenI a.2) (wsub .i64 60000 (lenI a.1))) (some 2) (z6 (zT (strB a.1) 60) fun y => some y.2.2))
theorem jb (x : PI ZZ) : zP x = fnE T YE YF YD (zO Tryd.f25) ZZ Yo x := by kernel_rfl
noncomputable abbrev y5 : GS := zI false ZZ Yo fun x => zP x
theorem yX : GSOK Tryd.prog 25 y5 := zC tok Jf fmo (Ht := YF) (fn := Tryd.f25) (Tryd.func25) (c := YD) (by kernel_rfl) (by kernel_rfl) (by kernel_rfl) (by decide +kernel) (by decide) jb
end Go.Proofs.Y
namespace Go.Proofs.Y
open Go.Rb Go.Kx
noncomputable def YG : Code := zq Tryd.f30
noncomputable def YH : FuncId → Option GS := tabG [(49, yF), (45, YB), (23, z3W)]
theorem Jg : ΓOK Tryd.prog YH := za (Yn) (za (yW) (za (z5l) (zu)))
def YI : HT := ⟨tabL [], tabH []⟩
abbrev y0 : List IT := [.v (.cons (.sl 5 (.one (.int .u8))) (.one (.sl 5 (.one (.int .u8))))) true]
abbrev Yp : List OT := [⟨.cons (.sl 5 (.one (.int .u8))) (.one (.sl 5 (.one (.int .u8)))), true, []⟩, ⟨.one (.sl 24 (.cons (.int .i64) (.cons (.int .i64) (.cons (.int .i64) (.one (.sl 56 (.cons (.int .i64) (.cons (.int .i64) (.one (.int .i64)))))))))), false, []⟩]
set_option maxRecDepth 100000
noncomputable def Za : List Int × List Int → Option ((List Int × List Int) × List (Int × Int × Int × List (Int × Int × Int))) := fun a => z6 (zT (strB a.1) 60) fun y => z6 (zT (strB a.2) (wsub .i64 60 (lenI y.1))) fun y_1 => ifB (in1 a.2 y_1.2.1) (z6 (ZE [a.1, Yt a.2 y_1.2.1]) fun y_2 => z6 (V5 [y.1, y_1.1]) fun y => some ((y_2, []), y)) none
theorem jc (x : PI y0) : Za x = fnE T YH YI YG (zO Tryd.f30) y0 Yp x := by kernel_rfl
noncomputable abbrev YJ : GS := zI false y0 Yp fun x => Za x
theorem jd : GSOK Tryd.prog 30 YJ := zC tok Jg fmo (Ht := YI) (fn := Tryd.f30) (Tryd.func30) (c := YG) (by kernel_rfl) (by kernel_rfl) (by kernel_rfl) (by decide +kernel) (by decide) jc
end Go.Proofs.Y
namespace Go.Proofs.Y
open Go.Rb Go.Kx
def saL : List (List UInt8) → List (List UInt8)
 | [] => []
 | w :: r => if r = [] then [w] else (w ++ [10]) :: saL r
theorem z7K : ∀ (l : List UInt8), Lib.splitK [10] 1 (Lib.count l [10]) l = saL (sp 10 l) := by
 have key : ∀ (ws : List (List UInt8)), ws ≠ [] → (∀ w ∈ ws, ∀ x ∈ w, x ≠ 10) → Lib.splitK [10] 1 (Lib.count (jn 10 ws) [10]) (jn 10 ws) = saL ws := by
  intro ws
  induction ws with
  | nil => intro h; exact absurd rfl h
  | cons w r ih =>
   intro _ h
   by_cases hr : r = []
   ·subst hr
    simp only [jn, List.map_nil, List.flatten_nil, List.append_nil]
    rw [Lib.count_miss (VH (h w (by simp)))]; rfl
   ·rw [vD _ _ hr]
    have hi : Lib.index (w ++ 10 :: jn 10 r) [10] = w.length := VZ (h w (by simp))
    have hd : (w ++ 10 :: jn 10 r).drop (w.length + [(10 : UInt8)].length) = jn 10 r := by
     rw [List.drop_append]; simp
    have hr2 := ih hr fun w hw => h w (by simp [hw])
    rw [Lib.count_hit (by simp) hi, hd, Nat.add_comm 1, Lib.splitK, if_neg (by rw [hi]; intro e; have := beq_iff_eq.1 e; omega), hi]
    have e : ((w.length : Nat) : Int).toNat = w.length := by omega
    rw [e, hd, hr2, saL, if_neg hr]
    congr 1
    rw [List.take_append, List.take_of_length_le (by omega)]
    simp
 intro l
 have h := key (sp 10 l) (Yz 10 l) (z0G 10 l)
 rw [Jy] at h
 exact h
theorem z8j : ∀ ws : List (List UInt8), (saL ws).length = ws.length
 | [] => rfl
 | w :: r => by
  rw [saL]
  split
  ·rename_i h; subst h; rfl
  ·simp [z8j r]
theorem z8k : ∀ (ws : List (List UInt8)), ∀ t ∈ saL ws, ∃ w ∈ ws, t.length ≤ w.length + 1
 | [], t, h => by cases h
 | w :: r, t, h => by
  rw [saL] at h
  split at h
  ·rw [List.mem_singleton.1 h]; exact ⟨w, by simp, by omega⟩
  ·rcases List.mem_cons.1 h with rfl | h
   ·exact ⟨w, by simp, by simp⟩
   ·obtain ⟨v, hv, h2⟩ := z8k r t h
    exact ⟨v, List.mem_cons_of_mem _ hv, h2⟩
def lnA (most : Int) : List (List UInt8) → Int → List Rc → List Rc × Int × Int
 | [], n, acc => (acc, n, 0)
 | t :: r, n, acc => if t = [] then (acc, n, 0) else if Lib.hasSuffix t [10] = false then (acc, n, 8) else
  if (Z4 (t.take (t.length - 1))).2 = 0 then (if most ≤ (acc.length : Int) then (acc, n, 2) else lnA most r (n + t.length) (acc ++ [(Z4 (t.take (t.length - 1))).1])) else (acc, n, (Z4 (t.take (t.length - 1))).2)
theorem zbH (w : List UInt8) : Lib.hasSuffix (w ++ [10]) [10] = true := by
 unfold Lib.hasSuffix
 simp
theorem zaS {w : List UInt8} (h : ∀ x ∈ w, x ≠ 10) (hw : w ≠ []) : Lib.hasSuffix w [10] = false := by
 cases hq : Lib.hasSuffix w [10] with
 | false => rfl
 | true =>
  exfalso
  unfold Lib.hasSuffix at hq
  have h2 : [(10 : UInt8)] <:+ w := by simpa using hq
  obtain ⟨v, hv⟩ := h2
  exact h 10 (by rw [← hv]; simp) rfl
theorem z9Z (most all : Int) : ∀ (ws : List (List UInt8)) (n : Int) (acc : List Rc), ws ≠ [] → (∀ w ∈ ws, ∀ x ∈ w, x ≠ 10) → (acc.length : Int) ≤ most → n = all - (jn 10 ws).length → lnA most (saL ws) n acc = lnW most all ws acc
 | [], n, acc, h, _, _, _ => absurd rfl h
 | w :: r, n, acc, _, hc, hm, hn => by
  rw [saL, lnW]
  by_cases hr : r = []
  ·subst hr
   rw [if_pos rfl, if_pos rfl, lnA]
   simp only [jn, List.map_nil, List.flatten_nil, List.append_nil] at hn
   by_cases hw : w = []
   ·subst hw; rw [if_pos rfl, if_pos rfl, hn]; simp
   ·rw [if_neg hw, if_neg hw, zaS (hc w (by simp)) hw, if_pos rfl, hn]
  ·have hj := vD 10 w hr
   have hl : ((jn 10 (w :: r)).length : Int) = w.length + 1 + (jn 10 r).length := by rw [hj]; simp; omega
   have ht : (w ++ [10]).take ((w ++ [(10 : UInt8)]).length - 1) = w := by simp
   rw [if_neg hr, if_neg hr, lnA, if_neg (by simp), zbH, if_neg (by decide), ht]
   by_cases hp : (Z4 w).2 = 0
   ·rw [if_pos hp, if_pos hp]
    by_cases hq : (acc.length : Int) = most
    ·rw [if_pos (by omega), if_pos hq, hn]
    ·rw [if_neg (by omega), if_neg hq]
     refine z9Z most all r _ _ hr (fun v hv => hc v (List.mem_cons_of_mem _ hv)) (by simp only [List.length_append, List.length_cons, List.length_nil]; omega) ?_
     simp only [List.length_append, List.length_cons, List.length_nil]
     omega
   ·rw [if_neg hp, if_neg hp, hn]
theorem z0P (s : List UInt8) (most : Int) (hs : s.length ≤ 60000) (hm : 0 ≤ most) : zT s most = some (lnP most s) := by
 unfold zT
 have e1 : Zv s [10] = some (saL (sp 10 s)) := by
  unfold Zv jC
  rw [if_pos ⟨⟨by omega, by simp⟩, rfl, by rw [zf]; simp, by rw [zf]; simp⟩, z7, zf]
  exact congrArg some (z7K s)
 have e2 : lnP most s = lnA most (saL (sp 10 s)) 0 [] := by
  unfold lnP
  exact (z9Z most s.length (sp 10 s) 0 [] (Yz 10 s) (z0G 10 s) (by simpa using hm) (by rw [Jy]; omega)).symm
 have hlen : (saL (sp 10 s)).length ≤ 60001 := by rw [z8j]; have := z3w 10 s; omega
 have htl : ∀ t ∈ saL (sp 10 s), t.length ≤ 60001 := fun t ht => by
  obtain ⟨w, hw, h2⟩ := z8k _ t ht
  have := z4i 10 s w hw
  omega
 rw [e1, z7, e2]
 generalize saL (sp 10 s) = ts at *
 refine Z9 ts (fun j (x : Int × List Rc) => (x.1, (j : Int), x.2)) (G := fun rest x => some (lnA most rest x.1 x.2)) (P := fun j x => (0 ≤ x.1 ∧ x.1 ≤ 60001 * j) ∧ x.2.length ≤ j) (s0 := (0, [])) ?_ ?_ ⟨⟨by simp, by simp⟩, by simp⟩ (by omega)
 ·rintro j ⟨n, acc⟩ hj ⟨⟨p0, p1⟩, p2⟩ k hk
  have hat := ZT hj
  have hmem : ts.getD j default ∈ ts := by simp only [List.getD, List.getElem?_eq_getElem hj, Option.getD_some]; exact List.getElem_mem hj
  have ht := htl _ hmem
  generalize ts.getD j default = t at *
  simp only at p0 p1 p2 hk ⊢
  rw [ze, zt, zf, if_pos (by omega), hat, z7, ze, zm, lnA, yx]
  by_cases c0 : t = []
  ·rw [if_pos c0, if_pos c0]
  ·have hpos : 0 < t.length := List.length_pos_iff.2 c0
   have hsu : sufO t [10] = some (Lib.hasSuffix t [10]) := by unfold sufO; rw [if_pos (by omega)]
   rw [if_neg c0, if_neg c0, hsu, z7, ze, zm, zW]
   cases hq : Lib.hasSuffix t [10] with
   | false => rw [vj, if_pos rfl]
   | true =>
    have e3 : Yt t (wsub .i64 (lenI t) 1) = t.take (t.length - 1) := by
     rw [ZI, zf, y9 ⟨by omega, by omega⟩]
     congr 1; omega
    rw [Zs, if_neg (by decide), ze, Zy, zf, y9 ⟨by omega, by omega⟩, if_pos ⟨by omega, by omega⟩]
    rw [zf, y9 ⟨by omega, by omega⟩] at e3
    rw [e3, z92 _ (by rw [List.length_take]; omega), z7]
    generalize Z4 (t.take (t.length - 1)) = p at *
    rw [ze, zw]
    by_cases c1 : p.2 = 0
    ·rw [if_pos c1, if_pos c1, ze, yw, zf]
     by_cases c2 : most ≤ (acc.length : Int)
     ·rw [if_pos c2, if_pos c2, zm]
     ·rw [if_neg c2, if_neg c2, ze, zA, if_pos c1, ze, zR, if_pos (by simp only [List.length_cons, List.length_nil]; omega), zG, ZG, yy ⟨by omega, by omega⟩, ZB (by omega)]
      exact hk (n + t.length, acc ++ [p.1]) ⟨⟨by simp only; omega, by simp only; push_cast; omega⟩, by simp only [List.length_append, List.length_cons, List.length_nil]; omega⟩
    ·rw [if_neg c1, if_neg c1, ze, zm, zA, if_neg c1]
 ·rintro ⟨n, acc⟩ _ k
  simp only
  rw [ze, zm, zt, zf, if_neg (by omega)]; rfl
end Go.Proofs.Y
namespace Go.Proofs.Y
open Go.Rb Go.Kx
theorem z25 (d : List UInt8 × List UInt8) (h1 : d.1.length < 4611686018427387904) (h2 : d.2.length < 4611686018427387904) : zP (bytB d.1, bytB d.2) = some (zE d) := by
 unfold zP zE
 simp only [Yi]
 rw [Z0, Z0, zf, zf, zJ, zJ]
 by_cases c1 : 60000 < d.1.length
 ·rw [if_pos (by omega), if_pos c1]
 ·rw [if_neg (by omega), if_neg c1, y9 ⟨by omega, by omega⟩]
  by_cases c2 : 60000 - d.1.length < d.2.length
  ·rw [if_pos (by omega), if_pos c2]
  ·rw [if_neg (by omega), if_neg c2, z0P _ _ (by omega) (by omega), z7]
theorem z74 {d : List UInt8 × List UInt8} (h : zE d = 0) : Za (bytB d.1, bytB d.2) = some (bD (zF d).1, (zF d).2.1) := by
 have hlen := yg h
 have hb := z11 h
 have e : zF d = ((d.1 ++ d.2.take (vk d).2.1.toNat, []), (lnP 60 d.1).1 ++ (vk d).1, 0) := by unfold zF; rw [if_pos h]
 have n1 := z6W d.1
 have hm := zb8 (60 - ((lnP 60 d.1).1.length : Int)) d.2
 have h60 := hb.2.1
 rw [e] at h60
 simp only [List.length_append] at h60
 unfold Za
 simp only [Yi]
 rw [z0P _ _ (by omega) (by omega), z7, zf, y9 ⟨by omega, by omega⟩, z0P _ _ (by omega) (by omega), z7, Zy, if_pos ⟨hm.1, by rw [zJ]; exact hm.2⟩, ZI, JI, YQ _ _ (by rw [List.length_take]; omega), z7]
 unfold vk at e h60
 rw [z7E _ _ h60, z7, e]
 rfl
end Go.Proofs.Y
namespace Go.Proofs.Y
open Go.Rb Go.Kx
noncomputable def z77 : Code := zq Tryd.f39
noncomputable def z78 : FuncId → Option GS := tabG [(32, z3C)]
theorem zaT : ΓOK Tryd.prog z78 := za (z1C) (zu)
def z79 : HT := ⟨tabL [(1, .it [] (dyn [.t 7 (.int .i64), .b 1 0 9 (.one .str)]))], tabH [(0, [.frz 0])]⟩
noncomputable def z7a : GS := inl T z78 z79 z77 (zO Tryd.f39) (Tryd.f39.ntmps)
theorem z7L : GSOK Tryd.prog 39 z7a := z3r tok zaT fmo (Ht := z79) (fn := Tryd.f39) (Tryd.func39) (c := z77) (by kernel_rfl) (by kernel_rfl) (by kernel_rfl)
end Go.Proofs.Y
namespace Go.Proofs.Y
open Go.Rb Go.Kx Go.Proofs
def join_ren : Go.Shelf.Ren := ⟨fun | 156 => 40 | 165 => 56 | 166 => 57 | 169 => 58 | 240 => 72 | 241 => 73 | 276 => 86 | 277 => 87 | n => n, fun | 31 => 57 | 9 => 9 | 3 => 3 | 4 => 4 | 0 => 0 | 20 => 20 | 72 => 91 | 76 => 66 | 70 => 89 | 37 => 35 | 75 => 65 | 127 => 103 | 164 => 121 | 5 => 5 | 80 => 93 | n => n, fun | n => n⟩
theorem za0 : Go.Proofs.Lays.n156 Tryd.prog join_ren := {
 mixed := by kernel_rfl
 f156 := Tryd.func40.trans (congrArg some (by kernel_rfl))
 f165 := Tryd.func56.trans (congrArg some (by kernel_rfl))
 f166 := Tryd.func57.trans (congrArg some (by kernel_rfl))
 f169 := Tryd.func58.trans (congrArg some (by kernel_rfl))
 f240 := Tryd.func72.trans (congrArg some (by kernel_rfl))
 f241 := Tryd.func73.trans (congrArg some (by kernel_rfl))
 f276 := Tryd.func86.trans (congrArg some (by kernel_rfl))
 f277 := Tryd.func87.trans (congrArg some (by kernel_rfl))
 t0 := Tryd.underlying0
 a0 := Tryd.isAgg0
 z0 := Tryd.sizeOf0
 v0 := Tryd.zeroValue0
 t3 := Tryd.underlying3
 a3 := Tryd.isAgg3
 z3 := Tryd.sizeOf3
 v3 := Tryd.zeroValue3
 t4 := Tryd.underlying4
 a4 := Tryd.isAgg4
 z4 := Tryd.sizeOf4
 v4 := Tryd.zeroValue4
 t9 := Tryd.underlying9
 a9 := Tryd.isAgg9
 z9 := Tryd.sizeOf9
 v9 := Tryd.zeroValue9
 t20 := Tryd.underlying20
 a20 := Tryd.isAgg20
 z20 := Tryd.sizeOf20
 v20 := Tryd.zeroValue20
 t31 := Tryd.underlying57
 a31 := Tryd.isAgg57
 z31 := Tryd.sizeOf57
 v31 := Tryd.zeroValue57
 t37 := Tryd.underlying35
 a37 := Tryd.isAgg35
 z37 := Tryd.sizeOf35
 v37 := Tryd.zeroValue35
 t70 := Tryd.underlying89
 a70 := Tryd.isAgg89
 z70 := Tryd.sizeOf89
 v70 := Tryd.zeroValue89
 t72 := Tryd.underlying91
 a72 := Tryd.isAgg91
 z72 := Tryd.sizeOf91
 v72 := Tryd.zeroValue91
 t75 := Tryd.underlying65
 a75 := Tryd.isAgg65
 z75 := Tryd.sizeOf65
 v75 := Tryd.zeroValue65
 t76 := Tryd.underlying66
 a76 := Tryd.isAgg66
 z76 := Tryd.sizeOf66
 v76 := Tryd.zeroValue66
 t127 := Tryd.underlying103
 a127 := Tryd.isAgg103
 z127 := Tryd.sizeOf103
 v127 := Tryd.zeroValue103
 t164 := Tryd.underlying121
 a164 := Tryd.isAgg121
 z164 := Tryd.sizeOf121
 v164 := Tryd.zeroValue121 }
theorem z93 : Builder.Extra Tryd.prog join_ren := {
 sizeBuilder := by kernel_rfl
 liesBuilder := by kernel_rfl
 t5 := Tryd.underlying5
 a5 := Tryd.isAgg5
 z5 := Tryd.sizeOf5
 v5 := Tryd.zeroValue5
 infoByte := by kernel_rfl
 cellsByte := by kernel_rfl
 sizeByte := by kernel_rfl
 neB5 := by decide }
theorem za1 : zV Tryd.prog (join_ren.f 156) := ⟨Tryd.f40, zq Tryd.f40, Tryd.func40, by kernel_rfl, by kernel_rfl⟩
theorem zbI : GSOK Tryd.prog 40 (.r (libS (isLS 9) (fun x => VL (x.1) (x.2)) gStr)) := z9D 9 za0 z93 za1
end Go.Proofs.Y
namespace Go.Proofs.Y
open Go.Rb Go.Kx
noncomputable abbrev za2 : GS := .r (libS [.v (.one (.sl 9 (.one .str))) false, .v (.one .str) false] (fun x => VL (x.1) (x.2)) gStr)
theorem za3 : GSOK Tryd.prog 40 za2 := zbI
end Go.Proofs.Y
namespace Go.Proofs.Y
open Go.Rb Go.Kx
noncomputable def vM : Code := zq Tryd.f11
noncomputable def vN : FuncId → Option GS := tabG [(38, yj), (39, z7a), (40, za2)]
theorem z0k : ΓOK Tryd.prog vN := za (Y6) (za (z7L) (za (za3) (zu)))
def vO : HT := ⟨tabL [(12, .it [] (dyn [.t 29 (.int .i64), .b 5 0 9 (.one .str)]))], tabH []⟩
abbrev yn : List IT := [.v (.cons (.int .i64) (.cons (.int .i64) (.cons (.int .i64) (.one (.sl 56 (.cons (.int .i64) (.cons (.int .i64) (.one (.int .i64))))))))) true]
abbrev YW : List OT := [⟨.one .str, false, []⟩, ⟨.one (.int .i64), false, []⟩]
set_option maxRecDepth 100000
noncomputable def Zk : Int × Int × Int × List (Int × Int × Int) → Option (List UInt8 × Int) := fun a => z6 (zb (a.1, a.2.1, a.2.2.1, a.2.2.2)) fun y => ifB (neI y 0) (some ([], y)) (ifB (eqI a.1 1) (zi maxR (fun (x : Int × List (List UInt8)) => ifB (ltI x.1 (lenI a.2.2.2)) (z6 (atI a.2.2.2 x.1) fun y => zi maxR (fun (x_1 : Int × List (List UInt8)) => ifB (ltI x_1.1 (lenI [y.1, y.2.1, y.2.2])) (z6 (atI [y.1, y.2.1, y.2.2] x_1.1) fun y => z6 (Zo y) fun y => ifB (zB 16 x_1.2 [y]) (some (Sum.inl (wadd .i64 x_1.1 1, cat x_1.2 [y]))) none) (mapO Sum.inr (some (Sum.inl (wadd .i64 x.1 1, x_1.2))))) (0, x.2)) (mapO Sum.inr (z6 (VL x.2 [32]) fun y => some (y, 0)))) (0, [[98, 97, 116, 99, 104]])) (ifB (eqI a.1 2) (zi maxR (fun (x : Int × List (List UInt8)) => ifB (ltI x.1 (lenI [a.2.1, a.2.2.1])) (z6 (atI [a.2.1, a.2.2.1] x.1) fun y => z6 (Zo y) fun y => ifB (zB 16 x.2 [y]) (some (Sum.inl (wadd .i64 x.1 1, cat x.2 [y]))) none) (mapO Sum.inr (z6 (VL x.2 [32]) fun y => some (y, 0)))) (0, [ifB (eqI a.1 2) [115, 101, 97, 108] (ifB (eqI a.1 3) [109, 101, 114, 103, 101] [])])) (ifB (eqI a.1 3) (zi maxR (fun (x : Int × List (List UInt8)) => ifB (ltI x.1 (lenI [a.2.1, a.2.2.1])) (z6 (atI [a.2.1, a.2.2.1] x.1) fun y => z6 (Zo y) fun y => ifB (zB 16 x.2 [y]) (some (Sum.inl (wadd .i64 x.1 1, cat x.2 [y]))) none) (mapO Sum.inr (z6 (VL x.2 [32]) fun y => some (y, 0)))) (0, [ifB (eqI a.1 2) [115, 101, 97, 108] (ifB (eqI a.1 3) [109, 101, 114, 103, 101] [])])) (zi maxR (fun (x : Int × List (List UInt8)) => ifB (ltI x.1 (lenI [a.2.2.1])) (z6 (atI [a.2.2.1] x.1) fun y => z6 (Zo y) fun y => ifB (zB 16 x.2 [y]) (some (Sum.inl (wadd .i64 x.1 1, cat x.2 [y]))) none) (mapO Sum.inr (z6 (VL x.2 [32]) fun y => some (y, 0)))) (0, [[100, 114, 111, 112]])))))
theorem Ja (x : PI yn) : Zk x = fnE T vN vO vM (zO Tryd.f11) yn YW x := by kernel_rfl
noncomputable abbrev vP : GS := zI false yn YW fun x => Zk x
theorem Jb : GSOK Tryd.prog 11 vP := zC tok z0k fmo (Ht := vO) (fn := Tryd.f11) (Tryd.func11) (c := vM) (by kernel_rfl) (by kernel_rfl) (by kernel_rfl) (by decide +kernel) (by decide) Ja
end Go.Proofs.Y
namespace Go.Proofs.Y
open Go.Rb Go.Kx
theorem z8l {α : Type} (ns : List Int) (hn : ∀ n ∈ ns, z0F n) (hl : ns.length ≤ 1000) (F : List (List UInt8) → Option α) (s : List (List UInt8)) (hs : s.length ≤ 100000) :
  zi maxR (fun (x : Int × List (List UInt8)) => ifB (ltI x.1 (lenI ns)) (z6 (atI ns x.1) fun (y : Int) => z6 (Zo y) fun (t : List UInt8) => ifB (zB 16 x.2 [t]) (some (Sum.inl (wadd .i64 x.1 1, cat x.2 [t]))) none) (mapO Sum.inr (F x.2))) (0, s) = F (s ++ ns.map Lib.itoa) := by
 refine Z9 ns (fun j (s : List (List UInt8)) => ((j : Int), s)) (G := fun rest s => F (s ++ rest.map Lib.itoa)) (P := fun j s => s.length ≤ 100000 + j) (s0 := s) ?_ ?_ (by simpa using hs) (by omega)
 ·rintro j acc hj hp k hk
  have hat := ZT hj
  have hm : ns.getD j default ∈ ns := z30 hj
  have hb := hn _ hm
  generalize ns.getD j default = n at *
  have hi : Zo n = some (Lib.itoa n) := by unfold Zo; exact if_pos hb
  simp only at hp ⊢
  rw [ze, zt, zf, if_pos (by omega), hat, z7, hi, z7, ze, zR, if_pos (by simp only [List.length_cons, List.length_nil]; omega), zG, ZB (by omega), ZG, hk _ (by simp only [List.length_append, List.length_cons, List.length_nil]; omega), List.append_assoc]
  rfl
 ·rintro acc hp k
  simp only
  rw [ze, zm, zt, zf, if_neg (by omega)]
  simp
theorem zbJ (c : UInt8) (w : List UInt8) (r : List (List UInt8)) : Lib.join (w :: r) [c] = jn c (w :: r) := by
 rw [Lib.join_cons]; rfl
noncomputable def finT (ws : List (List UInt8)) : Option (List UInt8 × Int) := z6 (VL ws [32]) fun (y : List UInt8) => some (y, 0)
theorem z8m {w : List UInt8} {r : List (List UInt8)} (h : (jn 32 (w :: r)).length ≤ 100000) (hl : r.length ≤ 100000) : finT (w :: r) = some (jn 32 (w :: r), 0) := by
 unfold finT VL
 rw [zbJ, if_pos ⟨by simp only [List.length_cons]; omega, by omega⟩, z7]
noncomputable def rtS (ns : List Int) (w : List UInt8) : Option (List UInt8 × Int) :=
 zi maxR (fun (x : Int × List (List UInt8)) => ifB (ltI x.1 (lenI ns)) (z6 (atI ns x.1) fun (y : Int) => z6 (Zo y) fun (t : List UInt8) => ifB (zB 16 x.2 [t]) (some (Sum.inl (wadd .i64 x.1 1, cat x.2 [t]))) none) (mapO Sum.inr (finT x.2))) (0, [w])
theorem z7b (a : Rc) : Zk a = z6 (zb a) fun (e : Int) => ifB (neI e 0) (some ([], e)) (ifB (eqI a.1 1)
  (zi maxR (fun (x : Int × List (List UInt8)) => ifB (ltI x.1 (lenI a.2.2.2)) (z6 (atI a.2.2.2 x.1) fun (z : Ent) =>
    zi maxR (fun (v : Int × List (List UInt8)) => ifB (ltI v.1 (lenI [z.1, z.2.1, z.2.2])) (z6 (atI [z.1, z.2.1, z.2.2] v.1) fun (y : Int) => z6 (Zo y) fun (t : List UInt8) => ifB (zB 16 v.2 [t]) (some (Sum.inl (wadd .i64 v.1 1, cat v.2 [t]))) none) (mapO Sum.inr (some (Sum.inl (wadd .i64 x.1 1, v.2))))) (0, x.2))
   (mapO Sum.inr (finT x.2))) (0, [[98, 97, 116, 99, 104]]))
  (ifB (eqI a.1 2) (rtS [a.2.1, a.2.2.1] (ifB (eqI a.1 2) [115, 101, 97, 108] (ifB (eqI a.1 3) [109, 101, 114, 103, 101] [])))
   (ifB (eqI a.1 3) (rtS [a.2.1, a.2.2.1] (ifB (eqI a.1 2) [115, 101, 97, 108] (ifB (eqI a.1 3) [109, 101, 114, 103, 101] []))) (rtS [a.2.2.1] [100, 114, 111, 112])))) := by kernel_rfl
theorem z7c {ns : List Int} {w : List UInt8} (hn : ∀ n ∈ ns, z0F n) (hl : ns.length ≤ 1000) (h : (jn 32 (w :: ns.map Lib.itoa)).length ≤ 100000) : rtS ns w = some (jn 32 (w :: ns.map Lib.itoa), 0) := by
 unfold rtS
 refine (z8l ns hn hl finT [w] (by simp)).trans ?_
 exact z8m (w := w) (r := ns.map Lib.itoa) h (by rw [List.length_map]; omega)
theorem z94 (r : Rc) (hl : r.2.2.2.length < 4611686018427387904) : Zk r = some (jS r) := by
 rw [z7b, JT r hl, z7, zA]
 unfold jS
 by_cases hc : zk r = 0
 ·rw [if_pos hc, if_pos hc]
  have htl := JB hc
  obtain ⟨a1, a2⟩ := z2l hc
  obtain ⟨k1, k2, k3, k4⟩ := ZD hc
  obtain ⟨k, i, n, l⟩ := r
  simp only at k1 k2 k3 k4 a1 a2 htl hl ⊢
  have hin : ∀ m ∈ Zu (k, i, n, l), z0F m := fun m hm => by have := a2 m hm; unfold z0F; omega
  unfold Z2 at htl ⊢
  rw [zw]
  by_cases c1 : k = 1
  ·subst c1
   have e1 : Zu (1, i, n, l) = zZ l := rfl
   have e2 : kindW.getD (1 : Int).toNat [] = [98, 97, 116, 99, 104] := rfl
   rw [e1] at hin a1
   rw [e1, e2] at htl ⊢
   rw [if_pos rfl]
   have hl10 := jT l
   have key := Z9 l (fun j (s : List (List UInt8)) => ((j : Int), s)) (f := fun (x : Int × List (List UInt8)) => ifB (ltI x.1 (lenI l)) (z6 (atI l x.1) fun (z : Ent) =>
     zi maxR (fun (v : Int × List (List UInt8)) => ifB (ltI v.1 (lenI [z.1, z.2.1, z.2.2])) (z6 (atI [z.1, z.2.1, z.2.2] v.1) fun (y : Int) => z6 (Zo y) fun (t : List UInt8) => ifB (zB 16 v.2 [t]) (some (Sum.inl (wadd .i64 v.1 1, cat v.2 [t]))) none) (mapO Sum.inr (some (Sum.inl (wadd .i64 x.1 1, v.2))))) (0, x.2))
    (mapO Sum.inr (finT x.2))) (G := fun rest s => finT (s ++ (zZ rest).map Lib.itoa)) (P := fun j s => s.length ≤ 1 + 3 * j) (s0 := [[98, 97, 116, 99, 104]]) ?_ ?_ (by simp) (by omega)
   ·refine key.trans ?_
    exact z8m (w := [98, 97, 116, 99, 104]) (r := (zZ l).map Lib.itoa) (by omega) (by rw [List.length_map]; omega)
   ·rintro j acc hj hp kk hk
    have hat := ZT hj
    have hm : l.getD j default ∈ l := z30 hj
    have hz : ∀ m ∈ [(l.getD j default).1, (l.getD j default).2.1, (l.getD j default).2.2], z0F m := by
     have hsub : ∀ (l : List Ent) (z : Ent), z ∈ l → ∀ m ∈ [z.1, z.2.1, z.2.2], m ∈ zZ l := by
      intro l z hz
      induction l with
      | nil => cases hz
      | cons x r ih =>
       intro m hm
       rw [zZ]
       rcases List.mem_cons.1 hz with rfl | hz
       ·simp only [List.mem_cons, List.not_mem_nil, or_false] at hm
        rcases hm with rfl | rfl | rfl <;> simp
       ·have := ih hz m hm; simp [this]
     exact fun m hm' => hin m (hsub l _ hm m hm')
    generalize l.getD j default = z at *
    simp only at hp ⊢
    rw [ze, zt, zf, if_pos (by omega), hat, z7]
    have := z8l [z.1, z.2.1, z.2.2] hz (by simp) (fun s => (some (Sum.inl (wadd .i64 (j : Int) 1, s)) : Option (Sum (Int × List (List UInt8)) (List UInt8 × Int)))) acc (by omega)
    rw [this, zG, ZB (by omega), hk _ (by simp only [List.length_append, List.length_map, List.length_cons, List.length_nil]; omega), zZ]
    simp only [List.map_cons, List.map_nil, List.append_assoc, List.cons_append, List.nil_append]
   ·rintro acc hp kk
    simp only
    rw [ze, zm, zt, zf, if_neg (by omega)]
    simp [zZ]
  ·rw [if_neg c1, zw]
   have : k = 2 ∨ k = 3 ∨ k = 4 := by omega
   rcases this with rfl | rfl | rfl
   ·rw [if_pos rfl]
    exact z7c (w := [115, 101, 97, 108]) hin (by simp) (by exact Nat.le_trans htl (by omega))
   ·rw [if_neg (by omega), zw, if_pos rfl]
    exact z7c (w := [109, 101, 114, 103, 101]) hin (by simp) (by exact Nat.le_trans htl (by omega))
   ·rw [if_neg (by omega), zw, if_neg (by omega)]
    exact z7c (w := [100, 114, 111, 112]) hin (by simp) (by exact Nat.le_trans htl (by omega))
 ·rw [if_neg hc, if_neg hc]
end Go.Proofs.Y
namespace Go.Proofs.Y
open Go.Rb Go.Kx
noncomputable def Vk : Code := zq Tryd.f28
noncomputable def Vl : FuncId → Option GS := tabG [(11, vP), (45, YB)]
theorem z14 : ΓOK Tryd.prog Vl := za (Jb) (za (yW) (zu))
def Vm : HT := ⟨tabL [], tabH []⟩
abbrev yS : List IT := [.v (.cons (.sl 5 (.one (.int .u8))) (.one (.sl 5 (.one (.int .u8))))) true, .v (.cons (.int .i64) (.cons (.int .i64) (.cons (.int .i64) (.one (.sl 56 (.cons (.int .i64) (.cons (.int .i64) (.one (.int .i64))))))))) true]
abbrev Va : List OT := [⟨.cons (.sl 5 (.one (.int .u8))) (.one (.sl 5 (.one (.int .u8)))), true, []⟩, ⟨.one (.int .i64), false, []⟩]
set_option maxRecDepth 100000
noncomputable def ZA : List Int × List Int → Int × Int × Int × List (Int × Int × Int) → Option ((List Int × List Int) × Int) := fun a b => z6 (Zk (b.1, b.2.1, b.2.2.1, b.2.2.2)) fun y => ifB (neI y.2 0) (some (([], []), y.2)) (ifB (gtI (wadd .i64 (wadd .i64 (wadd .i64 (lenI a.1) (lenI a.2)) (lenI y.1)) 1) 60000) (some (([], []), 2)) (ifB (Ys y.1 [10]) (z6 (ZE [a.2, bytB (catS y.1 [10])]) fun y => some ((a.1, y), 0)) none))
theorem JU (x : PI yS) : ZA (x.1) (x.2) = fnE T Vl Vm Vk (zO Tryd.f28) yS Va x := by kernel_rfl
noncomputable abbrev Vn : GS := zI false yS Va fun x => ZA (x.1) (x.2)
theorem JV : GSOK Tryd.prog 28 Vn := zC tok z14 fmo (Ht := Vm) (fn := Tryd.f28) (Tryd.func28) (c := Vk) (by kernel_rfl) (by kernel_rfl) (by kernel_rfl) (by decide +kernel) (by decide) JU
end Go.Proofs.Y
namespace Go.Proofs.Y
open Go.Rb Go.Kx
noncomputable def Vb : Code := zq Tryd.f29
noncomputable def Vc : FuncId → Option GS := tabG [(45, YB), (25, y5)]
theorem z0Q : ΓOK Tryd.prog Vc := za (yW) (za (yX) (zu))
def Vd : HT := ⟨tabL [], tabH []⟩
abbrev yG : List IT := [.v (.cons (.sl 5 (.one (.int .u8))) (.one (.sl 5 (.one (.int .u8))))) true]
abbrev vQ : List OT := [⟨.cons (.sl 5 (.one (.int .u8))) (.one (.sl 5 (.one (.int .u8)))), true, []⟩, ⟨.one (.int .i64), false, []⟩]
set_option maxRecDepth 100000
noncomputable def Zw : List Int × List Int → Option ((List Int × List Int) × Int) := fun a => z6 (ZE [a.1, a.2]) fun y => z6 (zP (y, [])) fun y_1 => ifB (neI y_1 0) (some (([], []), y_1)) (some ((y, []), 0))
theorem Jh (x : PI yG) : Zw x = fnE T Vc Vd Vb (zO Tryd.f29) yG vQ x := by kernel_rfl
noncomputable abbrev Ve : GS := zI false yG vQ fun x => Zw x
theorem Ji : GSOK Tryd.prog 29 Ve := zC tok z0Q fmo (Ht := Vd) (fn := Tryd.f29) (Tryd.func29) (c := Vb) (by kernel_rfl) (by kernel_rfl) (by kernel_rfl) (by decide +kernel) (by decide) Jh
end Go.Proofs.Y
namespace Go.Proofs.Y
open Go.Rb Go.Kx
noncomputable def YX : Code := zq Tryd.f27
noncomputable def YY : FuncId → Option GS := tabG [(48, z22)]
theorem JW : ΓOK Tryd.prog YY := za (z23) (zu)
def YZ : HT := ⟨tabL [], tabH []⟩
abbrev y6 : List IT := [.v (.cons (.sl 5 (.one (.int .u8))) (.one (.sl 5 (.one (.int .u8))))) true, .v (.cons (.sl 5 (.one (.int .u8))) (.one (.sl 5 (.one (.int .u8))))) true]
abbrev YK : List OT := [⟨.one .bool, false, []⟩]
set_option maxRecDepth 100000
noncomputable def zg : List Int × List Int → List Int × List Int → Option Bool := fun a b => z6 (yK a.1 b.1) fun y => ifB y (z6 (yK a.2 b.2) fun y => some y) (some false)
theorem jw (x : PI y6) : zg (x.1) (x.2) = fnE T YY YZ YX (zO Tryd.f27) y6 YK x := by kernel_rfl
noncomputable abbrev v8 : GS := zI false y6 YK fun x => zg (x.1) (x.2)
theorem jx : GSOK Tryd.prog 27 v8 := zC tok JW fmo (Ht := YZ) (fn := Tryd.f27) (Tryd.func27) (c := YX) (by kernel_rfl) (by kernel_rfl) (by kernel_rfl) (by decide +kernel) (by decide) jw
end Go.Proofs.Y
namespace Go.Proofs.Y
open Go.Rb Go.Kx
theorem z2P (a b : List UInt8 × List UInt8) (h1 : a.1.length < 4611686018427387904) (h2 : a.2.length < 4611686018427387904) : zg (bytB a.1, bytB a.2) (bytB b.1, bytB b.2) = some (decide (a = b)) := by
 rw [← z6Q a b h1 h2]; rfl
theorem zaU {d : List UInt8 × List UInt8} {r : Rc} (hc : zE d = 0) (hr : r.2.2.2.length < 4611686018427387904) : ZA (bytB d.1, bytB d.2) r = some (bD (dPut d r).1, (dPut d r).2) := by
 have hlen := yg hc
 unfold ZA dPut
 refine (zM (z94 r hr) _).trans ?_
 unfold jS
 rw [if_pos hc]
 by_cases h : zk r = 0
 ·have htl := JB h
  rw [if_pos h, if_pos h]
  simp only
  have w1 : wadd .i64 (d.1.length : Int) (d.2.length : Int) = d.1.length + d.2.length := yy ⟨by omega, by omega⟩
  have w2 : wadd .i64 ((d.1.length : Int) + d.2.length) ((Z2 r).length : Int) = d.1.length + d.2.length + (Z2 r).length := yy ⟨by omega, by omega⟩
  have w3 : wadd .i64 ((d.1.length : Int) + d.2.length + (Z2 r).length) 1 = d.1.length + d.2.length + (Z2 r).length + 1 := yy ⟨by omega, by omega⟩
  rw [zA, if_pos rfl, zf, zf, zf, zJ, zJ, w1, w2, w3, Z0]
  by_cases c : 60000 - (d.1.length : Int) - d.2.length < (Z2 r).length + 1
  ·rw [if_pos (by omega), if_pos c]; rfl
  ·have hl2 : (VQ r).length = (Z2 r).length + 1 := by simp [VQ]
   rw [if_neg (by omega), if_neg c, ZS, if_pos (by simp only [List.length_cons, List.length_nil]; omega)]
   refine (zM (show ZE [bytB d.2, bytB (catS (Z2 r) [10])] = some (bytB (d.2 ++ VQ r)) from YQ d.2 (VQ r) (by omega)) _).trans ?_
   rfl
 ·rw [if_neg h, if_neg h]
  simp only
  rw [zA, if_neg h]; rfl
theorem za4 {d : List UInt8 × List UInt8} (hc : zE d = 0) : Zw (bytB d.1, bytB d.2) = some (bD (YA d).1, (YA d).2) := by
 have hlen := yg hc
 unfold Zw YA
 rw [if_pos hc]
 refine (zM (YQ d.1 d.2 hlen) _).trans ?_
 refine (zM (show zP (bytB (d.1 ++ d.2), []) = some (zE (d.1 ++ d.2, [])) from z25 (d.1 ++ d.2, []) (by simp only [List.length_append]; omega) (by simp)) _).trans ?_
 rw [zA]
 split
 ·rfl
 ·rfl
end Go.Proofs.Y
namespace Go.Proofs.Y
open Go.Rb Go.Kx
noncomputable def vR : Code := zq Tryd.f13
noncomputable def vS : FuncId → Option GS := tabG [(34, z6A)]
theorem z0l : ΓOK Tryd.prog vS := za (z7y) (zu)
def vT : HT := ⟨tabL [], tabH []⟩
abbrev yp : List IT := [.v (.cons (.int .i64) (.cons (.int .i64) (.cons (.int .i64) (.one (.sl 56 (.cons (.int .i64) (.cons (.int .i64) (.one (.int .i64))))))))) true, .v (.cons (.int .i64) (.cons (.int .i64) (.cons (.int .i64) (.one (.sl 56 (.cons (.int .i64) (.cons (.int .i64) (.one (.int .i64))))))))) true]
abbrev vc : List OT := [⟨.one .bool, false, []⟩]
set_option maxRecDepth 100000
noncomputable def Z3 : Int × Int × Int × List (Int × Int × Int) → Int × Int × Int × List (Int × Int × Int) → Option Bool := fun a b => ifB (eqI a.1 b.1) (ifB (eqI a.2.1 b.2.1) (ifB (eqI a.2.2.1 b.2.2.1) (z6 (VI a.2.2.2 b.2.2.2) fun y => some y) (some false)) (some false)) (some false)
theorem Jc (x : PI yp) : Z3 (x.1) (x.2) = fnE T vS vT vR (zO Tryd.f13) yp vc x := by kernel_rfl
noncomputable abbrev yH : GS := zI false yp vc fun x => Z3 (x.1) (x.2)
theorem Yq : GSOK Tryd.prog 13 yH := zC tok z0l fmo (Ht := vT) (fn := Tryd.f13) (Tryd.func13) (c := vR) (by kernel_rfl) (by kernel_rfl) (by kernel_rfl) (by decide +kernel) (by decide) Jc
end Go.Proofs.Y
namespace Go.Proofs.Y
open Go.Rb Go.Kx
set_option maxRecDepth 100000
end Go.Proofs.Y
namespace Go.Proofs.Y
open Go.Rb Go.Kx
theorem z95 (a b : Rc) (h : a.2.2.2.length < 4611686018427387904) : Z3 a b = some (decide (a = b)) := by
 rw [← z7z a b h]; rfl
end Go.Proofs.Y
namespace Go.Proofs.Y
open Go.Rb Go.Kx
noncomputable def z0m : Code := zq Tryd.f22
noncomputable def z0n : FuncId → Option GS := tabG [(13, yH)]
theorem z4p : ΓOK Tryd.prog z0n := za (Yq) (zu)
def z0o : HT := ⟨tabL [(4, .it [] (dyn [.t 17 (.int .i64)]))], tabH []⟩
noncomputable def z0p : GS := inl T z0n z0o z0m (zO Tryd.f22) (Tryd.f22.ntmps)
theorem z2p : GSOK Tryd.prog 22 z0p := z3r tok z4p fmo (Ht := z0o) (fn := Tryd.f22) (Tryd.func22) (c := z0m) (by kernel_rfl) (by kernel_rfl) (by kernel_rfl)
end Go.Proofs.Y
namespace Go.Proofs.Y
open Go.Rb Go.Kx
noncomputable def vd : Code := zq Tryd.f6
noncomputable def ve : FuncId → Option GS := tabG [(17, z0M), (18, JN), (19, J0), (21, VJ), (25, y5), (15, Vi), (26, yB), (24, z2M), (27, v8), (28, Vn), (29, Ve), (30, YJ), (22, z0p), (13, yH)]
theorem JX : ΓOK Tryd.prog ve := za (z0Z) (za (z0g) (za (JH) (za (jf) (za (yX) (za (JQ) (za (yh) (za (z4m) (za (jx) (za (JV) (za (Ji) (za (jd) (za (z2p) (za (Yq) (zu))))))))))))))
def vf : HT := ⟨tabL [], tabH []⟩
abbrev y7 : List IT := [.v (.cons (.sl 5 (.one (.int .u8))) (.one (.sl 5 (.one (.int .u8))))) true, .v (.cons (.int .i64) (.cons (.int .i64) (.cons (.int .i64) (.one (.sl 56 (.cons (.int .i64) (.cons (.int .i64) (.one (.int .i64))))))))) true, .v (.one (.int .i64)) false, .v (.cons (.sl 5 (.one (.int .u8))) (.one (.sl 5 (.one (.int .u8))))) true]
abbrev YL : List OT := [⟨.one .bool, false, []⟩]
set_option maxRecDepth 100000
noncomputable def Ze : List Int × List Int → Int × Int × Int × List (Int × Int × Int) → Int → List Int × List Int → Option Bool := fun a b c d => z6 (yi (a.1, a.2) (b.1, b.2.1, b.2.2.1, b.2.2.2)) fun y => z6 (Y1 (a.1, a.2)) fun y_1 => z6 (yC (a.1, a.2) c) fun y_2 => z6 (ZU (a.1, a.2)) fun y_3 => z6 (zP (a.1, a.2)) fun y_4 => z6 Zz fun y_5 => ifB (notB y_5) (some false) (z6 (Z5 (a.1, a.2)) fun y_6 => ifB (neI y_6 y_4) (some false) (z6 (YP (a.1, a.2) (d.1, d.2)) fun y_7 => z6 (zg (a.1, a.2) (d.1, d.2)) fun y_8 => ifB (notB (eqB y_7 y_8)) (some false) (ifB (neI y_4 0) (ifB (eqI y.2 y_4) (ifB (eqI y_1.2 y_4) (ifB (eqI y_2.2 y_4) (ifB (eqI y_3.2.2 y_4) (ifB (eqI (lenI y_3.2.1) 0) (z6 (zg (y.1.1, y.1.2) ([], [])) fun y => ifB y (z6 (zg (y_1.1.1, y_1.1.2) ([], [])) fun y => ifB y (z6 (zg (y_2.1.1, y_2.1.2) ([], [])) fun y => ifB y (z6 (zg (y_3.1.1, y_3.1.2) ([], [])) fun y => some y) (some false)) (some false)) (some false)) (some false)) (some false)) (some false)) (some false)) (some false)) (z6 (ZA (a.1, a.2) (b.1, b.2.1, b.2.2.1, b.2.2.2)) fun y_9 => z6 (Zw (a.1, a.2)) fun y_10 => z6 (Za (a.1, a.2)) fun y_11 => ifB (neI y.2 y_9.2) (some false) (z6 (zg (y.1.1, y.1.2) (y_9.1.1, y_9.1.2)) fun y => ifB (notB y) (some false) (ifB (neI y_1.2 y_10.2) (some false) (z6 (zg (y_1.1.1, y_1.1.2) (y_10.1.1, y_10.1.2)) fun y => ifB (notB y) (some false) (ifB (neI y_3.2.2 0) (some false) (z6 (zg (y_3.1.1, y_3.1.2) (y_11.1.1, y_11.1.2)) fun y => ifB (notB y) (some false) (ifB (neI (lenI y_3.2.1) (lenI y_11.2)) (some false) (zi maxR (fun (x : Int) => ifB (ltI x (lenI y_3.2.1)) (z6 (atI y_3.2.1 x) fun y => z6 (atI y_11.2 x) fun y_12 => z6 (Z3 (y.1, y.2.1, y.2.2.1, y.2.2.2) (y_12.1, y_12.2.1, y_12.2.2.1, y_12.2.2.2)) fun y => ifB (notB y) (mapO Sum.inr (some false)) (some (Sum.inl (wadd .i64 x 1)))) (mapO Sum.inr (ifB (ltI c 0) (ifB (eqI y_2.2 3) (z6 (zg (y_2.1.1, y_2.1.2) ([], [])) fun y => some y) (some false)) (ifB (gtI c (lenI a.2)) (ifB (eqI y_2.2 3) (z6 (zg (y_2.1.1, y_2.1.2) ([], [])) fun y => some y) (some false)) (ifB (eqI y_2.2 0) (ifB (in1 a.2 c) (z6 (zg (y_2.1.1, y_2.1.2) (a.1, Yt a.2 c)) fun y => some y) none) (some false)))))) 0)))))))))))
theorem jy (x : PI y7) : Ze (x.1) (x.2.1) (x.2.2.1) (x.2.2.2) = fnE T ve vf vd (zO Tryd.f6) y7 YL x := by kernel_rfl
noncomputable abbrev JY : GS := zI false y7 YL fun x => Ze (x.1) (x.2.1) (x.2.2.1) (x.2.2.2)
theorem jz : GSOK Tryd.prog 6 JY := zC tok JX fmo (Ht := vf) (fn := Tryd.f6) (Tryd.func6) (c := vd) (by kernel_rfl) (by kernel_rfl) (by kernel_rfl) (by decide +kernel) (by decide) jy
end Go.Proofs.Y
namespace Go.Proofs.Y
open Go.Rb Go.Kx
theorem z96 (p : List Rc) (K : Option Bool) (hs : ∀ r ∈ p, r.2.2.2.length < 4611686018427387904) (hl : p.length < 4611686018427387904) :
  zi maxR (fun (x : Int) => ifB (ltI x (lenI p)) (z6 (atI p x) fun (y_2 : Rc) => z6 (atI p x) fun (y : Rc) =>
   z6 (Z3 (Prod.fst y_2, Prod.fst (Prod.snd y_2), Prod.fst (Prod.snd (Prod.snd y_2)), Prod.snd (Prod.snd (Prod.snd y_2))) (Prod.fst y, Prod.fst (Prod.snd y), Prod.fst (Prod.snd (Prod.snd y)), Prod.snd (Prod.snd (Prod.snd y))))
    fun (y : Bool) => ifB (notB y) (mapO Sum.inr (some false)) (some (Sum.inl (wadd IntKind.i64 x 1)))) (mapO Sum.inr K)) 0 = K := by
 refine Z9 p (fun j (_ : Unit) => (j : Int)) (G := fun _ _ => K) (P := fun _ _ => True) (s0 := ()) ?_ ?_ trivial (by omega)
 ·rintro j _ hj _ k hk
  have hat := ZT hj
  have hm : p.getD j default ∈ p := z30 hj
  have hr := hs _ hm
  generalize p.getD j default = r at *
  have e : Z3 (Prod.fst r, Prod.fst (Prod.snd r), Prod.fst (Prod.snd (Prod.snd r)), Prod.snd (Prod.snd (Prod.snd r))) (Prod.fst r, Prod.fst (Prod.snd r), Prod.fst (Prod.snd (Prod.snd r)), Prod.snd (Prod.snd (Prod.snd r))) = some (decide (r = r)) := z95 r r hr
  rw [ze, zt, zf, if_pos (by omega), hat, z7, z7, e, z7]
  simp only [decide_true]
  rw [ze, zW, Zs, zG, ZB (by omega), hk () trivial]
 ·rintro _ _ k
  rw [ze, zm, zt, zf, if_neg (by omega)]
theorem z3Y {a b : List UInt8 × List UInt8} (h1 : a.1.length < 4611686018427387904) (h2 : a.2.length < 4611686018427387904) (h : a = b) : zg (bytB a.1, bytB a.2) (bytB b.1, bytB b.2) = some true := by
 rw [z2P a b h1 h2, decide_eq_true h]
theorem z2n : zg (([] : List Int), ([] : List Int)) ([], []) = some true := z3Y (a := ([], [])) (b := ([], [])) (by simp) (by simp) rfl
theorem z7M (d x : List UInt8 × List UInt8) (r : Rc) (n : Int) (h1 : d.1.length < 4611686018427387904) (h2 : d.2.length < 4611686018427387904) (hr : r.2.2.2.length < 4611686018427387904) : Ze (bytB d.1, bytB d.2) r n (bytB x.1, bytB x.2) = some true := by
 unfold Ze
 refine (zM (z4n d r h1 h2 hr) _).trans ?_
 refine (zM (z6R d h1 h2) _).trans ?_
 refine (zM (z5d d n h1 h2) _).trans ?_
 refine (zM (z2N d h1 h2) _).trans ?_
 refine (zM (z25 d h1 h2) _).trans ?_
 refine (zM zaO _).trans ?_
 rw [zW, Zs]
 refine (zM (yD d h1 h2) _).trans ?_
 rw [zA, if_pos rfl]
 refine (zM (z6Q d x h1 h2) _).trans ?_
 refine (zM (z2P d x h1 h2) _).trans ?_
 have e2 : eqB (decide (d = x)) (decide (d = x)) = true := by cases decide (d = x) <;> rfl
 rw [e2, zW, Zs, zA]
 by_cases hc : zE d = 0
 ·have hlen := yg hc
  obtain ⟨b1, b2, b3⟩ := z11 hc
  have hpl : (dPut d r).1.1.length + (dPut d r).1.2.length ≤ 60000 := by
   unfold dPut
   rw [if_pos hc]
   split
   ·split
    ·simp
    ·rename_i c
     have : (VQ r).length = (Z2 r).length + 1 := by simp [VQ]
     simp only [List.length_append]; omega
   ·simp
  have hsl : (YA d).1.1.length + (YA d).1.2.length ≤ 60000 := by
   unfold YA
   rw [if_pos hc]
   split
   ·simp only [List.length_append, List.length_nil]; omega
   ·simp
  have hrl : (zF d).1.1.length + (zF d).1.2.length ≤ 60000 := by
   unfold zF
   rw [if_pos hc]
   simp only [List.length_append, List.length_nil, List.length_take]; omega
  rw [if_pos hc]
  refine (zM (zaU hc hr) _).trans ?_
  refine (zM (za4 hc) _).trans ?_
  refine (zM (z74 hc) _).trans ?_
  simp only
  rw [zA, if_pos rfl]
  refine (zM (z3Y (a := (dPut d r).1) (by omega) (by omega) rfl) _).trans ?_
  rw [zW, Zs, zA, if_pos rfl]
  refine (zM (z3Y (a := (YA d).1) (by omega) (by omega) rfl) _).trans ?_
  rw [zW, Zs, zA, if_pos (show (zF d).2.2 = 0 by rw [b1])]
  refine (zM (z3Y (a := (zF d).1) (by omega) (by omega) rfl) _).trans ?_
  rw [zW, Zs, zA, if_pos rfl]
  refine (z96 (zF d).2.1 _ (fun q hq => z9W (b3 q hq)) (by omega)).trans ?_
  rw [zt, Z0, zf, zJ]
  unfold jU
  rw [if_pos hc]
  by_cases c1 : n < 0
  ·rw [if_pos c1, if_pos (.inl c1), zw, if_pos rfl]
   exact (zM z2n _).trans rfl
  rw [if_neg c1]
  by_cases c2 : (d.2.length : Int) < n
  ·rw [if_pos c2, if_pos (.inr c2), zw, if_pos rfl]
   exact (zM z2n _).trans rfl
  rw [if_neg c2, if_neg (by rintro (h | h); exact c1 h; exact c2 h), zw, if_pos rfl, Zy, if_pos ⟨by omega, by rw [zJ]; omega⟩, ZI, JI]
  exact (zM (z3Y (a := (d.1, d.2.take n.toNat)) (b := (d.1, d.2.take n.toNat)) h1 (by rw [List.length_take]; omega) rfl) _).trans rfl
 ·have p1 : dPut d r = (([], []), zE d) := by unfold dPut; rw [if_neg hc]
  have p2 : YA d = (([], []), zE d) := by unfold YA; rw [if_neg hc]
  have p3 : jU d n = (([], []), zE d) := by unfold jU; rw [if_neg hc]
  have p4 : zF d = (([], []), [], zE d) := by unfold zF; rw [if_neg hc]
  rw [if_neg hc, p1, p2, p3, p4]
  simp only
  rw [zw, if_pos rfl, zw, if_pos rfl, zw, if_pos rfl, zw, if_pos rfl, zw, if_pos (by rfl)]
  refine (zM z2n _).trans ?_
  rw [Zs]
  refine (zM z2n _).trans ?_
  rw [Zs]
  refine (zM z2n _).trans ?_
  rw [Zs]
  exact (zM z2n _).trans rfl
end Go.Proofs.Y
namespace Go.Proofs.Y
open Go.Rb Go.Kx
theorem by56 : Tryd.prog.bytesOf 56 = 24 := by kernel_rfl
theorem z7d : reachBytes = 140737488351232 := by decide +kernel
abbrev entR : RT := .cons (.int .i64) (.cons (.int .i64) (.one (.int .i64)))
abbrev recR : RT := .cons (.int .i64) (.cons (.int .i64) (.cons (.int .i64) (.one (.sl 56 entR))))
theorem zcc (r : DenR recR) (h : BdR Tryd.prog recR r) : (r : Rc).2.2.2.length < 4611686018427387904 := by
 obtain ⟨_, _, _, h, _⟩ := h
 rw [by56, z7d] at h
 show List.length r.2.2.2 < _
 omega
end Go.Proofs.Y
namespace Go.Proofs.Y
open Go.Rb Go.Kx
theorem by5 : Tryd.prog.bytesOf 5 = 1 := by kernel_rfl
abbrev zbc : RT := .cons (.sl 5 (.one (.int .u8))) (.one (.sl 5 (.one (.int .u8))))
theorem za5 {n : Int} (h : (Lit.int .u8 n).wf = true) : ((UInt8.ofNat n.toNat).toNat : Int) = n := by
 have e1 : IntKind.u8.min = 0 := rfl
 have e2 : IntKind.u8.max = 255 := rfl
 simp [Lit.wf, e1, e2] at h
 rw [UInt8.toNat_ofNat']; omega
theorem z26 : ∀ {l : List Int}, (∀ n ∈ l, (Lit.int .u8 n).wf = true) → bytB (strB l) = l
 | [], _ => rfl
 | n :: l, h => by
  have ih := z26 fun m hm => h m (List.mem_cons_of_mem n hm)
  have h0 := za5 (h n (by simp))
  unfold bytB strB at ih ⊢
  rw [List.map_cons, List.map_cons, ih, h0]
theorem z7e (l : List Int) : (strB l).length = l.length := by unfold strB; rw [List.length_map]
theorem z8n (x : DenR zbc) (h : BdR Tryd.prog zbc x) : ∃ d : List UInt8 × List UInt8, (show List Int × List Int from x) = (bytB d.1, bytB d.2) ∧ d.1.length < 4611686018427387904 ∧ d.2.length < 4611686018427387904 := by
 obtain ⟨⟨h1, h1'⟩, h2, h2'⟩ := h
 rw [by5, z7d, Nat.mul_one] at h1 h2
 have ea : bytB (strB (show List Int from x.1)) = x.1 := z26 fun n hn => h1' n hn
 have eb : bytB (strB (show List Int from x.2)) = x.2 := z26 fun n hn => h2' n hn
 have la := z7e (show List Int from x.1)
 have lb := z7e (show List Int from x.2)
 refine ⟨(strB (show List Int from x.1), strB (show List Int from x.2)), ?_, ?_, ?_⟩
 ·rw [ea, eb]; rfl
 ·show (strB (show List Int from x.1)).length < _
  rw [la]; exact Nat.lt_of_le_of_lt h1 (by omega)
 ·show (strB (show List Int from x.2)).length < _
  rw [lb]; exact Nat.lt_of_le_of_lt h2 (by omega)
end Go.Proofs.Y
namespace Go.Proofs.YtnkegapccacndaaDoor
open Go.Rb Go.Kx Go.RowKit
abbrev laidL : List (String × DataW Unit) := Rows.noteBackRow.laid
theorem za6 (u : TypeId) (h : Tryd.prog.typeName? 3 u = some "*errors.errorString") : u = 133 :=
 typeName_ptr_named (nm := "errors.errorString") (by kernel_rfl) (by kernel_rfl) (by decide) u h
theorem z7f : Tryd.prog.cellsOf 135 = 1 := by kernel_rfl
theorem za7 : Tryd.prog.cellsOf 9 = 1 := by kernel_rfl
theorem zbK {W : World} (h : laidMetH Tryd.prog laidL W) (hsh : W.ShapedOpen Tryd.prog) : Glob Tryd.prog W ∧ NG Tryd.prog ≤ W.heap.size := by
 rw [MakeChecks.laidMetH_plain _ _ _ (by kernel_rfl)] at h
 have h3 : laidMet Tryd.prog (("internal/strconv.uint64pow10", Lib.tabData .u64 Lib.pow10Tab) :: laidL.drop 3) W := h.tail.tail
 have h5 := h.tail.tail.tail.tail
 have h6 := h5.tail
 refine ⟨⟨?_, ?_, ?_, ?_⟩, zcj hsh (by kernel_rfl) (by kernel_rfl)⟩
 ·exact Lib.tabIs_of_head (g := 3) (t := 128) (e := 104) (n := 20) (by kernel_rfl) (by kernel_rfl) Tryd.underlying128 Tryd.underlying104 (by kernel_rfl) (by kernel_rfl) h3
 ·obtain ⟨a, s, hv, _⟩ := laid_sentinel (g := 0) (ti := 65) h6 (by kernel_rfl) (by kernel_rfl) Tryd.underlying65 za6 Tryd.underlying133 Tryd.underlying135 rfl rfl Tryd.underlying9 z7f za7
  exact ⟨_, _, hv⟩
 ·obtain ⟨a, s, hv, _⟩ := laid_sentinel (g := 1) (ti := 65) h5 (by kernel_rfl) (by kernel_rfl) Tryd.underlying65 za6 Tryd.underlying133 Tryd.underlying135 rfl rfl Tryd.underlying9 z7f za7
  exact ⟨_, _, hv⟩
 ·exact zax (g := 2) (t := 3) (zero := #[.int .i64 0]) hsh (by kernel_rfl) (by kernel_rfl) (by kernel_rfl) (by kernel_rfl) (by kernel_rfl) Tryd.underlying3
theorem own : ownKnob Tryd.prog.godebug = none := by kernel_rfl
theorem za8 (os : Os) : (World.holding Tryd.prog os ⟨#[], #[], []⟩).layFits Tryd.prog laidL [] = true := by kernel_rfl
theorem z7N (os : Os) : (World.holding Tryd.prog os ⟨#[], #[], []⟩).layIfaces Tryd.prog laidL (World.laidAll Tryd.prog os laidL) = true := by kernel_rfl
theorem zaV (os : Os) (args : Array Value) : laidMetH Tryd.prog laidL ((World.laidAll Tryd.prog os laidL).forCall (fun _ _ => 0) ⟨#[], args, []⟩).memory := by
 rw [MakeChecks.laidMetH_plain _ _ _ (by kernel_rfl)]
 exact laidMet_laidAll _ (za8 os) (z7N os)
end Go.Proofs.YtnkegapccacndaaDoor
