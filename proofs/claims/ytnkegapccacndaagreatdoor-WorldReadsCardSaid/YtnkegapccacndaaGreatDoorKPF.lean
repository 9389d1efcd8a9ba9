/-
  What is proved, part by part: what is read off a text is what stands there; a world that is right stays right, whatever happens. what slices.Equal[[]int,int] comes to. what world.Same comes to. what slices.Grow[[]api.Errno,api.Errno] comes to. what slices.Concat[[]api.Errno,api.Errno] comes to. what rainbooklaw.WorldParts comes to. scripts in two parts; versions, and what was there at one: in plain words. what story.Versions comes to. what story.At comes to. what rainbooklaw.told comes to. versions, and what was there at one: what the program's functions come to, in plain words; the closed fact on versions. strings.genSplit of Go's library is known by its answer. what strings.SplitAfter comes to. strings.HasSuffix of Go's library is known by its answer. what rainbookref.linesOf comes to. what rainbookref.CheckDisk comes to. what rainbookref.Recovered comes to. what rainbookref.CheckWorld comes to. a disk's text as lines, by the document's function: what the program's function says; disks and worlds checked, recovered by the document. versions of a world that came about from the new one: they only grow; what is there at one, by what its record says. disks and worlds checked, recovered by the document: what the program says. what rainbooklaw.StorySays comes to. versions, and what was there at any, are told as the document says: the law's body is true, in plain words. what rainbooklaw.WorldReads comes to. what any reader of any world sees is told as the document says: the law's body is true, in plain words. what a law is handed is no larger than memory. a world that a law is handed is no larger than memory; its bytes are bytes. what the rows list of package-level variables is what the library's functions ask. Conditions: none.
-/
import Derived.Test.YtnkegapccacndaaGreatDoorKPE
import Derived.Test.YtnkegapccacndaaGreatDoorKPA
import Derived.Test.YtnkegapccacndaaGreatDoorKPB
import Derived.Test.YtnkegapccacndaaGreatDoorKPD
import Derived.Test.YtnkegapccacndaaGreatDoorKPC
import Derived.Test.YtnkegapccacndaaGreatDoorKED
import Derived.Test.YtnkegapccacndaaGreatDoorProg
import Derived.KernelRfl
import Derived.Test.YtnkegapccacndaaGreatDoorRows
set_option linter.unusedVariables false
set_option linter.unusedSimpArgs false
set_option linter.unnecessarySimpa false
set_option maxRecDepth 4000
namespace Go.Proofs.Y
open Go.Rb Go.Kx
theorem zke (most all : Int) : ∀ (ws : List (List UInt8)) (acc : List Rc), ws ≠ [] →
  ∃ M t, (lnW most all ws acc).1 = acc ++ M ∧ jn 10 ws = vy M ++ t ∧ (lnW most all ws acc).2.1 = all - t.length ∧ ((lnW most all ws acc).2.2 = 0 → t = []) ∧ ∀ r ∈ M, zK r = 0
 | [], acc, h => absurd rfl h
 | w :: r, acc, _ => by
  rw [lnW]
  by_cases hr : r = []
  ·subst hr
   rw [if_pos rfl]
   by_cases hw : w = []
   ·subst hw; rw [if_pos rfl]; exact ⟨[], [], by simp, by simp [jn, vy], by simp, by simp, by simp⟩
   ·rw [if_neg hw]; exact ⟨[], w, by simp, by simp [jn, vy], rfl, by simp, by simp⟩
  ·rw [if_neg hr]
   by_cases hp : (yR w).2 = 0
   ·rw [if_pos hp]
    by_cases hm : (acc.length : Int) = most
    ·rw [if_pos hm]; exact ⟨[], jn 10 (w :: r), by simp, by simp [vy], rfl, by simp, by simp⟩
    ·rw [if_neg hm]
     obtain ⟨M, t, h1, h2, h3, h4, h5⟩ := zke most all r (acc ++ [(yR w).1]) hr
     obtain ⟨p1, p2⟩ := zgK hp
     refine ⟨(yR w).1 :: M, t, by rw [h1]; simp, ?_, h3, h4, ?_⟩
     ·rw [z1Z 10 w hr, zmS, p2, h2]
     ·intro q hq
      rcases List.mem_cons.1 hq with rfl | hq
      ·exact p1
      ·exact h5 q hq
   ·rw [if_neg hp]; exact ⟨[], jn 10 (w :: r), by simp, by simp [vy], rfl, fun h => absurd h hp, by simp⟩
theorem zpG {s a t : List UInt8} (h : s = a ++ t) : s.take a.length = a := by rw [h, List.take_left]
theorem zkf (m : Int) (s : List UInt8) : ∃ t, s = vy (lnP m s).1 ++ t ∧ (lnP m s).2.1 = ((vy (lnP m s).1).length : Int) ∧ ((lnP m s).2.2 = 0 → t = []) ∧ ∀ r ∈ (lnP m s).1, zK r = 0 := by
 obtain ⟨M, t, h1, h2, h3, h4, h5⟩ := zke m s.length (sp 10 s) [] (JS 10 s)
 rw [z5S] at h2
 rw [List.nil_append] at h1
 unfold lnP
 rw [h1]
 refine ⟨t, h2, ?_, h4, h5⟩
 rw [h3, h2, List.length_append]; omega
theorem zqN {m : Int} (hm : 0 ≤ m) (s : List UInt8) : ((lnP m s).1.length : Int) ≤ m := zd5 m s.length (sp 10 s) [] (by simpa using hm)
theorem zl2 {d : List UInt8 × List UInt8} (h : ZN d = 0) : ∃ L, d.1 = vy L ∧ (lnP 60 d.1).1 = L ∧ L.length ≤ 60 ∧ ∀ r ∈ L, zK r = 0 := by
 obtain ⟨t, h1, h2, h3, h4⟩ := zkf 60 d.1
 have ht := h3 (zl0 (s := d.1) (w := d.2) h)
 subst ht
 rw [List.append_nil] at h1
 exact ⟨_, h1, rfl, zkb _, h4⟩
theorem z30 {d : List UInt8 × List UInt8} (h : ZN d = 0) : zA d = ((vy (zA d).2.1, []), (zA d).2.1, 0) ∧ (zA d).2.1.length ≤ 60 ∧ ∀ r ∈ (zA d).2.1, zK r = 0 := by
 obtain ⟨L, h1, h2, h3, h4⟩ := zl2 h
 have hm : (0 : Int) ≤ 60 - ((lnP 60 d.1).1.length : Int) := by rw [h2]; omega
 obtain ⟨t, g1, g2, g3, g4⟩ := zkf (60 - ((lnP 60 d.1).1.length : Int)) d.2
 have g5 := zqN hm d.2
 have hrec := zbo d
 have e : zA d = ((d.1 ++ d.2.take (JT d).2.1.toNat, []), (lnP 60 d.1).1 ++ (JT d).1, 0) := by unfold zA; rw [if_pos h]
 refine ⟨?_, ?_, hrec⟩
 ·rw [e]
  have hk : d.2.take (JT d).2.1.toNat = vy (JT d).1 := by
   unfold JT
   rw [g2, Int.toNat_natCast]
   exact zpG g1
  rw [hk]
  simp only
  rw [zof, h2, h1]
 ·rw [e]
  simp only [List.length_append]
  unfold JT
  omega
end Go.Proofs.Y
namespace Go.Proofs.Y
open Go.Rb Go.Kx
set_option maxRecDepth 100000
end Go.Proofs.Y
namespace Go.Proofs.Y
open Go.Rb Go.Kx
set_option maxRecDepth 100000
end Go.Proofs.Y
namespace Go.Proofs.Y
open Go.Rb Go.Kx
end Go.Proofs.Y
namespace Go.Proofs.Y
open Go.Rb Go.Kx
set_option maxRecDepth 100000
end Go.Proofs.Y
namespace Go.Proofs.Y
open Go.Rb Go.Kx
set_option maxRecDepth 100000
end Go.Proofs.Y
namespace Go.Proofs.Y
open Go.Rb Go.Kx
abbrev okc (w : Wd) : Int := chkW w.1 w.2.1 w.2.2.1 w.2.2.2
theorem zqO {w : Wd} (h : okc w = 0) : w.2.1.1.length + w.2.1.2.length ≤ 60000 ∧ w.2.2.2.length = 3 ∧ okS w.1 := by
 obtain ⟨⟨o1, o2, o3⟩, _⟩ := ji h
 exact ⟨o2, o3, z1j o1⟩
end Go.Proofs.Y
namespace Go.Proofs.Y
open Go.Rb Go.Kx
set_option maxRecDepth 100000
end Go.Proofs.Y
namespace Go.Proofs.Y
open Go.Rb Go.Kx
set_option maxRecDepth 100000
end Go.Proofs.Y
namespace Go.Proofs.Y
open Go.Rb Go.Kx
set_option maxRecDepth 100000
end Go.Proofs.Y
namespace Go.Proofs.Y
open Go.Rb Go.Kx
def l3 : List Hp := [(1, 0, 0, [(0, 5, 0), (0, 6, 0)]), (2, 0, 2, []), (4, 0, 9, [])]
end Go.Proofs.Y
namespace Go.Proofs.Y
open Go.Rb Go.Kx
noncomputable abbrev zkg : GS := .r (libS [.v (.one .str) false, .v (.one .str) false, .v (.one (.int .i64)) false, .v (.one (.int .i64)) false] (fun x => z3H (x.1) (x.2.1) (x.2.2.1) (x.2.2.2)) (z5g 9))
theorem zl3 : GSOK Tryz.prog 154 zkg := zob
end Go.Proofs.Y
namespace Go.Proofs.Y
open Go.Rb Go.Kx
noncomputable def z1q : Code := zj Tryz.f127
noncomputable def z1r : FuncId → Option GS := tabG [(154, zkg)]
theorem z83 : ΓOK Tryz.prog z1r := z8 (zl3) (zg)
def z1s : HT := ⟨tabL [], tabH []⟩
abbrev V3 : List IT := [.v (.one .str) false, .v (.one .str) false]
abbrev z0A : List OT := [⟨.one (.sl 9 (.one .str)), false, []⟩]
set_option maxRecDepth 100000
noncomputable def Yc : List UInt8 → List UInt8 → Option (List (List UInt8)) := fun a b => z6 (z3H a b (lenI b) (-1)) fun y => some y
theorem z56 (x : PI V3) : Yc (x.1) (x.2) = fnE T z1r z1s z1q (zt Tryz.f127) V3 z0A x := by kernel_rfl
noncomputable abbrev z1t : GS := zw false V3 z0A fun x => Yc (x.1) (x.2)
theorem z57 : GSOK Tryz.prog 127 z1t := zm tok z83 fmo (Ht := z1s) (fn := Tryz.f127) (Tryz.func127) (c := z1q) (by kernel_rfl) (by kernel_rfl) (by kernel_rfl) (by decide +kernel) (by decide) z56
end Go.Proofs.Y
namespace Go.Proofs.Y
open Go.Rb Go.Kx
noncomputable abbrev zq1 : GS := .r (libS [.v (.one .str) false, .v (.one .str) false] (fun x => sufO (x.1) (x.2)) zhD)
theorem zpH : GSOK Tryz.prog 128 zq1 := zrs
end Go.Proofs.Y
namespace Go.Proofs.Y
open Go.Rb Go.Kx
noncomputable def z0B : Code := zj Tryz.f101
noncomputable def z0C : FuncId → Option GS := tabG [(127, z1t), (128, zq1), (129, z0z)]
theorem z7l : ΓOK Tryz.prog z0C := z8 (z57) (z8 (zpH) (z8 (z4K) (zg)))
def z0D : HT := ⟨tabL [(4, .it [] (dyn [.a 7 52 (.cons (.int .i64) (.cons (.int .i64) (.cons (.int .i64) (.one (.sl 77 (.cons (.int .i64) (.cons (.int .i64) (.one (.int .i64))))))))), .t 8 (.int .i64), .t 16 (.int .i64)]))], tabH []⟩
abbrev vK : List IT := [.v (.one .str) false, .v (.one (.int .i64)) false]
abbrev JK : List OT := [⟨.one (.sl 52 (.cons (.int .i64) (.cons (.int .i64) (.cons (.int .i64) (.one (.sl 77 (.cons (.int .i64) (.cons (.int .i64) (.one (.int .i64)))))))))), false, []⟩, ⟨.one (.int .i64), false, []⟩, ⟨.one (.int .i64), false, []⟩]
set_option maxRecDepth 100000
noncomputable def y9 : List UInt8 → Int → Option (List (Int × Int × Int × List (Int × Int × Int)) × Int × Int) := fun a b => z6 (Yc a [10]) fun y => zi maxR (fun (x : Int × Int × List (Int × Int × Int × List (Int × Int × Int))) => ifB (ltI x.2.1 (lenI y)) (z6 (atI y x.2.1) fun y => ifB (eqS y []) (mapO Sum.inr (some (x.2.2, x.1, 0))) (z6 (sufO y [10]) fun y_1 => ifB (notB y_1) (mapO Sum.inr (some (x.2.2, x.1, 8))) (ifB (in1 y (wsub .i64 (lenI y) 1)) (z6 (Y2 (YA y (wsub .i64 (lenI y) 1))) fun y_2 => ifB (eqI y_2.2 0) (ifB (geI (lenI x.2.2) b) (mapO Sum.inr (some (x.2.2, x.1, 2))) (ifB (neI y_2.2 0) (mapO Sum.inr (some (x.2.2, x.1, y_2.2))) (ifB (zf 48 x.2.2 [(y_2.1.1, y_2.1.2.1, y_2.1.2.2.1, y_2.1.2.2.2)]) (some (Sum.inl (wadd .i64 x.1 (lenI y), wadd .i64 x.2.1 1, cat x.2.2 [(y_2.1.1, y_2.1.2.1, y_2.1.2.2.1, y_2.1.2.2.2)]))) none))) (ifB (neI y_2.2 0) (mapO Sum.inr (some (x.2.2, x.1, y_2.2))) (ifB (zf 48 x.2.2 [(y_2.1.1, y_2.1.2.1, y_2.1.2.2.1, y_2.1.2.2.2)]) (some (Sum.inl (wadd .i64 x.1 (lenI y), wadd .i64 x.2.1 1, cat x.2.2 [(y_2.1.1, y_2.1.2.1, y_2.1.2.2.1, y_2.1.2.2.2)]))) none))) none))) (mapO Sum.inr (some (x.2.2, x.1, 0)))) (0, 0, [])
theorem z4L (x : PI vK) : y9 (x.1) (x.2) = fnE T z0C z0D z0B (zt Tryz.f101) vK JK x := by kernel_rfl
noncomputable abbrev V4 : GS := zw false vK JK fun x => y9 (x.1) (x.2)
theorem jk : GSOK Tryz.prog 101 V4 := zm tok z7l fmo (Ht := z0D) (fn := Tryz.f101) (Tryz.func101) (c := z0B) (by kernel_rfl) (by kernel_rfl) (by kernel_rfl) (by decide +kernel) (by decide) z4L
end Go.Proofs.Y
namespace Go.Proofs.Y
open Go.Rb Go.Kx
noncomputable def J9 : Code := zj Tryz.f62
noncomputable def Ja : FuncId → Option GS := tabG [(101, V4)]
theorem z58 : ΓOK Tryz.prog Ja := z8 (jk) (zg)
def Jb : HT := ⟨tabL [], tabH []⟩
abbrev vf : List IT := [.v (.cons (.sl 5 (.one (.int .u8))) (.one (.sl 5 (.one (.int .u8))))) true]
abbrev jl : List OT := [⟨.one (.int .i64), false, []⟩]
set_option maxRecDepth 100000
noncomputable def yG : List Int × List Int → Option Int := fun a => ifB (gtI (lenI a.1) 60000) (some 2) (ifB (gtI (lenI a.2) (wsub .i64 60000 (lenI a.1))) (some 2) (z6 (y9 (strB a.1) 60) fun y => some y.2.2))
theorem z32 (x : PI vf) : yG x = fnE T Ja Jb J9 (zt Tryz.f62) vf jl x := by kernel_rfl
noncomputable abbrev Jc : GS := zw false vf jl fun x => yG x
theorem z33 : GSOK Tryz.prog 62 Jc := zm tok z58 fmo (Ht := Jb) (fn := Tryz.f62) (Tryz.func62) (c := J9) (by kernel_rfl) (by kernel_rfl) (by kernel_rfl) (by decide +kernel) (by decide) z32
end Go.Proofs.Y
namespace Go.Proofs.Y
open Go.Rb Go.Kx
noncomputable def Jd : Code := zj Tryz.f55
noncomputable def Je : FuncId → Option GS := tabG [(101, V4), (87, z3D), (102, zen)]
theorem z5a : ΓOK Tryz.prog Je := z8 (jk) (z8 (z2M) (z8 (zho) (zg)))
def Jf : HT := ⟨tabL [], tabH []⟩
abbrev vg : List IT := [.v (.cons (.sl 5 (.one (.int .u8))) (.one (.sl 5 (.one (.int .u8))))) true]
abbrev jm : List OT := [⟨.cons (.sl 5 (.one (.int .u8))) (.one (.sl 5 (.one (.int .u8)))), true, []⟩, ⟨.one (.sl 52 (.cons (.int .i64) (.cons (.int .i64) (.cons (.int .i64) (.one (.sl 77 (.cons (.int .i64) (.cons (.int .i64) (.one (.int .i64)))))))))), false, []⟩]
set_option maxRecDepth 100000
noncomputable def ZU : List Int × List Int → Option ((List Int × List Int) × List (Int × Int × Int × List (Int × Int × Int))) := fun a => z6 (y9 (strB a.1) 60) fun y => z6 (y9 (strB a.2) (wsub .i64 60 (lenI y.1))) fun y_1 => ifB (in1 a.2 y_1.2.1) (z6 (Vd [a.1, YA a.2 y_1.2.1]) fun y_2 => z6 (z1m [y.1, y_1.1]) fun y => some ((y_2, []), y)) none
theorem z34 (x : PI vg) : ZU x = fnE T Je Jf Jd (zt Tryz.f55) vg jm x := by kernel_rfl
noncomputable abbrev vn : GS := zw false vg jm fun x => ZU x
theorem Vp : GSOK Tryz.prog 55 vn := zm tok z5a fmo (Ht := Jf) (fn := Tryz.f55) (Tryz.func55) (c := Jd) (by kernel_rfl) (by kernel_rfl) (by kernel_rfl) (by decide +kernel) (by decide) z34
end Go.Proofs.Y
namespace Go.Proofs.Y
open Go.Rb Go.Kx
noncomputable def jo : Code := zj Tryz.f18
noncomputable def jp : FuncId → Option GS := tabG [(62, Jc), (55, vn), (56, vX), (63, J4), (64, ZX)]
theorem z4M : ΓOK Tryz.prog jp := z8 (z33) (z8 (Vp) (z8 (j5) (z8 (z2K) (z8 (ZQ) (zg)))))
def jq : HT := ⟨tabL [(15, .it [] (dyn [.t 50 (.int .i64)]))], tabH []⟩
abbrev YK : List IT := [.v (.cons (.sl 95 (.cons (.sl 126 (.cons (.int .i64) (.cons (.int .i64) (.cons (.int .i64) (.one (.sl 4 (.one .bool))))))) (.one (.sl 73 (.cons (.int .i64) (.one (.int .i64))))))) (.cons (.sl 5 (.one (.int .u8))) (.cons (.sl 5 (.one (.int .u8))) (.cons (.bool) (.one (.sl 3 (.one (.int .i64)))))))) true]
abbrev VI : List OT := [⟨.one (.int .i64), false, []⟩]
set_option maxRecDepth 100000
noncomputable def yu : List (List (Int × Int × Int × List Bool) × List (Int × Int)) × List Int × List Int × Bool × List Int → Option Int := fun a => z6 (yG (a.2.1, a.2.2.1)) fun y => ifB (neI y 0) (some y) (ifB a.2.2.2.1 (ifB (gtI (lenI a.2.2.1) 0) (some 4) (z6 (ZU (a.2.1, a.2.2.1)) fun y => z6 (ZC y.2) fun y_1 => ifB (neI y_1.2 0) (some y_1.2) (z6 (ZT y_1.1 a.1) fun y_2 => ifB (notB y_2) (some 4) (ifB (neI (lenI a.2.2.2.2) 3) (some 4) (zi maxR (fun (x : Int) => ifB (ltI x (lenI a.2.2.2.2)) (z6 (atI a.2.2.2.2 x) fun y_3 => z6 (zl y_3 (-1) (lenI y.2)) fun y => ifB (notB y) (mapO Sum.inr (some 3)) (ifB (geI y_3 0) (ifB (notB a.2.2.2.1) (mapO Sum.inr (some 3)) (some (Sum.inl (wadd .i64 x 1)))) (some (Sum.inl (wadd .i64 x 1))))) (mapO Sum.inr (some 0))) 0))))) (z6 (ZC []) fun y => ifB (neI y.2 0) (some y.2) (z6 (ZT y.1 a.1) fun y => ifB (notB y) (some 4) (ifB (neI (lenI a.2.2.2.2) 3) (some 4) (zi maxR (fun (x : Int) => ifB (ltI x (lenI a.2.2.2.2)) (z6 (atI a.2.2.2.2 x) fun y => z6 (zl y (-1) 0) fun y_1 => ifB (notB y_1) (mapO Sum.inr (some 3)) (ifB (geI y 0) (ifB (notB a.2.2.2.1) (mapO Sum.inr (some 3)) (some (Sum.inl (wadd .i64 x 1)))) (some (Sum.inl (wadd .i64 x 1))))) (mapO Sum.inr (some 0))) 0)))))
theorem z2t (x : PI YK) : yu x = fnE T jp jq jo (zt Tryz.f18) YK VI x := by kernel_rfl
noncomputable abbrev jr : GS := zw false YK VI fun x => yu x
theorem z2u : GSOK Tryz.prog 18 jr := zm tok z4M fmo (Ht := jq) (fn := Tryz.f18) (Tryz.func18) (c := jo) (by kernel_rfl) (by kernel_rfl) (by kernel_rfl) (by decide +kernel) (by decide) z2t
end Go.Proofs.Y
namespace Go.Proofs.Y
open Go.Rb Go.Kx
def saL : List (List UInt8) → List (List UInt8)
 | [] => []
 | w :: r => if r = [] then [w] else (w ++ [10]) :: saL r
theorem zl4 : ∀ (l : List UInt8), Lib.splitK [10] 1 (Lib.count l [10]) l = saL (sp 10 l) := by
 have key : ∀ (ws : List (List UInt8)), ws ≠ [] → (∀ w ∈ ws, ∀ x ∈ w, x ≠ 10) → Lib.splitK [10] 1 (Lib.count (jn 10 ws) [10]) (jn 10 ws) = saL ws := by
  intro ws
  induction ws with
  | nil => intro h; exact absurd rfl h
  | cons w r ih =>
   intro _ h
   by_cases hr : r = []
   ·subst hr
    simp only [jn, List.map_nil, List.flatten_nil, List.append_nil]
    rw [Lib.count_miss (z22 (h w (by simp)))]; rfl
   ·rw [z1Z _ _ hr]
    have hi : Lib.index (w ++ 10 :: jn 10 r) [10] = w.length := z2T (h w (by simp))
    have hd : (w ++ 10 :: jn 10 r).drop (w.length + [(10 : UInt8)].length) = jn 10 r := by
     rw [List.drop_append]; simp
    have hr2 := ih hr fun w hw => h w (by simp [hw])
    rw [Lib.count_hit (by simp) hi, hd, Nat.add_comm 1, Lib.splitK, if_neg (by rw [hi]; intro e; have := beq_iff_eq.1 e; omega), hi]
    have e : ((w.length : Nat) : Int).toNat = w.length := by omega
    rw [e, hd, hr2, saL, if_neg hr]
    congr 1
    rw [List.take_append, List.take_of_length_le (by omega)]
    simp
 intro l
 have h := key (sp 10 l) (JS 10 l) (z7S 10 l)
 rw [z5S] at h
 exact h
theorem zlS : ∀ ws : List (List UInt8), (saL ws).length = ws.length
 | [] => rfl
 | w :: r => by
  rw [saL]
  split
  ·rename_i h; subst h; rfl
  ·simp [zlS r]
theorem zlT : ∀ (ws : List (List UInt8)), ∀ t ∈ saL ws, ∃ w ∈ ws, t.length ≤ w.length + 1
 | [], t, h => by cases h
 | w :: r, t, h => by
  rw [saL] at h
  split at h
  ·rw [List.mem_singleton.1 h]; exact ⟨w, by simp, by omega⟩
  ·rcases List.mem_cons.1 h with rfl | h
   ·exact ⟨w, by simp, by simp⟩
   ·obtain ⟨v, hv, h2⟩ := zlT r t h
    exact ⟨v, List.mem_cons_of_mem _ hv, h2⟩
def lnA (most : Int) : List (List UInt8) → Int → List Rc → List Rc × Int × Int
 | [], n, acc => (acc, n, 0)
 | t :: r, n, acc => if t = [] then (acc, n, 0) else if Lib.hasSuffix t [10] = false then (acc, n, 8) else
  if (yR (t.take (t.length - 1))).2 = 0 then (if most ≤ (acc.length : Int) then (acc, n, 2) else lnA most r (n + t.length) (acc ++ [(yR (t.take (t.length - 1))).1])) else (acc, n, (yR (t.take (t.length - 1))).2)
theorem zqP (w : List UInt8) : Lib.hasSuffix (w ++ [10]) [10] = true := by
 unfold Lib.hasSuffix
 simp
theorem zpI {w : List UInt8} (h : ∀ x ∈ w, x ≠ 10) (hw : w ≠ []) : Lib.hasSuffix w [10] = false := by
 cases hq : Lib.hasSuffix w [10] with
 | false => rfl
 | true =>
  exfalso
  unfold Lib.hasSuffix at hq
  have h2 : [(10 : UInt8)] <:+ w := by simpa using hq
  obtain ⟨v, hv⟩ := h2
  exact h 10 (by rw [← hv]; simp) rfl
theorem zos (most all : Int) : ∀ (ws : List (List UInt8)) (n : Int) (acc : List Rc), ws ≠ [] → (∀ w ∈ ws, ∀ x ∈ w, x ≠ 10) → (acc.length : Int) ≤ most → n = all - (jn 10 ws).length → lnA most (saL ws) n acc = lnW most all ws acc
 | [], n, acc, h, _, _, _ => absurd rfl h
 | w :: r, n, acc, _, hc, hm, hn => by
  rw [saL, lnW]
  by_cases hr : r = []
  ·subst hr
   rw [if_pos rfl, if_pos rfl, lnA]
   simp only [jn, List.map_nil, List.flatten_nil, List.append_nil] at hn
   by_cases hw : w = []
   ·subst hw; rw [if_pos rfl, if_pos rfl, hn]; simp
   ·rw [if_neg hw, if_neg hw, zpI (hc w (by simp)) hw, if_pos rfl, hn]
  ·have hj := z1Z 10 w hr
   have hl : ((jn 10 (w :: r)).length : Int) = w.length + 1 + (jn 10 r).length := by rw [hj]; simp; omega
   have ht : (w ++ [10]).take ((w ++ [(10 : UInt8)]).length - 1) = w := by simp
   rw [if_neg hr, if_neg hr, lnA, if_neg (by simp), zqP, if_neg (by decide), ht]
   by_cases hp : (yR w).2 = 0
   ·rw [if_pos hp, if_pos hp]
    by_cases hq : (acc.length : Int) = most
    ·rw [if_pos (by omega), if_pos hq, hn]
    ·rw [if_neg (by omega), if_neg hq]
     refine zos most all r _ _ hr (fun v hv => hc v (List.mem_cons_of_mem _ hv)) (by simp only [List.length_append, List.length_cons, List.length_nil]; omega) ?_
     simp only [List.length_append, List.length_cons, List.length_nil]
     omega
   ·rw [if_neg hp, if_neg hp, hn]
theorem z84 (s : List UInt8) (most : Int) (hs : s.length ≤ 60000) (hm : 0 ≤ most) : y9 s most = some (lnP most s) := by
 unfold y9
 have e1 : Yc s [10] = some (saL (sp 10 s)) := by
  unfold Yc z3H
  rw [if_pos ⟨⟨by omega, by simp⟩, rfl, by rw [zb]; simp, by rw [zb]; simp⟩, z7, zb]
  exact congrArg some (zl4 s)
 have e2 : lnP most s = lnA most (saL (sp 10 s)) 0 [] := by
  unfold lnP
  exact (zos most s.length (sp 10 s) 0 [] (JS 10 s) (z7S 10 s) (by simpa using hm) (by rw [z5S]; omega)).symm
 have hlen : (saL (sp 10 s)).length ≤ 60001 := by rw [zlS]; have := zeG 10 s; omega
 have htl : ∀ t ∈ saL (sp 10 s), t.length ≤ 60001 := fun t ht => by
  obtain ⟨w, hw, h2⟩ := zlT _ t ht
  have := zfu 10 s w hw
  omega
 rw [e1, z7, e2]
 generalize saL (sp 10 s) = ts at *
 refine zS ts (fun j (x : Int × List Rc) => (x.1, (j : Int), x.2)) (G := fun rest x => some (lnA most rest x.1 x.2)) (P := fun j x => (0 ≤ x.1 ∧ x.1 ≤ 60001 * j) ∧ x.2.length ≤ j) (s0 := (0, [])) ?_ ?_ ⟨⟨by simp, by simp⟩, by simp⟩ (by omega)
 ·rintro j ⟨n, acc⟩ hj ⟨⟨p0, p1⟩, p2⟩ k hk
  have hat := zN hj
  have hmem : ts.getD j default ∈ ts := by simp only [List.getD, List.getElem?_eq_getElem hj, Option.getD_some]; exact List.getElem_mem hj
  have ht := htl _ hmem
  generalize ts.getD j default = t at *
  simp only at p0 p1 p2 hk ⊢
  rw [za, ze, zb, if_pos (by omega), hat, z7, za, zd, lnA, Zu]
  by_cases c0 : t = []
  ·rw [if_pos c0, if_pos c0]
  ·have hpos : 0 < t.length := List.length_pos_iff.2 c0
   have hsu : sufO t [10] = some (Lib.hasSuffix t [10]) := by unfold sufO; rw [if_pos (by omega)]
   rw [if_neg c0, if_neg c0, hsu, z7, za, zd, zC]
   cases hq : Lib.hasSuffix t [10] with
   | false => rw [Zw, if_pos rfl]
   | true =>
    have e3 : YA t (wsub .i64 (lenI t) 1) = t.take (t.length - 1) := by
     rw [zP, zb, ZJ ⟨by omega, by omega⟩]
     congr 1; omega
    rw [Z6, if_neg (by decide), za, zF, zb, ZJ ⟨by omega, by omega⟩, if_pos ⟨by omega, by omega⟩]
    rw [zb, ZJ ⟨by omega, by omega⟩] at e3
    rw [e3, zmV _ (by rw [List.length_take]; omega), z7]
    generalize yR (t.take (t.length - 1)) = p at *
    rw [za, zh]
    by_cases c1 : p.2 = 0
    ·rw [if_pos c1, if_pos c1, za, zL, zb]
     by_cases c2 : most ≤ (acc.length : Int)
     ·rw [if_pos c2, if_pos c2, zd]
     ·rw [if_neg c2, if_neg c2, za, zk, if_pos c1, za, zz, if_pos (by simp only [List.length_cons, List.length_nil]; omega), zo, zX, ZR ⟨by omega, by omega⟩, zD (by omega)]
      exact hk (n + t.length, acc ++ [p.1]) ⟨⟨by simp only; omega, by simp only; push_cast; omega⟩, by simp only [List.length_append, List.length_cons, List.length_nil]; omega⟩
    ·rw [if_neg c1, if_neg c1, za, zd, zk, if_neg c1]
 ·rintro ⟨n, acc⟩ _ k
  simp only
  rw [za, zd, ze, zb, if_neg (by omega)]; rfl
end Go.Proofs.Y
namespace Go.Proofs.Y
open Go.Rb Go.Kx
theorem zl5 {L : List Rc} (h : (zY L).2 = 0) (k : Nat) : (zY (L.take k)).2 = 0 := by
 have h60 := (JG h).1
 have e1 : zY L = yb Vo L := by unfold zY; rw [if_neg (by omega)]
 have e2 : zY (L.take k) = yb Vo (L.take k) := by unfold zY; rw [if_neg (by rw [List.length_take]; omega)]
 rw [e2]
 refine (zcu (L.drop k) (L.take k) Vo ?_).1
 rw [List.take_append_drop, ← e1]; exact h
end Go.Proofs.Y
namespace Go.Proofs.Y
open Go.Rb Go.Kx
theorem zkh (d : List UInt8 × List UInt8) (h1 : d.1.length < 4611686018427387904) (h2 : d.2.length < 4611686018427387904) : yG (bytB d.1, bytB d.2) = some (ZN d) := by
 unfold yG ZN
 simp only [z5T]
 rw [zy, zy, zb, zb, ZW, ZW]
 by_cases c1 : 60000 < d.1.length
 ·rw [if_pos (by omega), if_pos c1]
 ·rw [if_neg (by omega), if_neg c1, ZJ ⟨by omega, by omega⟩]
  by_cases c2 : 60000 - d.1.length < d.2.length
  ·rw [if_pos (by omega), if_pos c2]
  ·rw [if_neg (by omega), if_neg c2, z84 _ _ (by omega) (by omega), z7]
theorem zb3 {d : List UInt8 × List UInt8} (h : ZN d = 0) : ZU (bytB d.1, bytB d.2) = some (bD (zA d).1, (zA d).2.1) := by
 have hlen := vz h
 have hb := z30 h
 have e : zA d = ((d.1 ++ d.2.take (JT d).2.1.toNat, []), (lnP 60 d.1).1 ++ (JT d).1, 0) := by unfold zA; rw [if_pos h]
 have n1 := zkb d.1
 have hm := zpZ (60 - ((lnP 60 d.1).1.length : Int)) d.2
 have h60 := hb.2.1
 rw [e] at h60
 simp only [List.length_append] at h60
 unfold ZU
 simp only [z5T]
 rw [z84 _ _ (by omega) (by omega), z7, zb, ZJ ⟨by omega, by omega⟩, z84 _ _ (by omega) (by omega), z7, zF, if_pos ⟨hm.1, by rw [ZW]; exact hm.2⟩, zP, zaP, z6r _ _ (by rw [List.length_take]; omega), z7]
 unfold JT at e h60
 rw [zkU _ _ h60, z7, e]
 rfl
theorem zqQ (rd : List Int) (n : Int) (up : Bool) (hl : rd.length < 4611686018427387904) :
  zi maxR (fun (x : Int) => ifB (ltI x (lenI rd)) (z6 (atI rd x) fun (y : Int) => z6 (zl y (-1) n) fun (t : Bool) => ifB (notB t) (mapO Sum.inr (some 3)) (ifB (geI y 0) (ifB (notB up) (mapO Sum.inr (some 3)) (some (Sum.inl (wadd IntKind.i64 x 1)))) (some (Sum.inl (wadd IntKind.i64 x 1))))) (mapO Sum.inr (some 0))) 0 = some (rdE n up rd) := by
 refine zS rd (fun j (_ : Unit) => (j : Int)) (G := fun rest _ => some (rdE n up rest)) (P := fun _ _ => True) (s0 := ()) ?_ ?_ trivial (by omega)
 ·rintro j _ hj _ k hk
  have hat := zN hj
  generalize rd.getD j default = v at *
  rw [za, ze, zb, if_pos (by omega), hat, z7, JQ, z7, za, zC, zQ, rdE]
  by_cases c1 : -1 ≤ v ∧ v ≤ n
  ·rw [if_pos c1, za, zL]
   by_cases c2 : 0 ≤ v
   ·rw [if_pos c2, za, zC]
    cases up with
    | true =>
     rw [Z6, if_neg (by rintro (h | h | h); omega; omega; cases h.1), zo, zD (by omega)]
     exact hk () trivial
    | false => rw [Zw, if_pos (.inr (.inr ⟨rfl, by omega⟩))]; rfl
   ·rw [if_neg c2, if_neg (by rintro (h | h | h); omega; omega; exact h.2 (by omega)), zo, zD (by omega)]
    exact hk () trivial
  ·rw [if_neg c1, if_pos (by by_cases h : v < -1; exact .inl h; exact .inr (.inl (by omega)))]; rfl
 ·rintro _ _ k
  rw [za, zd, ze, zb, if_neg (by omega)]; rfl
theorem zhu (w : Wd) (h1 : w.2.1.1.length < 4611686018427387904) (h2 : w.2.1.2.length < 4611686018427387904) (hrd : w.2.2.2.length < 4611686018427387904) : yu (wvd w) = some (okc w) := by
 obtain ⟨s, d, up, rd⟩ := w
 simp only at h1 h2 hrd
 unfold yu
 simp only [wvd, wv]
 rw [zkh d h1 h2, z7, zk]
 show _ = some (chkW s d up rd)
 unfold chkW
 by_cases hc : ZN d = 0
 ·obtain ⟨b1, b2, b3⟩ := z30 hc
  have b0 : (zA d).2.2 = 0 := by rw [b1]
  have tailL : ∀ l : List Rc, l.length < 4611686018427387904 → (∀ r ∈ l, r.2.2.2.length < 4611686018427387904) → (z6 (ZC l) fun (y_1 : Shf × Int) =>
    ifB (neI (Prod.snd y_1) 0) (some (Prod.snd y_1)) (z6 (ZT (Prod.fst y_1) s) fun (y_2 : Bool) => ifB (notB y_2) (some 4) (ifB (neI (lenI rd) 3) (some 4)
     (zi maxR (fun (x : Int) => ifB (ltI x (lenI rd)) (z6 (atI rd x) fun (y : Int) => z6 (zl y (-1) (lenI l)) fun (t : Bool) => ifB (notB t) (mapO Sum.inr (some 3)) (ifB (geI y 0) (ifB (notB up) (mapO Sum.inr (some 3)) (some (Sum.inl (wadd IntKind.i64 x 1)))) (some (Sum.inl (wadd IntKind.i64 x 1))))) (mapO Sum.inr (some 0))) 0)))) = some (chkL s l up rd) := by
   intro l hl he
   unfold chkL
   rw [zej l hl he, z7, zk, zqQ rd (lenI l) up hrd]
   by_cases c : (zY l).2 = 0
   ·rw [if_pos c, if_pos c, zjs _ _ (z6n l), z7, zC, zQ, zk, zb, zb]
    by_cases c2 : (zY l).1 = s
    ·rw [if_pos c2, if_pos c2]
     by_cases c3 : rd.length = 3
     ·rw [if_pos (by omega), if_pos c3]
     ·rw [if_neg (by omega), if_neg c3]
    ·rw [if_neg c2, if_neg c2]
   ·rw [if_neg c, if_neg c]
  have t1 := tailL (zA d).2.1 (by omega) fun r hr => z2r (b3 r hr)
  have t0 := tailL [] (by decide) (by simp)
  simp only [show lenI ([] : List Rc) = 0 from rfl] at t0
  rw [if_pos hc, if_pos b0, zb3 hc]
  cases up with
  | true =>
   rw [Z6, if_pos rfl, zy, zb, ZW]
   by_cases c : 0 < d.2.length
   ·rw [if_pos (by omega), if_pos c]
   ·rw [if_neg (by omega), if_neg c, z7]
    exact t1
  | false =>
   rw [Zw, if_neg (by decide)]
   exact t0
 ·have b0 : (zA d).2.2 = ZN d := by unfold zA; rw [if_neg hc]
  rw [if_neg hc, if_neg (by rw [b0]; exact hc), b0]
theorem zki {s : Shf} {i : Int} (h : chkS s = 0) (hi : i < 0 ∨ 3 < i) : allS s i = ([], 5) := by
 have h4 := (chkS_zero.1 h).1
 unfold allS
 rw [if_pos h, if_pos (by omega)]
theorem zqR {s : Shf} {i : Int} (h : chkS s = 0) (i0 : 0 ≤ i) (i1 : i ≤ 3) : ∃ r : Rowd, atI s i = some r ∧ Zv (Prod.fst r, Prod.snd r) = some ((allS s i).1, 0) ∧ (allS s i).2 = 0 := by
 have h4 := (chkS_zero.1 h).1
 have hr := z1X h (i := i.toNat) (by omega)
 have ha := zqC h i0 (by omega)
 refine ⟨s.getD i.toNat default, zbh i0 (by omega), ?_, ha⟩
 have e : allS s i = allR (s.getD i.toNat default) := by unfold allS; rw [if_pos h, if_neg (by omega)]
 have := zao (s.getD i.toNat default) (y0 hr)
 refine this.trans ?_
 unfold z5M
 rw [if_pos hr, e]
 exact congrArg some (Prod.ext rfl hr)
end Go.Proofs.Y
namespace Go.Proofs.Y
open Go.Rb Go.Kx
set_option maxRecDepth 100000
end Go.Proofs.Y
namespace Go.Proofs.Y
open Go.Rb Go.Kx
end Go.Proofs.Y
namespace Go.Proofs.Y
open Go.Rb Go.Kx
noncomputable def js : Code := zj Tryz.f15
noncomputable def jt : FuncId → Option GS := tabG [(47, z4G), (18, jr), (19, z0v), (55, vn), (56, vX), (57, vk), (58, z1e), (44, z4o)]
theorem z4N : ΓOK Tryz.prog jt := z8 (z5Z) (z8 (z2u) (z8 (z4I) (z8 (Vp) (z8 (j5) (z8 (Vj) (z8 (z54) (z8 (z2a) (zg))))))))
def ju : HT := ⟨tabL [], tabH []⟩
abbrev YL : List IT := [.v (.cons (.sl 95 (.cons (.sl 126 (.cons (.int .i64) (.cons (.int .i64) (.cons (.int .i64) (.one (.sl 4 (.one .bool))))))) (.one (.sl 73 (.cons (.int .i64) (.one (.int .i64))))))) (.cons (.sl 5 (.one (.int .u8))) (.cons (.sl 5 (.one (.int .u8))) (.cons (.bool) (.one (.sl 3 (.one (.int .i64)))))))) true, .v (.one (.int .i64)) false, .v (.one (.int .i64)) false, .v (.one (.int .i64)) false, .v (.one (.int .i64)) false]
abbrev VJ : List OT := [⟨.one .bool, false, []⟩]
set_option maxRecDepth 100000
noncomputable def yv : List (List (Int × Int × Int × List Bool) × List (Int × Int)) × List Int × List Int × Bool × List Int → Int → Int → Int → Int → Option Bool := fun a b c d e => z6 (Yu (a.1, a.2.1, a.2.2.1, a.2.2.2.1, a.2.2.2.2) b c d e) fun y => z6 (yu (a.1, a.2.1, a.2.2.1, a.2.2.2.1, a.2.2.2.2)) fun y_1 => ifB (neI y_1 0) (z6 zp fun y_2 => ifB (notB y_2) (z6 zp fun y_3 => ifB y_3 (ifB (eqI y.2 y_1) (some (eqI (lenI y.1) 0)) (some false)) (some false)) (ifB (neI y_1 0) (z6 zp fun y_3 => ifB y_3 (ifB (eqI y.2 y_1) (some (eqI (lenI y.1) 0)) (some false)) (some false)) (z6 (ZU (a.2.1, a.2.2.1)) fun y_3 => z6 (atI a.2.2.2.2 b) fun y_4 => ifB (in1 y_3.2 y_4) (z6 (ZC (YA y_3.2 y_4)) fun y_5 => z6 (atI y_5.1 c) fun y_6 => z6 (Zv (y_6.1, y_6.2)) fun y_7 => ifB (eqI y.2 0) (z6 (yC y_7.1 d e) fun y_8 => z6 (j9 y.1 y_8) fun y => some y) (some false)) none))) (ifB (ltI b 0) (z6 zp fun y_2 => ifB (notB y_2) (z6 zp fun y_3 => ifB y_3 (ifB (eqI y.2 5) (some (eqI (lenI y.1) 0)) (some false)) (some false)) (z6 zp fun y_3 => ifB y_3 (ifB (eqI y.2 5) (some (eqI (lenI y.1) 0)) (some false)) (some false))) (ifB (gtI b 2) (z6 zp fun y_2 => ifB (notB y_2) (z6 zp fun y_3 => ifB y_3 (ifB (eqI y.2 5) (some (eqI (lenI y.1) 0)) (some false)) (some false)) (z6 zp fun y_3 => ifB y_3 (ifB (eqI y.2 5) (some (eqI (lenI y.1) 0)) (some false)) (some false))) (z6 (atI a.2.2.2.2 b) fun y_2 => ifB (ltI y_2 0) (z6 zp fun y_3 => ifB (notB y_3) (z6 zp fun y_4 => ifB y_4 (ifB (eqI y.2 7) (some (eqI (lenI y.1) 0)) (some false)) (some false)) (z6 zp fun y_4 => ifB y_4 (ifB (eqI y.2 7) (some (eqI (lenI y.1) 0)) (some false)) (some false))) (ifB (ltI c 0) (z6 zp fun y_3 => ifB (notB y_3) (z6 zp fun y_4 => ifB y_4 (ifB (eqI y.2 5) (some (eqI (lenI y.1) 0)) (some false)) (some false)) (z6 zp fun y_4 => ifB y_4 (ifB (eqI y.2 5) (some (eqI (lenI y.1) 0)) (some false)) (some false))) (ifB (gtI c 3) (z6 zp fun y_3 => ifB (notB y_3) (z6 zp fun y_4 => ifB y_4 (ifB (eqI y.2 5) (some (eqI (lenI y.1) 0)) (some false)) (some false)) (z6 zp fun y_4 => ifB y_4 (ifB (eqI y.2 5) (some (eqI (lenI y.1) 0)) (some false)) (some false))) (z6 zp fun y_3 => ifB (notB y_3) (z6 zp fun y_4 => ifB y_4 (ifB (eqI y.2 y_1) (some (eqI (lenI y.1) 0)) (some false)) (some false)) (ifB (neI y_1 0) (z6 zp fun y_4 => ifB y_4 (ifB (eqI y.2 y_1) (some (eqI (lenI y.1) 0)) (some false)) (some false)) (z6 (ZU (a.2.1, a.2.2.1)) fun y_4 => z6 (atI a.2.2.2.2 b) fun y_5 => ifB (in1 y_4.2 y_5) (z6 (ZC (YA y_4.2 y_5)) fun y_6 => z6 (atI y_6.1 c) fun y_7 => z6 (Zv (y_7.1, y_7.2)) fun y_8 => ifB (eqI y.2 0) (z6 (yC y_8.1 d e) fun y_9 => z6 (j9 y.1 y_9) fun y => some y) (some false)) none))))))))
theorem z2v (x : PI YL) : yv (x.1) (x.2.1) (x.2.2.1) (x.2.2.2.1) (x.2.2.2.2) = fnE T jt ju js (zt Tryz.f15) YL VJ x := by kernel_rfl
noncomputable abbrev z4O : GS := zw false YL VJ fun x => yv (x.1) (x.2.1) (x.2.2.1) (x.2.2.2.1) (x.2.2.2.2)
theorem z2w : GSOK Tryz.prog 15 z4O := zm tok z4N fmo (Ht := ju) (fn := Tryz.f15) (Tryz.func15) (c := js) (by kernel_rfl) (by kernel_rfl) (by kernel_rfl) (by decide +kernel) (by decide) z2v
end Go.Proofs.Y
namespace Go.Proofs.Y
open Go.Rb Go.Kx
theorem zbp (y : List Pt × Int) (n : Int) (h1 : y.2 = n) (h2 : y.1.length = 0) : (z6 zp fun (t : Bool) => ifB t (ifB (eqI y.2 n) (some (eqI (lenI y.1) 0)) (some false)) (some false)) = some true := by
 rw [vA, z7, Z6, zh, if_pos h1, zb, h2]; rfl
theorem zhv (w : Wd) (b c d e : Int) (h1 : w.2.1.1.length < 4611686018427387904) (h2 : w.2.1.2.length < 4611686018427387904) (hrd : w.2.2.2.length < 4611686018427387904) : yv (wvd w) b c d e = some true := by
 unfold yv
 refine (y8 (z81 w b c d e h1 h2 hrd) _).trans ?_
 refine (y8 (zhu w h1 h2 hrd) _).trans ?_
 rw [zk]
 unfold z7Z
 by_cases hc : okc w = 0
 ·obtain ⟨_, o4, o5, o6⟩ := ji hc
  obtain ⟨_, l3, _⟩ := zqO hc
  have hd := (z2X o4).1
  obtain ⟨_, r60, hrec⟩ := z30 hd
  rw [if_pos hc, if_pos (show chkW w.1 w.2.1 w.2.2.1 w.2.2.2 = 0 from hc), ze, zy]
  by_cases c1 : b < 0
  ·rw [if_pos c1, if_pos c1]
   refine (y8 vA _).trans ?_
   rw [zC, Z6]
   exact zbp _ 5 rfl rfl
  rw [if_neg c1, if_neg c1]
  by_cases c2 : 2 < b
  ·rw [if_pos c2, if_pos (by omega)]
   refine (y8 vA _).trans ?_
   rw [zC, Z6]
   exact zbp _ 5 rfl rfl
  rw [if_neg c2, if_neg (by omega)]
  have hat : atI w.2.2.2 b = some (w.2.2.2.getD b.toNat default) := zbh (by omega) (by omega)
  have hm : w.2.2.2.getD b.toNat default ∈ w.2.2.2 := y6 (by omega)
  have hg := zfB o6 _ hm
  refine (y8 hat _).trans ?_
  rw [ze]
  by_cases c3 : w.2.2.2.getD b.toNat default < 0
  ·rw [if_pos c3, if_pos c3]
   refine (y8 vA _).trans ?_
   rw [zC, Z6]
   exact zbp _ 7 rfl rfl
  have hup : w.2.2.1 = true := by
   cases hu : w.2.2.1 with
   | true => rfl
   | false => have := hg.2.2 hu; omega
  have hv2 := hg.2.1
  rw [if_pos hup] at hv2
  obtain ⟨_, p2, _⟩ := o5 hup
  have hrp := zl5 p2 (w.2.2.2.getD b.toNat default).toNat
  have hcs := (JG hrp).2.1
  rw [if_neg c3, if_neg c3, if_pos hrp, ze, zy]
  by_cases c4 : c < 0
  ·rw [if_pos c4, zki hcs (.inl c4), if_neg (by simp)]
   refine (y8 vA _).trans ?_
   rw [zC, Z6]
   exact zbp _ 5 rfl rfl
  rw [if_neg c4]
  by_cases c5 : 3 < c
  ·rw [if_pos c5, zki hcs (.inr c5), if_neg (by simp)]
   refine (y8 vA _).trans ?_
   rw [zC, Z6]
   exact zbp _ 5 rfl rfl
  rw [if_neg c5]
  obtain ⟨r, e1, e2, e3⟩ := zqR hcs (i := c) (by omega) (by omega)
  have hl := zjm e3
  have hl2 := znR (allS (zY ((zA w.2.1).2.1.take (w.2.2.2.getD b.toNat default).toNat)).1 c).1 d e
  refine (y8 vA _).trans ?_
  rw [zC, Z6, zk, if_pos hc, if_pos e3]
  refine (y8 (zb3 hd) _).trans ?_
  refine (y8 hat _).trans ?_
  simp only
  rw [zF, if_pos ⟨by omega, by omega⟩, zP, zej _ (by rw [List.length_take]; omega) (fun r hr => z2r (hrec r (List.mem_of_mem_take hr))), z7, e1, z7, e2, z7]
  simp only
  rw [zh, if_pos rfl, znS _ _ _ (by omega), z7, z5L (by omega), z7, decide_eq_true rfl]
 ·rw [if_neg hc, if_neg (show ¬ chkW w.1 w.2.1 w.2.2.1 w.2.2.2 = 0 from hc)]
  refine (y8 vA _).trans ?_
  rw [zC, Z6, zk, if_neg hc]
  exact zbp _ _ rfl rfl
end Go.Proofs.Y
namespace Go.Proofs.Y
open Go.Rb Go.Kx
theorem zkj : reachBytes = 140737488351232 := by decide +kernel
end Go.Proofs.Y
namespace Go.Proofs.Y
open Go.Rb Go.Kx
theorem by5 : Tryz.prog.bytesOf 5 = 1 := by kernel_rfl
theorem by3 : Tryz.prog.bytesOf 3 = 8 := by kernel_rfl
abbrev wPtR : RT := .cons (.int .i64) (.one (.int .i64))
abbrev wBkR : RT := .cons (.int .i64) (.cons (.int .i64) (.cons (.int .i64) (.one (.sl 4 (.one .bool)))))
abbrev zs3 : RT := .cons (.sl 126 wBkR) (.one (.sl 73 wPtR))
abbrev zot : RT := .cons (.sl 95 zs3) (.cons (.sl 5 (.one (.int .u8))) (.cons (.sl 5 (.one (.int .u8))) (.cons .bool (.one (.sl 3 (.one (.int .i64)))))))
theorem zou {n : Int} (h : (Lit.int .u8 n).wf = true) : ((UInt8.ofNat n.toNat).toNat : Int) = n := by
 have e1 : IntKind.u8.min = 0 := rfl
 have e2 : IntKind.u8.max = 255 := rfl
 simp [Lit.wf, e1, e2] at h
 rw [UInt8.toNat_ofNat']; omega
theorem zb4 : ∀ {l : List Int}, (∀ n ∈ l, (Lit.int .u8 n).wf = true) → bytB (strB l) = l
 | [], _ => rfl
 | n :: l, h => by
  have ih := zb4 fun m hm => h m (List.mem_cons_of_mem n hm)
  have h0 := zou (h n (by simp))
  unfold bytB strB at ih ⊢
  rw [List.map_cons, List.map_cons, ih, h0]
theorem zkk (l : List Int) : (strB l).length = l.length := by unfold strB; rw [List.length_map]
theorem zov (s : Shf) (a b : List Int) (up : Bool) (rd : List Int) (h1 : a.length ≤ 140737488351232) (h1' : ∀ n ∈ a, (Lit.int .u8 n).wf = true) (h2 : b.length ≤ 140737488351232) (h2' : ∀ n ∈ b, (Lit.int .u8 n).wf = true) (h3 : rd.length * 8 ≤ 140737488351232) :
  ∃ w : Wd, ((s, a, b, up, rd) : Wv) = wvd w ∧ w.2.1.1.length < 4611686018427387904 ∧ w.2.1.2.length < 4611686018427387904 ∧ w.2.2.2.length < 4611686018427387904 := by
 have ea := zb4 h1'
 have eb := zb4 h2'
 have la := zkk a
 have lb := zkk b
 refine ⟨(s, (strB a, strB b), up, rd), ?_, ?_, ?_, ?_⟩
 ·show (s, a, b, up, rd) = (s, bytB (strB a), bytB (strB b), up, rd)
  rw [ea, eb]
 ·show (strB a).length < _
  omega
 ·show (strB b).length < _
  omega
 ·show rd.length < _
  omega
theorem zpJ (x : DenR zot) (h : BdR Tryz.prog zot x) : ∃ w : Wd, (show Wv from x) = wvd w ∧ w.2.1.1.length < 4611686018427387904 ∧ w.2.1.2.length < 4611686018427387904 ∧ w.2.2.2.length < 4611686018427387904 := by
 obtain ⟨_, ⟨h1, h1'⟩, ⟨h2, h2'⟩, _, h3, _⟩ := h
 rw [by5, zkj, Nat.mul_one] at h1 h2
 rw [by3, zkj] at h3
 exact zov x.1 x.2.1 x.2.2.1 x.2.2.2.1 x.2.2.2.2 h1 (fun n hn => h1' n hn) h2 (fun n hn => h2' n hn) h3
end Go.Proofs.Y
namespace Go.Proofs.YtnkegapccacndaaGreatDoor
open Go.Rb Go.Kx Go.RowKit
abbrev laidL : List (String × DataW Unit) := Rows.storePartsRow.laid
theorem zow (u : TypeId) (h : Tryz.prog.typeName? 3 u = some "*errors.errorString") : u = 249 :=
 typeName_ptr_named (nm := "errors.errorString") (by kernel_rfl) (by kernel_rfl) (by decide) u h
theorem zkl : Tryz.prog.cellsOf 251 = 1 := by kernel_rfl
theorem zox : Tryz.prog.cellsOf 9 = 1 := by kernel_rfl
theorem zqS {W : World} (h : laidMetH Tryz.prog laidL W) (hsh : W.ShapedOpen Tryz.prog) : Glob Tryz.prog W ∧ NG Tryz.prog ≤ W.heap.size := by
 rw [MakeChecks.laidMetH_plain _ _ _ (by kernel_rfl)] at h
 have h3 : laidMet Tryz.prog (("internal/strconv.uint64pow10", Lib.tabData .u64 Lib.pow10Tab) :: laidL.drop 3) W := h.tail.tail
 have h5 := h.tail.tail.tail.tail
 have h6 := h5.tail
 refine ⟨⟨?_, ?_, ?_, ?_⟩, zrF hsh (by kernel_rfl) (by kernel_rfl)⟩
 ·exact Lib.tabIs_of_head (g := 1) (t := 238) (e := 202) (n := 20) (by kernel_rfl) (by kernel_rfl) Tryz.underlying238 Tryz.underlying202 (by kernel_rfl) (by kernel_rfl) h3
 ·obtain ⟨a, s, hv, _⟩ := laid_sentinel (g := 2) (ti := 183) h6 (by kernel_rfl) (by kernel_rfl) Tryz.underlying183 zow Tryz.underlying249 Tryz.underlying251 rfl rfl Tryz.underlying9 zkl zox
  exact ⟨_, _, hv⟩
 ·obtain ⟨a, s, hv, _⟩ := laid_sentinel (g := 3) (ti := 183) h5 (by kernel_rfl) (by kernel_rfl) Tryz.underlying183 zow Tryz.underlying249 Tryz.underlying251 rfl rfl Tryz.underlying9 zkl zox
  exact ⟨_, _, hv⟩
 ·exact zoY (g := 0) (t := 3) (zero := #[.int .i64 0]) hsh (by kernel_rfl) (by kernel_rfl) (by kernel_rfl) (by kernel_rfl) (by kernel_rfl) Tryz.underlying3
theorem own : ownKnob Tryz.prog.godebug = none := by kernel_rfl
theorem zoy (os : Os) : (World.holding Tryz.prog os ⟨#[], #[], []⟩).layFits Tryz.prog laidL [] = true := by kernel_rfl
theorem zl6 (os : Os) : (World.holding Tryz.prog os ⟨#[], #[], []⟩).layIfaces Tryz.prog laidL (World.laidAll Tryz.prog os laidL) = true := by kernel_rfl
theorem zpK (os : Os) (args : Array Value) : laidMetH Tryz.prog laidL ((World.laidAll Tryz.prog os laidL).forCall (fun _ _ => 0) ⟨#[], args, []⟩).memory := by
 rw [MakeChecks.laidMetH_plain _ _ _ (by kernel_rfl)]
 exact laidMet_laidAll _ (zoy os) (zl6 os)
end Go.Proofs.YtnkegapccacndaaGreatDoor
