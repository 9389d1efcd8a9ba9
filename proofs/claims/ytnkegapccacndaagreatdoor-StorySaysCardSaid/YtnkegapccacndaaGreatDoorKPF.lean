/-
  What is proved, part by part: what is read off a text is what stands there; a world that is right stays right, whatever happens. what slices.Equal[[]int,int] comes to. what world.Same comes to. what slices.Grow[[]api.Errno,api.Errno] comes to. what slices.Concat[[]api.Errno,api.Errno] comes to. what rainbooklaw.WorldParts comes to. scripts in two parts; versions, and what was there at one: in plain words. what story.Versions comes to. what story.At comes to. what rainbooklaw.told comes to. versions, and what was there at one: what the program's functions come to, in plain words; the closed fact on versions. strings.genSplit of Go's library is known by its answer. what strings.SplitAfter comes to. strings.HasSuffix of Go's library is known by its answer. what rainbookref.linesOf comes to. what rainbookref.CheckDisk comes to. what rainbookref.Recovered comes to. what rainbookref.CheckWorld comes to. a disk's text as lines, by the document's function: what the program's function says; disks and worlds checked, recovered by the document. versions of a world that came about from the new one: they only grow; what is there at one, by what its record says. disks and worlds checked, recovered by the document: what the program says. what rainbooklaw.StorySays comes to. versions, and what was there at any, are told as the document says: the law's body is true, in plain words. what a law is handed is no larger than memory. a world that a law is handed is no larger than memory; its bytes are bytes. what the rows list of package-level variables is what the library's functions ask. Conditions: none.
-/
import Derived.Test.YtnkegapccacndaaGreatDoorKPE
import Derived.Test.YtnkegapccacndaaGreatDoorKPA
import Derived.Test.YtnkegapccacndaaGreatDoorKPB
import Derived.Test.YtnkegapccacndaaGreatDoorKPD
import Derived.Test.YtnkegapccacndaaGreatDoorKPC
import Derived.Test.YtnkegapccacndaaGreatDoorKED
import Derived.Test.YtnkegapccacndaaGreatDoorProg
import Derived.KernelRfl
import Derived.Test.YtnkegapccacndaaGreatDoorRows
set_option linter.unusedVariables false
set_option linter.unusedSimpArgs false
set_option linter.unnecessarySimpa false
set_option maxRecDepth 4000
namespace Go.Proofs.Y
open Go.Rb Go.Kx
theorem zjh (most all : Int) : ∀ (ws : List (List UInt8)) (acc : List Rc), ws ≠ [] →
  ∃ M t, (lnW most all ws acc).1 = acc ++ M ∧ jn 10 ws = vu M ++ t ∧ (lnW most all ws acc).2.1 = all - t.length ∧ ((lnW most all ws acc).2.2 = 0 → t = []) ∧ ∀ r ∈ M, zG r = 0
 | [], acc, h => absurd rfl h
 | w :: r, acc, _ => by
  rw [lnW]
  by_cases hr : r = []
  ·subst hr
   rw [if_pos rfl]
   by_cases hw : w = []
   ·subst hw; rw [if_pos rfl]; exact ⟨[], [], by simp, by simp [jn, vu], by simp, by simp, by simp⟩
   ·rw [if_neg hw]; exact ⟨[], w, by simp, by simp [jn, vu], rfl, by simp, by simp⟩
  ·rw [if_neg hr]
   by_cases hp : (yM w).2 = 0
   ·rw [if_pos hp]
    by_cases hm : (acc.length : Int) = most
    ·rw [if_pos hm]; exact ⟨[], jn 10 (w :: r), by simp, by simp [vu], rfl, by simp, by simp⟩
    ·rw [if_neg hm]
     obtain ⟨M, t, h1, h2, h3, h4, h5⟩ := zjh most all r (acc ++ [(yM w).1]) hr
     obtain ⟨p1, p2⟩ := zfW hp
     refine ⟨(yM w).1 :: M, t, by rw [h1]; simp, ?_, h3, h4, ?_⟩
     ·rw [z1C 10 w hr, zlV, p2, h2]
     ·intro q hq
      rcases List.mem_cons.1 hq with rfl | hq
      ·exact p1
      ·exact h5 q hq
   ·rw [if_neg hp]; exact ⟨[], jn 10 (w :: r), by simp, by simp [vu], rfl, fun h => absurd h hp, by simp⟩
theorem zoI {s a t : List UInt8} (h : s = a ++ t) : s.take a.length = a := by rw [h, List.take_left]
theorem zji (m : Int) (s : List UInt8) : ∃ t, s = vu (lnP m s).1 ++ t ∧ (lnP m s).2.1 = ((vu (lnP m s).1).length : Int) ∧ ((lnP m s).2.2 = 0 → t = []) ∧ ∀ r ∈ (lnP m s).1, zG r = 0 := by
 obtain ⟨M, t, h1, h2, h3, h4, h5⟩ := zjh m s.length (sp 10 s) [] (JB 10 s)
 rw [z5n] at h2
 rw [List.nil_append] at h1
 unfold lnP
 rw [h1]
 refine ⟨t, h2, ?_, h4, h5⟩
 rw [h3, h2, List.length_append]; omega
theorem zpQ {m : Int} (hm : 0 ≤ m) (s : List UInt8) : ((lnP m s).1.length : Int) ≤ m := zch m s.length (sp 10 s) [] (by simpa using hm)
theorem zk6 {d : List UInt8 × List UInt8} (h : ZE d = 0) : ∃ L, d.1 = vu L ∧ (lnP 60 d.1).1 = L ∧ L.length ≤ 60 ∧ ∀ r ∈ L, zG r = 0 := by
 obtain ⟨t, h1, h2, h3, h4⟩ := zji 60 d.1
 have ht := h3 (zk4 (s := d.1) (w := d.2) h)
 subst ht
 rw [List.append_nil] at h1
 exact ⟨_, h1, rfl, zje _, h4⟩
theorem z2A {d : List UInt8 × List UInt8} (h : ZE d = 0) : zy d = ((vu (zy d).2.1, []), (zy d).2.1, 0) ∧ (zy d).2.1.length ≤ 60 ∧ ∀ r ∈ (zy d).2.1, zG r = 0 := by
 obtain ⟨L, h1, h2, h3, h4⟩ := zk6 h
 have hm : (0 : Int) ≤ 60 - ((lnP 60 d.1).1.length : Int) := by rw [h2]; omega
 obtain ⟨t, g1, g2, g3, g4⟩ := zji (60 - ((lnP 60 d.1).1.length : Int)) d.2
 have g5 := zpQ hm d.2
 have hrec := zaD d
 have e : zy d = ((d.1 ++ d.2.take (JC d).2.1.toNat, []), (lnP 60 d.1).1 ++ (JC d).1, 0) := by unfold zy; rw [if_pos h]
 refine ⟨?_, ?_, hrec⟩
 ·rw [e]
  have hk : d.2.take (JC d).2.1.toNat = vu (JC d).1 := by
   unfold JC
   rw [g2, Int.toNat_natCast]
   exact zoI g1
  rw [hk]
  simp only
  rw [znj, h2, h1]
 ·rw [e]
  simp only [List.length_append]
  unfold JC
  omega
abbrev ze1 (w : Wd) : List Rc := (zy w.2.1).2.1
end Go.Proofs.Y
namespace Go.Proofs.Y
open Go.Rb Go.Kx
set_option maxRecDepth 100000
end Go.Proofs.Y
namespace Go.Proofs.Y
open Go.Rb Go.Kx
set_option maxRecDepth 100000
end Go.Proofs.Y
namespace Go.Proofs.Y
open Go.Rb Go.Kx
end Go.Proofs.Y
namespace Go.Proofs.Y
open Go.Rb Go.Kx
set_option maxRecDepth 100000
end Go.Proofs.Y
namespace Go.Proofs.Y
open Go.Rb Go.Kx
set_option maxRecDepth 100000
end Go.Proofs.Y
namespace Go.Proofs.Y
open Go.Rb Go.Kx
abbrev okc (w : Wd) : Int := chkW w.1 w.2.1 w.2.2.1 w.2.2.2
theorem zpR {w : Wd} (h : okc w = 0) : w.2.1.1.length + w.2.1.2.length ≤ 60000 ∧ w.2.2.2.length = 3 ∧ okS w.1 := by
 obtain ⟨⟨o1, o2, o3⟩, _⟩ := z5u h
 exact ⟨o2, o3, z1Y o1⟩
def verP (w : Wd) : Int × Int := if okc w = 0 then (((ze1 w).length : Int), 0) else (0, okc w)
def atP (w : Wd) (v i : Int) : List Pt × Int :=
 if okc w = 0 then (if v < 0 ∨ ((ze1 w).length : Int) < v then ([], 7) else if (Zg ((ze1 w).take v.toNat)).2 = 0 then allS (Zg ((ze1 w).take v.toNat)).1 i else ([], (Zg ((ze1 w).take v.toNat)).2)) else ([], okc w)
end Go.Proofs.Y
namespace Go.Proofs.Y
open Go.Rb Go.Kx
noncomputable def z4j : Code := zl Tryz.f42
noncomputable def z4k : FuncId → Option GS := tabG [(24, JD), (34, vX)]
theorem zci : ΓOK Tryz.prog z4k := z8 (JH) (z8 (vH) (zg))
def z4l : HT := ⟨tabL [], tabH []⟩
abbrev J3 : List IT := [.v (.cons (.sl 95 (.cons (.sl 126 (.cons (.int .i64) (.cons (.int .i64) (.cons (.int .i64) (.one (.sl 4 (.one .bool))))))) (.one (.sl 73 (.cons (.int .i64) (.one (.int .i64))))))) (.cons (.sl 5 (.one (.int .u8))) (.cons (.sl 5 (.one (.int .u8))) (.cons (.bool) (.one (.sl 3 (.one (.int .i64)))))))) true]
abbrev z2S : List OT := [⟨.one (.int .i64), false, []⟩, ⟨.one (.int .i64), false, []⟩]
set_option maxRecDepth 100000
noncomputable def Yh : List (List (Int × Int × Int × List Bool) × List (Int × Int)) × List Int × List Int × Bool × List Int → Option (Int × Int) := fun a => z6 (yR (a.1, a.2.1, a.2.2.1, a.2.2.2.1, a.2.2.2.2)) fun y => ifB (neI y 0) (some (0, y)) (z6 (ZT (a.2.1, a.2.2.1)) fun y => some (lenI y.2.1, 0))
theorem z8f (x : PI J3) : Yh x = fnE T z4k z4l z4j (zu Tryz.f42) J3 z2S x := by kernel_rfl
noncomputable abbrev JI : GS := zt false J3 z2S fun x => Yh x
theorem z1a : GSOK Tryz.prog 42 JI := zm tok zci fmo (Ht := z4l) (fn := Tryz.f42) (Tryz.func42) (c := z4j) (by kernel_rfl) (by kernel_rfl) (by kernel_rfl) (by decide +kernel) (by decide) z8f
end Go.Proofs.Y
namespace Go.Proofs.Y
open Go.Rb Go.Kx
noncomputable def ze2 : Code := zl Tryz.f43
noncomputable def ze3 : FuncId → Option GS := tabG [(24, JD), (34, vX), (28, jr), (48, zbo)]
theorem zlZ : ΓOK Tryz.prog ze3 := z8 (JH) (z8 (vH) (z8 (J1) (z8 (zeB) (zg))))
def ze4 : HT := ⟨tabL [], tabH []⟩
abbrev z5X : List IT := [.v (.cons (.sl 95 (.cons (.sl 126 (.cons (.int .i64) (.cons (.int .i64) (.cons (.int .i64) (.one (.sl 4 (.one .bool))))))) (.one (.sl 73 (.cons (.int .i64) (.one (.int .i64))))))) (.cons (.sl 5 (.one (.int .u8))) (.cons (.sl 5 (.one (.int .u8))) (.cons (.bool) (.one (.sl 3 (.one (.int .i64)))))))) true, .v (.one (.int .i64)) false, .v (.one (.int .i64)) false]
abbrev zbK : List OT := [⟨.one (.sl 73 (.cons (.int .i64) (.one (.int .i64)))), false, []⟩, ⟨.one (.int .i64), false, []⟩]
set_option maxRecDepth 100000
noncomputable def vw : List (List (Int × Int × Int × List Bool) × List (Int × Int)) × List Int × List Int × Bool × List Int → Int → Int → Option (List (Int × Int) × Int) := fun a b c => z6 (yR (a.1, a.2.1, a.2.2.1, a.2.2.2.1, a.2.2.2.2)) fun y => ifB (neI y 0) (some ([], y)) (z6 (ZT (a.2.1, a.2.2.1)) fun y => ifB (ltI b 0) (some ([], 7)) (ifB (gtI b (lenI y.2.1)) (some ([], 7)) (ifB (in1 y.2.1 b) (z6 (ZS (vc y.2.1 b)) fun y => ifB (neI y.2 0) (some ([], y.2)) (z6 (Jp y.1 c) fun y => some (y.1, y.2))) none)))
theorem zgA (x : PI z5X) : vw (x.1) (x.2.1) (x.2.2) = fnE T ze3 ze4 ze2 (zu Tryz.f43) z5X zbK x := by kernel_rfl
noncomputable abbrev z7u : GS := zt false z5X zbK fun x => vw (x.1) (x.2.1) (x.2.2)
theorem z8c : GSOK Tryz.prog 43 z7u := zm tok zlZ fmo (Ht := ze4) (fn := Tryz.f43) (Tryz.func43) (c := ze2) (by kernel_rfl) (by kernel_rfl) (by kernel_rfl) (by decide +kernel) (by decide) zgA
end Go.Proofs.Y
namespace Go.Proofs.Y
open Go.Rb Go.Kx
noncomputable def z24 : Code := zl Tryz.f39
noncomputable def z25 : FuncId → Option GS := tabG [(26, zbF), (17, zbJ), (42, JI), (43, z7u)]
theorem zai : ΓOK Tryz.prog z25 := z8 (zeL) (z8 (zeO) (z8 (z1a) (z8 (z8c) (zg))))
def z26 : HT := ⟨tabL [], tabH []⟩
abbrev Vm : List IT := []
abbrev z1b : List OT := [⟨.one .bool, false, []⟩]
set_option maxRecDepth 100000
noncomputable def yk : Option Bool :=  z6 Jr fun y => z6 (Vl (y.1, y.2.1, y.2.2.1, y.2.2.2.1, y.2.2.2.2) [(1, 0, 0, [(0, 5, 0), (0, 6, 0)]), (2, 0, 2, []), (4, 0, 9, [])]) fun y => z6 (Yh (y.1.1, y.1.2.1, y.1.2.2.1, y.1.2.2.2.1, y.1.2.2.2.2)) fun y_1 => z6 (vw (y.1.1, y.1.2.1, y.1.2.2.1, y.1.2.2.2.1, y.1.2.2.2.2) 2 0) fun y_2 => z6 (vw (y.1.1, y.1.2.1, y.1.2.2.1, y.1.2.2.2.1, y.1.2.2.2.2) 3 0) fun y_3 => z6 (vw (y.1.1, y.1.2.1, y.1.2.2.1, y.1.2.2.2.1, y.1.2.2.2.2) 4 0) fun y_4 => ifB (eqI y.2.2 0) (ifB (eqI y_1.2 0) (ifB (eqI y_2.2 0) (ifB (eqI y_3.2 0) (ifB (eqI y_4.2 7) (ifB (eqI y_1.1 3) (ifB (eqI (lenI y_2.1) 2) (some (eqI (lenI y_3.1) 0)) (some false)) (some false)) (some false)) (some false)) (some false)) (some false)) (some false)
theorem z6M (x : PI Vm) : yk  = fnE T z25 z26 z24 (zu Tryz.f39) Vm z1b x := by kernel_rfl
noncomputable abbrev z27 : GS := zt false Vm z1b fun x => yk 
theorem z6N : GSOK Tryz.prog 39 z27 := zm tok zai fmo (Ht := z26) (fn := Tryz.f39) (Tryz.func39) (c := z24) (by kernel_rfl) (by kernel_rfl) (by kernel_rfl) (by decide +kernel) (by decide) z6M
end Go.Proofs.Y
namespace Go.Proofs.Y
open Go.Rb Go.Kx
theorem zbL (w : Wd) (h1 : w.2.1.1.length < 4611686018427387904) (h2 : w.2.1.2.length < 4611686018427387904) (hrd : w.2.2.2.length < 4611686018427387904) : Yh (wvd w) = some (verP w) := by
 unfold Yh
 refine (Y9 (z2y w.1 w.2.1 w.2.2.1 w.2.2.2 h1 h2 hrd) _).trans ?_
 rw [zi]
 unfold verP
 by_cases hc : okc w = 0
 ·rw [if_pos hc, if_pos hc]
  refine (Y9 (Jq w.2.1 h1 h2) _).trans ?_
  rw [zb]
 ·rw [if_neg hc, if_neg hc]
theorem ze5 (w : Wd) (v i : Int) (h1 : w.2.1.1.length < 4611686018427387904) (h2 : w.2.1.2.length < 4611686018427387904) (hrd : w.2.2.2.length < 4611686018427387904) : vw (wvd w) v i = some (atP w v i) := by
 unfold vw
 refine (Y9 (z2y w.1 w.2.1 w.2.2.1 w.2.2.2 h1 h2 hrd) _).trans ?_
 rw [zi]
 unfold atP
 by_cases hc : okc w = 0
 ·obtain ⟨_, o4, _⟩ := z5u hc
  have hrec := zaD w.2.1
  have hrl := zcg w.2.1 o4
  rw [if_pos hc, if_pos hc]
  refine (Y9 (Jq w.2.1 h1 h2) _).trans ?_
  simp only
  rw [zh, zx, zb]
  by_cases c1 : v < 0
  ·rw [if_pos c1, if_pos (.inl c1)]
  rw [if_neg c1]
  by_cases c2 : ((zy w.2.1).2.1.length : Int) < v
  ·rw [if_pos c2, if_pos (.inr c2)]
  rw [if_neg c2, if_neg (by rintro (h | h); exact c1 h; exact c2 h), zD, if_pos ⟨by omega, by omega⟩, zS, z9I _ (by rw [List.length_take]; omega) (fun r hr => z22 (hrec r (List.mem_of_mem_take hr))), z7, zi]
  by_cases c3 : (Zg ((zy w.2.1).2.1.take v.toNat)).2 = 0
  ·rw [if_pos c3, if_pos c3, zpF _ _ (z5S _), z7]
  ·rw [if_neg c3, if_neg c3]
 ·rw [if_neg hc, if_neg hc]
def l3 : List Hp := [(1, 0, 0, [(0, 5, 0), (0, 6, 0)]), (2, 0, 2, []), (4, 0, 9, [])]
def wT : Wd := (runP l3 w0 []).1
theorem chkT : okc wT = 0 := by decide +kernel
theorem zr5 : (runP l3 w0 []).2 = [0, 0, 0] := by decide +kernel
theorem run3 : Vl (wvd w0) l3 = some (wvd wT, [0, 0, 0], 0) := by
 rw [zqz w0 l3 (by decide) (by decide) (by decide) (by decide), if_pos chk0, if_neg (by decide), zr5]; rfl
theorem verT : verP wT = (3, 0) := by decide +kernel
theorem atT2 : (atP wT 2 0).2 = 0 ∧ (atP wT 2 0).1.length = 2 := by decide +kernel
theorem atT3 : (atP wT 3 0).2 = 0 ∧ (atP wT 3 0).1.length = 0 := by decide +kernel
theorem atT4 : (atP wT 4 0).2 = 7 := by decide +kernel
theorem zkV : yk = some true := by
 obtain ⟨a1, a2, _⟩ := zpR chkT
 have b1 : wT.2.1.1.length < 4611686018427387904 := by omega
 have b2 : wT.2.1.2.length < 4611686018427387904 := by omega
 have b3 : wT.2.2.2.length < 4611686018427387904 := by omega
 unfold yk
 refine (Y9 znr _).trans ?_
 refine (Y9 run3 _).trans ?_
 refine (Y9 (zbL wT b1 b2 b3) _).trans ?_
 refine (Y9 (ze5 wT 2 0 b1 b2 b3) _).trans ?_
 refine (Y9 (ze5 wT 3 0 b1 b2 b3) _).trans ?_
 refine (Y9 (ze5 wT 4 0 b1 b2 b3) _).trans ?_
 simp only [verT, atT2.1, atT2.2, atT3.1, atT3.2, atT4, zb, zf, if_true]
 rfl
end Go.Proofs.Y
namespace Go.Proofs.Y
open Go.Rb Go.Kx
noncomputable abbrev zjj : GS := .r (libS [.v (.one .str) false, .v (.one .str) false, .v (.one (.int .i64)) false, .v (.one (.int .i64)) false] (fun x => z3k (x.1) (x.2.1) (x.2.2.1) (x.2.2.2)) (z4L 9))
theorem zk7 : GSOK Tryz.prog 154 zjj := znf
end Go.Proofs.Y
namespace Go.Proofs.Y
open Go.Rb Go.Kx
noncomputable def z12 : Code := zl Tryz.f127
noncomputable def z13 : FuncId → Option GS := tabG [(154, zjj)]
theorem z7v : ΓOK Tryz.prog z13 := z8 (zk7) (zg)
def z14 : HT := ⟨tabL [], tabH []⟩
abbrev vY : List IT := [.v (.one .str) false, .v (.one .str) false]
abbrev z0h : List OT := [⟨.one (.sl 9 (.one .str)), false, []⟩]
set_option maxRecDepth 100000
noncomputable def Y7 : List UInt8 → List UInt8 → Option (List (List UInt8)) := fun a b => z6 (z3k a b (lenI b) (-1)) fun y => some y
theorem z4A (x : PI vY) : Y7 (x.1) (x.2) = fnE T z13 z14 z12 (zu Tryz.f127) vY z0h x := by kernel_rfl
noncomputable abbrev z15 : GS := zt false vY z0h fun x => Y7 (x.1) (x.2)
theorem z4B : GSOK Tryz.prog 127 z15 := zm tok z7v fmo (Ht := z14) (fn := Tryz.f127) (Tryz.func127) (c := z12) (by kernel_rfl) (by kernel_rfl) (by kernel_rfl) (by decide +kernel) (by decide) z4A
end Go.Proofs.Y
namespace Go.Proofs.Y
open Go.Rb Go.Kx
noncomputable abbrev zp3 : GS := .r (libS [.v (.one .str) false, .v (.one .str) false] (fun x => sufO (x.1) (x.2)) zgJ)
theorem zoJ : GSOK Tryz.prog 128 zp3 := zqv
end Go.Proofs.Y
namespace Go.Proofs.Y
open Go.Rb Go.Kx
noncomputable def z0i : Code := zl Tryz.f101
noncomputable def z0j : FuncId → Option GS := tabG [(127, z15), (128, zp3), (129, z0g)]
theorem z6O : ΓOK Tryz.prog z0j := z8 (z4B) (z8 (zoJ) (z8 (z4i) (zg)))
def z0k : HT := ⟨tabL [(4, .it [] (dyn [.a 7 52 (.cons (.int .i64) (.cons (.int .i64) (.cons (.int .i64) (.one (.sl 77 (.cons (.int .i64) (.cons (.int .i64) (.one (.int .i64))))))))), .t 8 (.int .i64), .t 16 (.int .i64)]))], tabH []⟩
abbrev vF : List IT := [.v (.one .str) false, .v (.one (.int .i64)) false]
abbrev Jt : List OT := [⟨.one (.sl 52 (.cons (.int .i64) (.cons (.int .i64) (.cons (.int .i64) (.one (.sl 77 (.cons (.int .i64) (.cons (.int .i64) (.one (.int .i64)))))))))), false, []⟩, ⟨.one (.int .i64), false, []⟩, ⟨.one (.int .i64), false, []⟩]
set_option maxRecDepth 100000
noncomputable def y4 : List UInt8 → Int → Option (List (Int × Int × Int × List (Int × Int × Int)) × Int × Int) := fun a b => z6 (Y7 a [10]) fun y => zk maxR (fun (x : Int × Int × List (Int × Int × Int × List (Int × Int × Int))) => ifB (ltI x.2.1 (lenI y)) (z6 (atI y x.2.1) fun y => ifB (eqS y []) (mapO Sum.inr (some (x.2.2, x.1, 0))) (z6 (sufO y [10]) fun y_1 => ifB (notB y_1) (mapO Sum.inr (some (x.2.2, x.1, 8))) (ifB (in1 y (wsub .i64 (lenI y) 1)) (z6 (yX (vc y (wsub .i64 (lenI y) 1))) fun y_2 => ifB (eqI y_2.2 0) (ifB (geI (lenI x.2.2) b) (mapO Sum.inr (some (x.2.2, x.1, 2))) (ifB (neI y_2.2 0) (mapO Sum.inr (some (x.2.2, x.1, y_2.2))) (ifB (ze 48 x.2.2 [(y_2.1.1, y_2.1.2.1, y_2.1.2.2.1, y_2.1.2.2.2)]) (some (Sum.inl (wadd .i64 x.1 (lenI y), wadd .i64 x.2.1 1, cat x.2.2 [(y_2.1.1, y_2.1.2.1, y_2.1.2.2.1, y_2.1.2.2.2)]))) none))) (ifB (neI y_2.2 0) (mapO Sum.inr (some (x.2.2, x.1, y_2.2))) (ifB (ze 48 x.2.2 [(y_2.1.1, y_2.1.2.1, y_2.1.2.2.1, y_2.1.2.2.2)]) (some (Sum.inl (wadd .i64 x.1 (lenI y), wadd .i64 x.2.1 1, cat x.2.2 [(y_2.1.1, y_2.1.2.1, y_2.1.2.2.1, y_2.1.2.2.2)]))) none))) none))) (mapO Sum.inr (some (x.2.2, x.1, 0)))) (0, 0, [])
theorem z4m (x : PI vF) : y4 (x.1) (x.2) = fnE T z0j z0k z0i (zu Tryz.f101) vF Jt x := by kernel_rfl
noncomputable abbrev vZ : GS := zt false vF Jt fun x => y4 (x.1) (x.2)
theorem j7 : GSOK Tryz.prog 101 vZ := zm tok z6O fmo (Ht := z0k) (fn := Tryz.f101) (Tryz.func101) (c := z0i) (by kernel_rfl) (by kernel_rfl) (by kernel_rfl) (by decide +kernel) (by decide) z4m
end Go.Proofs.Y
namespace Go.Proofs.Y
open Go.Rb Go.Kx
noncomputable def jP : Code := zl Tryz.f62
noncomputable def jQ : FuncId → Option GS := tabG [(101, vZ)]
theorem z4C : ΓOK Tryz.prog jQ := z8 (j7) (zg)
def jR : HT := ⟨tabL [], tabH []⟩
abbrev YY : List IT := [.v (.cons (.sl 5 (.one (.int .u8))) (.one (.sl 5 (.one (.int .u8))))) true]
abbrev j8 : List OT := [⟨.one (.int .i64), false, []⟩]
set_option maxRecDepth 100000
noncomputable def yz : List Int × List Int → Option Int := fun a => ifB (gtI (lenI a.1) 60000) (some 2) (ifB (gtI (lenI a.2) (wsub .i64 60000 (lenI a.1))) (some 2) (z6 (y4 (strB a.1) 60) fun y => some y.2.2))
theorem z2B (x : PI YY) : yz x = fnE T jQ jR jP (zu Tryz.f62) YY j8 x := by kernel_rfl
noncomputable abbrev jS : GS := zt false YY j8 fun x => yz x
theorem z2C : GSOK Tryz.prog 62 jS := zm tok z4C fmo (Ht := jR) (fn := Tryz.f62) (Tryz.func62) (c := jP) (by kernel_rfl) (by kernel_rfl) (by kernel_rfl) (by decide +kernel) (by decide) z2B
end Go.Proofs.Y
namespace Go.Proofs.Y
open Go.Rb Go.Kx
noncomputable def jT : Code := zl Tryz.f55
noncomputable def jU : FuncId → Option GS := tabG [(101, vZ), (87, z3g), (102, zdy)]
theorem z4D : ΓOK Tryz.prog jU := z8 (j7) (z8 (z2p) (z8 (zgu) (zg)))
def jV : HT := ⟨tabL [], tabH []⟩
abbrev YZ : List IT := [.v (.cons (.sl 5 (.one (.int .u8))) (.one (.sl 5 (.one (.int .u8))))) true]
abbrev j9 : List OT := [⟨.cons (.sl 5 (.one (.int .u8))) (.one (.sl 5 (.one (.int .u8)))), true, []⟩, ⟨.one (.sl 52 (.cons (.int .i64) (.cons (.int .i64) (.cons (.int .i64) (.one (.sl 77 (.cons (.int .i64) (.cons (.int .i64) (.one (.int .i64)))))))))), false, []⟩]
set_option maxRecDepth 100000
noncomputable def y6 : List Int × List Int → Option ((List Int × List Int) × List (Int × Int × Int × List (Int × Int × Int))) := fun a => z6 (y4 (strB a.1) 60) fun y => z6 (y4 (strB a.2) (wsub .i64 60 (lenI y.1))) fun y_1 => ifB (in1 a.2 y_1.2.1) (z6 (V8 [a.1, vc a.2 y_1.2.1]) fun y_2 => z6 (z0Y [y.1, y_1.1]) fun y => some ((y_2, []), y)) none
theorem z2D (x : PI YZ) : y6 x = fnE T jU jV jT (zu Tryz.f55) YZ j9 x := by kernel_rfl
noncomputable abbrev vj : GS := zt false YZ j9 fun x => y6 x
theorem Vi : GSOK Tryz.prog 55 vj := zm tok z4D fmo (Ht := jV) (fn := Tryz.f55) (Tryz.func55) (c := jT) (by kernel_rfl) (by kernel_rfl) (by kernel_rfl) (by decide +kernel) (by decide) z2D
end Go.Proofs.Y
namespace Go.Proofs.Y
open Go.Rb Go.Kx
noncomputable def ja : Code := zl Tryz.f18
noncomputable def jb : FuncId → Option GS := tabG [(62, jS), (55, vj), (56, vS), (63, jO), (64, ZV)]
theorem z4n : ΓOK Tryz.prog jb := z8 (z2C) (z8 (Vi) (z8 (VS) (z8 (z2n) (z8 (ZJ) (zg)))))
def jc : HT := ⟨tabL [(15, .it [] (dyn [.t 50 (.int .i64)]))], tabH []⟩
abbrev YG : List IT := [.v (.cons (.sl 95 (.cons (.sl 126 (.cons (.int .i64) (.cons (.int .i64) (.cons (.int .i64) (.one (.sl 4 (.one .bool))))))) (.one (.sl 73 (.cons (.int .i64) (.one (.int .i64))))))) (.cons (.sl 5 (.one (.int .u8))) (.cons (.sl 5 (.one (.int .u8))) (.cons (.bool) (.one (.sl 3 (.one (.int .i64)))))))) true]
abbrev VB : List OT := [⟨.one (.int .i64), false, []⟩]
set_option maxRecDepth 100000
noncomputable def ym : List (List (Int × Int × Int × List Bool) × List (Int × Int)) × List Int × List Int × Bool × List Int → Option Int := fun a => z6 (yz (a.2.1, a.2.2.1)) fun y => ifB (neI y 0) (some y) (ifB a.2.2.2.1 (ifB (gtI (lenI a.2.2.1) 0) (some 4) (z6 (y6 (a.2.1, a.2.2.1)) fun y => z6 (ZK y.2) fun y_1 => ifB (neI y_1.2 0) (some y_1.2) (z6 (ZR y_1.1 a.1) fun y_2 => ifB (notB y_2) (some 4) (ifB (neI (lenI a.2.2.2.2) 3) (some 4) (zk maxR (fun (x : Int) => ifB (ltI x (lenI a.2.2.2.2)) (z6 (atI a.2.2.2.2 x) fun y_3 => z6 (zj y_3 (-1) (lenI y.2)) fun y => ifB (notB y) (mapO Sum.inr (some 3)) (ifB (geI y_3 0) (ifB (notB a.2.2.2.1) (mapO Sum.inr (some 3)) (some (Sum.inl (wadd .i64 x 1)))) (some (Sum.inl (wadd .i64 x 1))))) (mapO Sum.inr (some 0))) 0))))) (z6 (ZK []) fun y => ifB (neI y.2 0) (some y.2) (z6 (ZR y.1 a.1) fun y => ifB (notB y) (some 4) (ifB (neI (lenI a.2.2.2.2) 3) (some 4) (zk maxR (fun (x : Int) => ifB (ltI x (lenI a.2.2.2.2)) (z6 (atI a.2.2.2.2 x) fun y => z6 (zj y (-1) 0) fun y_1 => ifB (notB y_1) (mapO Sum.inr (some 3)) (ifB (geI y 0) (ifB (notB a.2.2.2.1) (mapO Sum.inr (some 3)) (some (Sum.inl (wadd .i64 x 1)))) (some (Sum.inl (wadd .i64 x 1))))) (mapO Sum.inr (some 0))) 0)))))
theorem z28 (x : PI YG) : ym x = fnE T jb jc ja (zu Tryz.f18) YG VB x := by kernel_rfl
noncomputable abbrev jd : GS := zt false YG VB fun x => ym x
theorem z29 : GSOK Tryz.prog 18 jd := zm tok z4n fmo (Ht := jc) (fn := Tryz.f18) (Tryz.func18) (c := ja) (by kernel_rfl) (by kernel_rfl) (by kernel_rfl) (by decide +kernel) (by decide) z28
end Go.Proofs.Y
namespace Go.Proofs.Y
open Go.Rb Go.Kx
def saL : List (List UInt8) → List (List UInt8)
 | [] => []
 | w :: r => if r = [] then [w] else (w ++ [10]) :: saL r
theorem zk8 : ∀ (l : List UInt8), Lib.splitK [10] 1 (Lib.count l [10]) l = saL (sp 10 l) := by
 have key : ∀ (ws : List (List UInt8)), ws ≠ [] → (∀ w ∈ ws, ∀ x ∈ w, x ≠ 10) → Lib.splitK [10] 1 (Lib.count (jn 10 ws) [10]) (jn 10 ws) = saL ws := by
  intro ws
  induction ws with
  | nil => intro h; exact absurd rfl h
  | cons w r ih =>
   intro _ h
   by_cases hr : r = []
   ·subst hr
    simp only [jn, List.map_nil, List.flatten_nil, List.append_nil]
    rw [Lib.count_miss (z1D (h w (by simp)))]; rfl
   ·rw [z1C _ _ hr]
    have hi : Lib.index (w ++ 10 :: jn 10 r) [10] = w.length := z2w (h w (by simp))
    have hd : (w ++ 10 :: jn 10 r).drop (w.length + [(10 : UInt8)].length) = jn 10 r := by
     rw [List.drop_append]; simp
    have hr2 := ih hr fun w hw => h w (by simp [hw])
    rw [Lib.count_hit (by simp) hi, hd, Nat.add_comm 1, Lib.splitK, if_neg (by rw [hi]; intro e; have := beq_iff_eq.1 e; omega), hi]
    have e : ((w.length : Nat) : Int).toNat = w.length := by omega
    rw [e, hd, hr2, saL, if_neg hr]
    congr 1
    rw [List.take_append, List.take_of_length_le (by omega)]
    simp
 intro l
 have h := key (sp 10 l) (JB 10 l) (z7n 10 l)
 rw [z5n] at h
 exact h
theorem zkW : ∀ ws : List (List UInt8), (saL ws).length = ws.length
 | [] => rfl
 | w :: r => by
  rw [saL]
  split
  ·rename_i h; subst h; rfl
  ·simp [zkW r]
theorem zkX : ∀ (ws : List (List UInt8)), ∀ t ∈ saL ws, ∃ w ∈ ws, t.length ≤ w.length + 1
 | [], t, h => by cases h
 | w :: r, t, h => by
  rw [saL] at h
  split at h
  ·rw [List.mem_singleton.1 h]; exact ⟨w, by simp, by omega⟩
  ·rcases List.mem_cons.1 h with rfl | h
   ·exact ⟨w, by simp, by simp⟩
   ·obtain ⟨v, hv, h2⟩ := zkX r t h
    exact ⟨v, List.mem_cons_of_mem _ hv, h2⟩
def lnA (most : Int) : List (List UInt8) → Int → List Rc → List Rc × Int × Int
 | [], n, acc => (acc, n, 0)
 | t :: r, n, acc => if t = [] then (acc, n, 0) else if Lib.hasSuffix t [10] = false then (acc, n, 8) else
  if (yM (t.take (t.length - 1))).2 = 0 then (if most ≤ (acc.length : Int) then (acc, n, 2) else lnA most r (n + t.length) (acc ++ [(yM (t.take (t.length - 1))).1])) else (acc, n, (yM (t.take (t.length - 1))).2)
theorem zpS (w : List UInt8) : Lib.hasSuffix (w ++ [10]) [10] = true := by
 unfold Lib.hasSuffix
 simp
theorem zoK {w : List UInt8} (h : ∀ x ∈ w, x ≠ 10) (hw : w ≠ []) : Lib.hasSuffix w [10] = false := by
 cases hq : Lib.hasSuffix w [10] with
 | false => rfl
 | true =>
  exfalso
  unfold Lib.hasSuffix at hq
  have h2 : [(10 : UInt8)] <:+ w := by simpa using hq
  obtain ⟨v, hv⟩ := h2
  exact h 10 (by rw [← hv]; simp) rfl
theorem znu (most all : Int) : ∀ (ws : List (List UInt8)) (n : Int) (acc : List Rc), ws ≠ [] → (∀ w ∈ ws, ∀ x ∈ w, x ≠ 10) → (acc.length : Int) ≤ most → n = all - (jn 10 ws).length → lnA most (saL ws) n acc = lnW most all ws acc
 | [], n, acc, h, _, _, _ => absurd rfl h
 | w :: r, n, acc, _, hc, hm, hn => by
  rw [saL, lnW]
  by_cases hr : r = []
  ·subst hr
   rw [if_pos rfl, if_pos rfl, lnA]
   simp only [jn, List.map_nil, List.flatten_nil, List.append_nil] at hn
   by_cases hw : w = []
   ·subst hw; rw [if_pos rfl, if_pos rfl, hn]; simp
   ·rw [if_neg hw, if_neg hw, zoK (hc w (by simp)) hw, if_pos rfl, hn]
  ·have hj := z1C 10 w hr
   have hl : ((jn 10 (w :: r)).length : Int) = w.length + 1 + (jn 10 r).length := by rw [hj]; simp; omega
   have ht : (w ++ [10]).take ((w ++ [(10 : UInt8)]).length - 1) = w := by simp
   rw [if_neg hr, if_neg hr, lnA, if_neg (by simp), zpS, if_neg (by decide), ht]
   by_cases hp : (yM w).2 = 0
   ·rw [if_pos hp, if_pos hp]
    by_cases hq : (acc.length : Int) = most
    ·rw [if_pos (by omega), if_pos hq, hn]
    ·rw [if_neg (by omega), if_neg hq]
     refine znu most all r _ _ hr (fun v hv => hc v (List.mem_cons_of_mem _ hv)) (by simp only [List.length_append, List.length_cons, List.length_nil]; omega) ?_
     simp only [List.length_append, List.length_cons, List.length_nil]
     omega
   ·rw [if_neg hp, if_neg hp, hn]
theorem z7w (s : List UInt8) (most : Int) (hs : s.length ≤ 60000) (hm : 0 ≤ most) : y4 s most = some (lnP most s) := by
 unfold y4
 have e1 : Y7 s [10] = some (saL (sp 10 s)) := by
  unfold Y7 z3k
  rw [if_pos ⟨⟨by omega, by simp⟩, rfl, by rw [zb]; simp, by rw [zb]; simp⟩, z7, zb]
  exact congrArg some (zk8 s)
 have e2 : lnP most s = lnA most (saL (sp 10 s)) 0 [] := by
  unfold lnP
  exact (znu most s.length (sp 10 s) 0 [] (JB 10 s) (z7n 10 s) (by simpa using hm) (by rw [z5n]; omega)).symm
 have hlen : (saL (sp 10 s)).length ≤ 60001 := by rw [zkW]; have := zdR 10 s; omega
 have htl : ∀ t ∈ saL (sp 10 s), t.length ≤ 60001 := fun t ht => by
  obtain ⟨w, hw, h2⟩ := zkX _ t ht
  have := zeI 10 s w hw
  omega
 rw [e1, z7, e2]
 generalize saL (sp 10 s) = ts at *
 refine zR ts (fun j (x : Int × List Rc) => (x.1, (j : Int), x.2)) (G := fun rest x => some (lnA most rest x.1 x.2)) (P := fun j x => (0 ≤ x.1 ∧ x.1 ≤ 60001 * j) ∧ x.2.length ≤ j) (s0 := (0, [])) ?_ ?_ ⟨⟨by simp, by simp⟩, by simp⟩ (by omega)
 ·rintro j ⟨n, acc⟩ hj ⟨⟨p0, p1⟩, p2⟩ k hk
  have hat := zK hj
  have hmem : ts.getD j default ∈ ts := by simp only [List.getD, List.getElem?_eq_getElem hj, Option.getD_some]; exact List.getElem_mem hj
  have ht := htl _ hmem
  generalize ts.getD j default = t at *
  simp only at p0 p1 p2 hk ⊢
  rw [za, zh, zb, if_pos (by omega), hat, z7, za, zd, lnA, Zp]
  by_cases c0 : t = []
  ·rw [if_pos c0, if_pos c0]
  ·have hpos : 0 < t.length := List.length_pos_iff.2 c0
   have hsu : sufO t [10] = some (Lib.hasSuffix t [10]) := by unfold sufO; rw [if_pos (by omega)]
   rw [if_neg c0, if_neg c0, hsu, z7, za, zd, zB]
   cases hq : Lib.hasSuffix t [10] with
   | false => rw [Zv, if_pos rfl]
   | true =>
    have e3 : vc t (wsub .i64 (lenI t) 1) = t.take (t.length - 1) := by
     rw [zS, zb, Zz ⟨by omega, by omega⟩]
     congr 1; omega
    rw [Zi, if_neg (by decide), za, zD, zb, Zz ⟨by omega, by omega⟩, if_pos ⟨by omega, by omega⟩]
    rw [zb, Zz ⟨by omega, by omega⟩] at e3
    rw [e3, zlY _ (by rw [List.length_take]; omega), z7]
    generalize yM (t.take (t.length - 1)) = p at *
    rw [za, zf]
    by_cases c1 : p.2 = 0
    ·rw [if_pos c1, if_pos c1, za, zT, zb]
     by_cases c2 : most ≤ (acc.length : Int)
     ·rw [if_pos c2, if_pos c2, zd]
     ·rw [if_neg c2, if_neg c2, za, zi, if_pos c1, za, zz, if_pos (by simp only [List.length_cons, List.length_nil]; omega), zq, zY, ZP ⟨by omega, by omega⟩, zF (by omega)]
      exact hk (n + t.length, acc ++ [p.1]) ⟨⟨by simp only; omega, by simp only; push_cast; omega⟩, by simp only [List.length_append, List.length_cons, List.length_nil]; omega⟩
    ·rw [if_neg c1, if_neg c1, za, zd, zi, if_neg c1]
 ·rintro ⟨n, acc⟩ _ k
  simp only
  rw [za, zd, zh, zb, if_neg (by omega)]; rfl
end Go.Proofs.Y
namespace Go.Proofs.Y
open Go.Rb Go.Kx
end Go.Proofs.Y
namespace Go.Proofs.Y
open Go.Rb Go.Kx
theorem zjk (d : List UInt8 × List UInt8) (h1 : d.1.length < 4611686018427387904) (h2 : d.2.length < 4611686018427387904) : yz (bytB d.1, bytB d.2) = some (ZE d) := by
 unfold yz ZE
 simp only [z5o]
 rw [zx, zx, zb, zb, ZU, ZU]
 by_cases c1 : 60000 < d.1.length
 ·rw [if_pos (by omega), if_pos c1]
 ·rw [if_neg (by omega), if_neg c1, Zz ⟨by omega, by omega⟩]
  by_cases c2 : 60000 - d.1.length < d.2.length
  ·rw [if_pos (by omega), if_pos c2]
  ·rw [if_neg (by omega), if_neg c2, z7w _ _ (by omega) (by omega), z7]
theorem zaj {d : List UInt8 × List UInt8} (h : ZE d = 0) : y6 (bytB d.1, bytB d.2) = some (bD (zy d).1, (zy d).2.1) := by
 have hlen := vv h
 have hb := z2A h
 have e : zy d = ((d.1 ++ d.2.take (JC d).2.1.toNat, []), (lnP 60 d.1).1 ++ (JC d).1, 0) := by unfold zy; rw [if_pos h]
 have n1 := zje d.1
 have hm := zp1 (60 - ((lnP 60 d.1).1.length : Int)) d.2
 have h60 := hb.2.1
 rw [e] at h60
 simp only [List.length_append] at h60
 unfold y6
 simp only [z5o]
 rw [z7w _ _ (by omega) (by omega), z7, zb, Zz ⟨by omega, by omega⟩, z7w _ _ (by omega) (by omega), z7, zD, if_pos ⟨hm.1, by rw [ZU]; exact hm.2⟩, zS, za7, z5W _ _ (by rw [List.length_take]; omega), z7]
 unfold JC at e h60
 rw [zjY _ _ h60, z7, e]
 rfl
theorem zpT (rd : List Int) (n : Int) (up : Bool) (hl : rd.length < 4611686018427387904) :
  zk maxR (fun (x : Int) => ifB (ltI x (lenI rd)) (z6 (atI rd x) fun (y : Int) => z6 (zj y (-1) n) fun (t : Bool) => ifB (notB t) (mapO Sum.inr (some 3)) (ifB (geI y 0) (ifB (notB up) (mapO Sum.inr (some 3)) (some (Sum.inl (wadd IntKind.i64 x 1)))) (some (Sum.inl (wadd IntKind.i64 x 1))))) (mapO Sum.inr (some 0))) 0 = some (rdE n up rd) := by
 refine zR rd (fun j (_ : Unit) => (j : Int)) (G := fun rest _ => some (rdE n up rest)) (P := fun _ _ => True) (s0 := ()) ?_ ?_ trivial (by omega)
 ·rintro j _ hj _ k hk
  have hat := zK hj
  generalize rd.getD j default = v at *
  rw [za, zh, zb, if_pos (by omega), hat, z7, Jz, z7, za, zB, zL, rdE]
  by_cases c1 : -1 ≤ v ∧ v ≤ n
  ·rw [if_pos c1, za, zT]
   by_cases c2 : 0 ≤ v
   ·rw [if_pos c2, za, zB]
    cases up with
    | true =>
     rw [Zi, if_neg (by rintro (h | h | h); omega; omega; cases h.1), zq, zF (by omega)]
     exact hk () trivial
    | false => rw [Zv, if_pos (.inr (.inr ⟨rfl, by omega⟩))]; rfl
   ·rw [if_neg c2, if_neg (by rintro (h | h | h); omega; omega; exact h.2 (by omega)), zq, zF (by omega)]
    exact hk () trivial
  ·rw [if_neg c1, if_pos (by by_cases h : v < -1; exact .inl h; exact .inr (.inl (by omega)))]; rfl
 ·rintro _ _ k
  rw [za, zd, zh, zb, if_neg (by omega)]; rfl
theorem zgB (w : Wd) (h1 : w.2.1.1.length < 4611686018427387904) (h2 : w.2.1.2.length < 4611686018427387904) (hrd : w.2.2.2.length < 4611686018427387904) : ym (wvd w) = some (okc w) := by
 obtain ⟨s, d, up, rd⟩ := w
 simp only at h1 h2 hrd
 unfold ym
 simp only [wvd, wv]
 rw [zjk d h1 h2, z7, zi]
 show _ = some (chkW s d up rd)
 unfold chkW
 by_cases hc : ZE d = 0
 ·obtain ⟨b1, b2, b3⟩ := z2A hc
  have b0 : (zy d).2.2 = 0 := by rw [b1]
  have tailL : ∀ l : List Rc, l.length < 4611686018427387904 → (∀ r ∈ l, r.2.2.2.length < 4611686018427387904) → (z6 (ZK l) fun (y_1 : Shf × Int) =>
    ifB (neI (Prod.snd y_1) 0) (some (Prod.snd y_1)) (z6 (ZR (Prod.fst y_1) s) fun (y_2 : Bool) => ifB (notB y_2) (some 4) (ifB (neI (lenI rd) 3) (some 4)
     (zk maxR (fun (x : Int) => ifB (ltI x (lenI rd)) (z6 (atI rd x) fun (y : Int) => z6 (zj y (-1) (lenI l)) fun (t : Bool) => ifB (notB t) (mapO Sum.inr (some 3)) (ifB (geI y 0) (ifB (notB up) (mapO Sum.inr (some 3)) (some (Sum.inl (wadd IntKind.i64 x 1)))) (some (Sum.inl (wadd IntKind.i64 x 1))))) (mapO Sum.inr (some 0))) 0)))) = some (chkL s l up rd) := by
   intro l hl he
   unfold chkL
   rw [zdu l hl he, z7, zi, zpT rd (lenI l) up hrd]
   by_cases c : (Zg l).2 = 0
   ·rw [if_pos c, if_pos c, ziy _ _ (z5S l), z7, zB, zL, zi, zb, zb]
    by_cases c2 : (Zg l).1 = s
    ·rw [if_pos c2, if_pos c2]
     by_cases c3 : rd.length = 3
     ·rw [if_pos (by omega), if_pos c3]
     ·rw [if_neg (by omega), if_neg c3]
    ·rw [if_neg c2, if_neg c2]
   ·rw [if_neg c, if_neg c]
  have t1 := tailL (zy d).2.1 (by omega) fun r hr => z22 (b3 r hr)
  have t0 := tailL [] (by decide) (by simp)
  simp only [show lenI ([] : List Rc) = 0 from rfl] at t0
  rw [if_pos hc, if_pos b0, zaj hc]
  cases up with
  | true =>
   rw [Zi, if_pos rfl, zx, zb, ZU]
   by_cases c : 0 < d.2.length
   ·rw [if_pos (by omega), if_pos c]
   ·rw [if_neg (by omega), if_neg c, z7]
    exact t1
  | false =>
   rw [Zv, if_neg (by decide)]
   exact t0
 ·have b0 : (zy d).2.2 = ZE d := by unfold zy; rw [if_neg hc]
  rw [if_neg hc, if_neg (by rw [b0]; exact hc), b0]
theorem zjl {s : Shf} {i : Int} (h : chkS s = 0) (hi : i < 0 ∨ 3 < i) : allS s i = ([], 5) := by
 have h4 := (chkS_zero.1 h).1
 unfold allS
 rw [if_pos h, if_pos (by omega)]
theorem zpU {s : Shf} {i : Int} (h : chkS s = 0) (i0 : 0 ≤ i) (i1 : i ≤ 3) : ∃ r : Rowd, atI s i = some r ∧ Zh (Prod.fst r, Prod.snd r) = some ((allS s i).1, 0) ∧ (allS s i).2 = 0 := by
 have h4 := (chkS_zero.1 h).1
 have hr := z1A h (i := i.toNat) (by omega)
 have ha := zpE h i0 (by omega)
 refine ⟨s.getD i.toNat default, zkD i0 (by omega), ?_, ha⟩
 have e : allS s i = allR (s.getD i.toNat default) := by unfold allS; rw [if_pos h, if_neg (by omega)]
 have := z9F (s.getD i.toNat default) (ZY hr)
 refine this.trans ?_
 unfold z5h
 rw [if_pos hr, e]
 exact congrArg some (Prod.ext rfl hr)
end Go.Proofs.Y
namespace Go.Proofs.Y
open Go.Rb Go.Kx
noncomputable def jW : Code := zl Tryz.f14
noncomputable def jX : FuncId → Option GS := tabG [(42, JI), (43, z7u), (18, jd), (39, z27), (55, vj), (56, vS), (57, vg), (44, z7g)]
theorem z4E : ΓOK Tryz.prog jX := z8 (z1a) (z8 (z8c) (z8 (z29) (z8 (z6N) (z8 (Vi) (z8 (VS) (z8 (Ve) (z8 (z5L) (zg))))))))
def jY : HT := ⟨tabL [], tabH []⟩
abbrev v8 : List IT := [.v (.cons (.sl 95 (.cons (.sl 126 (.cons (.int .i64) (.cons (.int .i64) (.cons (.int .i64) (.one (.sl 4 (.one .bool))))))) (.one (.sl 73 (.cons (.int .i64) (.one (.int .i64))))))) (.cons (.sl 5 (.one (.int .u8))) (.cons (.sl 5 (.one (.int .u8))) (.cons (.bool) (.one (.sl 3 (.one (.int .i64)))))))) true, .v (.one (.int .i64)) false, .v (.one (.int .i64)) false]
abbrev je : List OT := [⟨.one .bool, false, []⟩]
set_option maxRecDepth 100000
noncomputable def yA : List (List (Int × Int × Int × List Bool) × List (Int × Int)) × List Int × List Int × Bool × List Int → Int → Int → Option Bool := fun a b c => z6 (Yh (a.1, a.2.1, a.2.2.1, a.2.2.2.1, a.2.2.2.2)) fun y => z6 (vw (a.1, a.2.1, a.2.2.1, a.2.2.2.1, a.2.2.2.2) b c) fun y_1 => z6 (ym (a.1, a.2.1, a.2.2.1, a.2.2.2.1, a.2.2.2.2)) fun y_2 => z6 yk fun y_3 => ifB (notB y_3) (z6 yk fun y_4 => ifB y_4 (ifB (eqI y.2 y_2) (ifB (eqI y_1.2 y_2) (ifB (eqI y.1 0) (some (eqI (lenI y_1.1) 0)) (some false)) (some false)) (some false)) (some false)) (ifB (neI y_2 0) (z6 yk fun y_4 => ifB y_4 (ifB (eqI y.2 y_2) (ifB (eqI y_1.2 y_2) (ifB (eqI y.1 0) (some (eqI (lenI y_1.1) 0)) (some false)) (some false)) (some false)) (some false)) (z6 (y6 (a.2.1, a.2.2.1)) fun y_4 => ifB (neI y.2 0) (some false) (ifB (neI y.1 (lenI y_4.2)) (some false) (ifB (ltI b 0) (ifB (eqI y_1.2 7) (some (eqI (lenI y_1.1) 0)) (some false)) (ifB (gtI b (lenI y_4.2)) (ifB (eqI y_1.2 7) (some (eqI (lenI y_1.1) 0)) (some false)) (ifB (in1 y_4.2 b) (z6 (ZK (vc y_4.2 b)) fun y => ifB (eqI y.2 0) (ifB (ltI c 0) (ifB (eqI y_1.2 5) (some (eqI (lenI y_1.1) 0)) (some false)) (ifB (gtI c 3) (ifB (eqI y_1.2 5) (some (eqI (lenI y_1.1) 0)) (some false)) (ifB (neI y.2 0) (ifB (eqI y_1.2 y.2) (some (eqI (lenI y_1.1) 0)) (some false)) (z6 (atI y.1 c) fun y => z6 (Zh (y.1, y.2)) fun y => ifB (eqI y_1.2 0) (z6 (JG y_1.1 y.1) fun y => some y) (some false))))) (ifB (neI y.2 0) (ifB (eqI y_1.2 y.2) (some (eqI (lenI y_1.1) 0)) (some false)) (z6 (atI y.1 c) fun y => z6 (Zh (y.1, y.2)) fun y => ifB (eqI y_1.2 0) (z6 (JG y_1.1 y.1) fun y => some y) (some false)))) none))))))
theorem z2E (x : PI v8) : yA (x.1) (x.2.1) (x.2.2) = fnE T jX jY jW (zu Tryz.f14) v8 je x := by kernel_rfl
noncomputable abbrev z4F : GS := zt false v8 je fun x => yA (x.1) (x.2.1) (x.2.2)
theorem z2F : GSOK Tryz.prog 14 z4F := zm tok z4E fmo (Ht := jY) (fn := Tryz.f14) (Tryz.func14) (c := jW) (by kernel_rfl) (by kernel_rfl) (by kernel_rfl) (by decide +kernel) (by decide) z2E
end Go.Proofs.Y
namespace Go.Proofs.Y
open Go.Rb Go.Kx
theorem zjm (w : Wd) (b c : Int) (h1 : w.2.1.1.length < 4611686018427387904) (h2 : w.2.1.2.length < 4611686018427387904) (hrd : w.2.2.2.length < 4611686018427387904) : yA (wvd w) b c = some true := by
 unfold yA
 refine (Y9 (zbL w h1 h2 hrd) _).trans ?_
 refine (Y9 (ze5 w b c h1 h2 hrd) _).trans ?_
 refine (Y9 (zgB w h1 h2 hrd) _).trans ?_
 refine (Y9 zkV _).trans ?_
 rw [zB, Zi, zi]
 unfold verP atP
 by_cases hc : okc w = 0
 ·obtain ⟨_, o4, _⟩ := z5u hc
  have hd := (z2z o4).1
  obtain ⟨_, r60, hrec⟩ := z2A hd
  rw [if_pos hc, if_pos hc, if_pos hc]
  refine (Y9 (zaj hd) _).trans ?_
  simp only
  rw [zi, if_pos rfl, zi, zb, if_pos rfl, zh, zx]
  by_cases c1 : b < 0
  ·rw [if_pos c1, if_pos (.inl c1), zf, if_pos rfl]; rfl
  rw [if_neg c1]
  by_cases c2 : ((zy w.2.1).2.1.length : Int) < b
  ·rw [if_pos c2, if_pos (.inr c2), zf, if_pos rfl]; rfl
  rw [if_neg c2, if_neg (by rintro (h | h); exact c1 h; exact c2 h), zD, if_pos ⟨by omega, by omega⟩, zS, zdu _ (by rw [List.length_take]; omega) (fun r hr => z22 (hrec r (List.mem_of_mem_take hr))), z7, zf]
  by_cases c3 : (Zg ((zy w.2.1).2.1.take b.toNat)).2 = 0
  ·have hcs := (z1N c3).2.1
   rw [if_pos c3, if_pos c3]
   generalize Zg ((zy w.2.1).2.1.take b.toNat) = q at *
   rw [zh, zx]
   by_cases c4 : c < 0
   ·rw [if_pos c4, zjl hcs (.inl c4)]; rfl
   rw [if_neg c4]
   by_cases c5 : 3 < c
   ·rw [if_pos c5, zjl hcs (.inr c5)]; rfl
   obtain ⟨r, e1, e2, e3⟩ := zpU hcs (i := c) (by omega) (by omega)
   have hl := zol e3
   rw [if_neg c5, zi, if_pos c3, e1, z7, e2, z7, zf, if_pos e3, z9D (by omega), z7, decide_eq_true rfl]
  ·rw [if_neg c3, if_neg c3, zi, if_neg c3, zf, if_pos rfl]; rfl
 ·rw [if_neg hc, if_neg hc, if_neg hc]
  refine (Y9 zkV _).trans ?_
  rw [Zi, zf, if_pos rfl, zf, if_pos rfl]; rfl
end Go.Proofs.Y
namespace Go.Proofs.Y
open Go.Rb Go.Kx
theorem zjn : reachBytes = 140737488351232 := by decide +kernel
end Go.Proofs.Y
namespace Go.Proofs.Y
open Go.Rb Go.Kx
theorem by5 : Tryz.prog.bytesOf 5 = 1 := by kernel_rfl
theorem by3 : Tryz.prog.bytesOf 3 = 8 := by kernel_rfl
abbrev wPtR : RT := .cons (.int .i64) (.one (.int .i64))
abbrev wBkR : RT := .cons (.int .i64) (.cons (.int .i64) (.cons (.int .i64) (.one (.sl 4 (.one .bool)))))
abbrev zr6 : RT := .cons (.sl 126 wBkR) (.one (.sl 73 wPtR))
abbrev znv : RT := .cons (.sl 95 zr6) (.cons (.sl 5 (.one (.int .u8))) (.cons (.sl 5 (.one (.int .u8))) (.cons .bool (.one (.sl 3 (.one (.int .i64)))))))
theorem znw {n : Int} (h : (Lit.int .u8 n).wf = true) : ((UInt8.ofNat n.toNat).toNat : Int) = n := by
 have e1 : IntKind.u8.min = 0 := rfl
 have e2 : IntKind.u8.max = 255 := rfl
 simp [Lit.wf, e1, e2] at h
 rw [UInt8.toNat_ofNat']; omega
theorem zak : ∀ {l : List Int}, (∀ n ∈ l, (Lit.int .u8 n).wf = true) → bytB (strB l) = l
 | [], _ => rfl
 | n :: l, h => by
  have ih := zak fun m hm => h m (List.mem_cons_of_mem n hm)
  have h0 := znw (h n (by simp))
  unfold bytB strB at ih ⊢
  rw [List.map_cons, List.map_cons, ih, h0]
theorem zjo (l : List Int) : (strB l).length = l.length := by unfold strB; rw [List.length_map]
theorem znx (s : Shf) (a b : List Int) (up : Bool) (rd : List Int) (h1 : a.length ≤ 140737488351232) (h1' : ∀ n ∈ a, (Lit.int .u8 n).wf = true) (h2 : b.length ≤ 140737488351232) (h2' : ∀ n ∈ b, (Lit.int .u8 n).wf = true) (h3 : rd.length * 8 ≤ 140737488351232) :
  ∃ w : Wd, ((s, a, b, up, rd) : Wv) = wvd w ∧ w.2.1.1.length < 4611686018427387904 ∧ w.2.1.2.length < 4611686018427387904 ∧ w.2.2.2.length < 4611686018427387904 := by
 have ea := zak h1'
 have eb := zak h2'
 have la := zjo a
 have lb := zjo b
 refine ⟨(s, (strB a, strB b), up, rd), ?_, ?_, ?_, ?_⟩
 ·show (s, a, b, up, rd) = (s, bytB (strB a), bytB (strB b), up, rd)
  rw [ea, eb]
 ·show (strB a).length < _
  omega
 ·show (strB b).length < _
  omega
 ·show rd.length < _
  omega
theorem zoL (x : DenR znv) (h : BdR Tryz.prog znv x) : ∃ w : Wd, (show Wv from x) = wvd w ∧ w.2.1.1.length < 4611686018427387904 ∧ w.2.1.2.length < 4611686018427387904 ∧ w.2.2.2.length < 4611686018427387904 := by
 obtain ⟨_, ⟨h1, h1'⟩, ⟨h2, h2'⟩, _, h3, _⟩ := h
 rw [by5, zjn, Nat.mul_one] at h1 h2
 rw [by3, zjn] at h3
 exact znx x.1 x.2.1 x.2.2.1 x.2.2.2.1 x.2.2.2.2 h1 (fun n hn => h1' n hn) h2 (fun n hn => h2' n hn) h3
end Go.Proofs.Y
namespace Go.Proofs.YtnkegapccacndaaGreatDoor
open Go.Rb Go.Kx Go.RowKit
abbrev laidL : List (String × DataW Unit) := Rows.storePartsRow.laid
theorem zny (u : TypeId) (h : Tryz.prog.typeName? 3 u = some "*errors.errorString") : u = 249 :=
 typeName_ptr_named (nm := "errors.errorString") (by kernel_rfl) (by kernel_rfl) (by decide) u h
theorem zjp : Tryz.prog.cellsOf 251 = 1 := by kernel_rfl
theorem znz : Tryz.prog.cellsOf 9 = 1 := by kernel_rfl
theorem zpV {W : World} (h : laidMetH Tryz.prog laidL W) (hsh : W.ShapedOpen Tryz.prog) : Glob Tryz.prog W ∧ NG Tryz.prog ≤ W.heap.size := by
 rw [MakeChecks.laidMetH_plain _ _ _ (by kernel_rfl)] at h
 have h3 : laidMet Tryz.prog (("internal/strconv.uint64pow10", Lib.tabData .u64 Lib.pow10Tab) :: laidL.drop 3) W := h.tail.tail
 have h5 := h.tail.tail.tail.tail
 have h6 := h5.tail
 refine ⟨⟨?_, ?_, ?_, ?_⟩, zqJ hsh (by kernel_rfl) (by kernel_rfl)⟩
 ·exact Lib.tabIs_of_head (g := 1) (t := 238) (e := 202) (n := 20) (by kernel_rfl) (by kernel_rfl) Tryz.underlying238 Tryz.underlying202 (by kernel_rfl) (by kernel_rfl) h3
 ·obtain ⟨a, s, hv, _⟩ := laid_sentinel (g := 2) (ti := 183) h6 (by kernel_rfl) (by kernel_rfl) Tryz.underlying183 zny Tryz.underlying249 Tryz.underlying251 rfl rfl Tryz.underlying9 zjp znz
  exact ⟨_, _, hv⟩
 ·obtain ⟨a, s, hv, _⟩ := laid_sentinel (g := 3) (ti := 183) h5 (by kernel_rfl) (by kernel_rfl) Tryz.underlying183 zny Tryz.underlying249 Tryz.underlying251 rfl rfl Tryz.underlying9 zjp znz
  exact ⟨_, _, hv⟩
 ·exact zo0 (g := 0) (t := 3) (zero := #[.int .i64 0]) hsh (by kernel_rfl) (by kernel_rfl) (by kernel_rfl) (by kernel_rfl) (by kernel_rfl) Tryz.underlying3
theorem own : ownKnob Tryz.prog.godebug = none := by kernel_rfl
theorem znA (os : Os) : (World.holding Tryz.prog os ⟨#[], #[], []⟩).layFits Tryz.prog laidL [] = true := by kernel_rfl
theorem zk9 (os : Os) : (World.holding Tryz.prog os ⟨#[], #[], []⟩).layIfaces Tryz.prog laidL (World.laidAll Tryz.prog os laidL) = true := by kernel_rfl
theorem zoM (os : Os) (args : Array Value) : laidMetH Tryz.prog laidL ((World.laidAll Tryz.prog os laidL).forCall (fun _ _ => 0) ⟨#[], args, []⟩).memory := by
 rw [MakeChecks.laidMetH_plain _ _ _ (by kernel_rfl)]
 exact laidMet_laidAll _ (znA os) (zk9 os)
end Go.Proofs.YtnkegapccacndaaGreatDoor
