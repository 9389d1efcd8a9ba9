/-
  What is proved, part by part: what note.Parse comes to. what disk.lines comes to. what disk.Check comes to. what disk.Crash comes to. what note.Print comes to. what disk.Put comes to. what disk.Recover comes to. what slices.Equal[[]byte,byte] comes to. what disk.Same comes to. what disk.Sync comes to. texts as words between one and the same byte; numerals read back. a record as a text, and read back, as plain functions; the one undoes the other. a disk's text as lines of records, as plain functions; whole lines are read back, a torn one is left. records checked, printed, read back by the program: what its functions come to, in plain words. a text read by the program, and the law of notes: what its functions come to, in plain words. disks: what the program's functions come to, in plain words. what a disk keeps: the law's function is always true, in plain words. what world.Check comes to. what shelf.Copy comes to. what slices.Clone[[]int,int] comes to. what world.Copy comes to. what math/bits.Mul32 comes to. what math/bits.Mul64 comes to. what math/bits.Mul comes to. what slices.Repeat[[]int,int] comes to. what world.closed comes to. what world.New comes to. worlds: checked and copied: what the program's functions come to, in plain words. what world.write comes to. what world.happen comes to. what world.Do comes to. Conditions: none.
-/
import Derived.Test.YtnkegapccacndaaGreatDoorKPA
import Derived.Test.YtnkegapccacndaaGreatDoorKPC
import Derived.Test.YtnkegapccacndaaGreatDoorKPB
import Derived.Lib.CountLaws
import Derived.Lib.AtoiAllCases
import Derived.Lib.ParseIntBTie
import Derived.Lib.ItoaMem
import Derived.Lib.ItoaLen
import Derived.Lib.Split
import Derived.Lib.IndexBytes
set_option linter.unusedVariables false
set_option linter.unusedSimpArgs false
set_option linter.unnecessarySimpa false
set_option maxRecDepth 4000
namespace Go.Proofs.Y
open Go.Rb Go.Kx
noncomputable def zco : Code := zj Tryz.f123
noncomputable def zcp : FuncId → Option GS := tabG [(150, zot), (119, z65), (151, zm4), (152, zr0), (120, zgA), (79, z1P)]
theorem zm5 : ΓOK Tryz.prog zcp := z8 (zpy) (z8 (z7q) (z8 (znt) (z8 (zr1) (z8 (zcn) (z8 (z1Q) (zf))))))
def zcq : HT := ⟨tabL [(7, .it [] (dyn [.a 6 3 (.one (.int .i64)), .t 28 (.int .i64), .c 2 0 (.int .i64), .c 2 1 (.int .i64), .c 2 2 (.int .i64), .c 2 3 (.sl 77 (.cons (.int .i64) (.cons (.int .i64) (.one (.int .i64)))))])), (17, .it [] (dyn [.t 11 (.int .i64), .b 5 3 77 (.cons (.int .i64) (.cons (.int .i64) (.one (.int .i64))))]))], tabH []⟩
abbrev z4e : List IT := [.v (.one .str) false]
abbrev zax : List OT := [⟨.cons (.int .i64) (.cons (.int .i64) (.cons (.int .i64) (.one (.sl 77 (.cons (.int .i64) (.cons (.int .i64) (.one (.int .i64)))))))), true, []⟩, ⟨.one (.int .i64), false, []⟩]
set_option maxRecDepth 100000
noncomputable def Vr : List UInt8 → Option ((Int × Int × Int × List (Int × Int × Int)) × Int) := fun a => ifB (gtI (lenI a) 60000) (some ((0, 0, 0, []), 2)) (z6 (z5k a [32]) fun y => z6 vx fun y_1 => z6 (atI y 0) fun y_2 => z6 (z66 y_1 y_2) fun y_3 => ifB (in1 y 1) (zi maxR (fun (x : Int × Int × Int × Int × List (Int × Int × Int) × List Int) => ifB (ltI x.1 (lenI (yB y 1))) (z6 (atI (yB y 1) x.1) fun y => z6 (z9a y) fun y_4 => ifB y_4.2 (mapO Sum.inr (some ((0, 0, 0, []), 1))) (z6 (Yl y_4.1) fun y_5 => ifB (notB (eqS y_5 y)) (mapO Sum.inr (some ((0, 0, 0, []), 1))) (ifB (zg 8 x.2.2.2.2.2 [y_4.1]) (some (Sum.inl (wadd .i64 x.1 1, x.2.1, x.2.2.1, x.2.2.2.1, x.2.2.2.2.1, cat x.2.2.2.2.2 [y_4.1]))) none))) (mapO Sum.inr (ifB (eqI y_3 1) (ifB (eqI (wrem (lenI x.2.2.2.2.2) 3) 0) (zi maxR (fun (x_1 : Int × List (Int × Int × Int)) => ifB (ltI x_1.1 (lenI x.2.2.2.2.2)) (ifB (ltL x_1.1 x.2.2.2.2.2) (z6 (atN x.2.2.2.2.2 (natI x_1.1)) fun y => ifB (ltL (wadd .i64 x_1.1 1) x.2.2.2.2.2) (z6 (atN x.2.2.2.2.2 (natI (wadd .i64 x_1.1 1))) fun y_4 => ifB (ltL (wadd .i64 x_1.1 2) x.2.2.2.2.2) (z6 (atN x.2.2.2.2.2 (natI (wadd .i64 x_1.1 2))) fun y_5 => ifB (zg 24 x_1.2 [(y, y_4, y_5)]) (some (Sum.inl (wadd .i64 x_1.1 3, cat x_1.2 [(y, y_4, y_5)]))) none) none) none) none) (mapO Sum.inr (z6 (Zl (y_3, 0, 0, x_1.2)) fun y => ifB (neI y 0) (some ((0, 0, 0, []), y)) (some ((y_3, 0, 0, x_1.2), 0))))) (0, [])) (ifB (eqI y_3 2) (ifB (eqI (lenI x.2.2.2.2.2) 2) (ifB (ltL 0 x.2.2.2.2.2) (z6 (atN x.2.2.2.2.2 (natI 0)) fun y => ifB (ltL 1 x.2.2.2.2.2) (z6 (atN x.2.2.2.2.2 (natI 1)) fun y_4 => z6 (Zl (y_3, y, y_4, [])) fun y_5 => ifB (neI y_5 0) (some ((0, 0, 0, []), y_5)) (some ((y_3, y, y_4, []), 0))) none) none) (ifB (eqI y_3 4) (ifB (eqI (lenI x.2.2.2.2.2) 1) (ifB (ltL 0 x.2.2.2.2.2) (z6 (atN x.2.2.2.2.2 (natI 0)) fun y => z6 (Zl (y_3, 0, y, [])) fun y_4 => ifB (neI y_4 0) (some ((0, 0, 0, []), y_4)) (some ((y_3, 0, y, []), 0))) none) (some ((0, 0, 0, []), 1))) (some ((0, 0, 0, []), 1)))) (ifB (eqI y_3 3) (ifB (eqI (lenI x.2.2.2.2.2) 2) (ifB (ltL 0 x.2.2.2.2.2) (z6 (atN x.2.2.2.2.2 (natI 0)) fun y => ifB (ltL 1 x.2.2.2.2.2) (z6 (atN x.2.2.2.2.2 (natI 1)) fun y_4 => z6 (Zl (y_3, y, y_4, [])) fun y_5 => ifB (neI y_5 0) (some ((0, 0, 0, []), y_5)) (some ((y_3, y, y_4, []), 0))) none) none) (ifB (eqI y_3 4) (ifB (eqI (lenI x.2.2.2.2.2) 1) (ifB (ltL 0 x.2.2.2.2.2) (z6 (atN x.2.2.2.2.2 (natI 0)) fun y => z6 (Zl (y_3, 0, y, [])) fun y_4 => ifB (neI y_4 0) (some ((0, 0, 0, []), y_4)) (some ((y_3, 0, y, []), 0))) none) (some ((0, 0, 0, []), 1))) (some ((0, 0, 0, []), 1)))) (ifB (eqI y_3 4) (ifB (eqI (lenI x.2.2.2.2.2) 1) (ifB (ltL 0 x.2.2.2.2.2) (z6 (atN x.2.2.2.2.2 (natI 0)) fun y => z6 (Zl (y_3, 0, y, [])) fun y_4 => ifB (neI y_4 0) (some ((0, 0, 0, []), y_4)) (some ((y_3, 0, y, []), 0))) none) (some ((0, 0, 0, []), 1))) (some ((0, 0, 0, []), 1)))))) (ifB (eqI y_3 2) (ifB (eqI (lenI x.2.2.2.2.2) 2) (ifB (ltL 0 x.2.2.2.2.2) (z6 (atN x.2.2.2.2.2 (natI 0)) fun y => ifB (ltL 1 x.2.2.2.2.2) (z6 (atN x.2.2.2.2.2 (natI 1)) fun y_4 => z6 (Zl (y_3, y, y_4, [])) fun y_5 => ifB (neI y_5 0) (some ((0, 0, 0, []), y_5)) (some ((y_3, y, y_4, []), 0))) none) none) (ifB (eqI y_3 4) (ifB (eqI (lenI x.2.2.2.2.2) 1) (ifB (ltL 0 x.2.2.2.2.2) (z6 (atN x.2.2.2.2.2 (natI 0)) fun y => z6 (Zl (y_3, 0, y, [])) fun y_4 => ifB (neI y_4 0) (some ((0, 0, 0, []), y_4)) (some ((y_3, 0, y, []), 0))) none) (some ((0, 0, 0, []), 1))) (some ((0, 0, 0, []), 1)))) (ifB (eqI y_3 3) (ifB (eqI (lenI x.2.2.2.2.2) 2) (ifB (ltL 0 x.2.2.2.2.2) (z6 (atN x.2.2.2.2.2 (natI 0)) fun y => ifB (ltL 1 x.2.2.2.2.2) (z6 (atN x.2.2.2.2.2 (natI 1)) fun y_4 => z6 (Zl (y_3, y, y_4, [])) fun y_5 => ifB (neI y_5 0) (some ((0, 0, 0, []), y_5)) (some ((y_3, y, y_4, []), 0))) none) none) (ifB (eqI y_3 4) (ifB (eqI (lenI x.2.2.2.2.2) 1) (ifB (ltL 0 x.2.2.2.2.2) (z6 (atN x.2.2.2.2.2 (natI 0)) fun y => z6 (Zl (y_3, 0, y, [])) fun y_4 => ifB (neI y_4 0) (some ((0, 0, 0, []), y_4)) (some ((y_3, 0, y, []), 0))) none) (some ((0, 0, 0, []), 1))) (some ((0, 0, 0, []), 1)))) (ifB (eqI y_3 4) (ifB (eqI (lenI x.2.2.2.2.2) 1) (ifB (ltL 0 x.2.2.2.2.2) (z6 (atN x.2.2.2.2.2 (natI 0)) fun y => z6 (Zl (y_3, 0, y, [])) fun y_4 => ifB (neI y_4 0) (some ((0, 0, 0, []), y_4)) (some ((y_3, 0, y, []), 0))) none) (some ((0, 0, 0, []), 1))) (some ((0, 0, 0, []), 1)))))))) (0, 0, 0, 0, [], [])) none)
theorem zgB (x : PI z4e) : Vr x = fnE T zcp zcq zco (zo Tryz.f123) z4e zax x := by kernel_rfl
noncomputable abbrev zcr : GS := zq false z4e zax fun x => Vr x
theorem zgC : GSOK Tryz.prog 123 zcr := zm tok zm5 fmo (Ht := zcq) (fn := Tryz.f123) (Tryz.func123) (c := zco) (by kernel_rfl) (by kernel_rfl) (by kernel_rfl) (by decide +kernel) (by decide) zgB
end Go.Proofs.Y
namespace Go.Proofs.Y
open Go.Rb Go.Kx
noncomputable def zcs : Code := zj Tryz.f88
noncomputable def zct : FuncId → Option GS := tabG [(122, zpx), (123, zcr)]
theorem zm6 : ΓOK Tryz.prog zct := z8 (zlZ) (z8 (zgC) (zf))
def zcu : HT := ⟨tabL [(3, .it [] (dyn [.t 0 (.str), .a 7 52 (.cons (.int .i64) (.cons (.int .i64) (.cons (.int .i64) (.one (.sl 77 (.cons (.int .i64) (.cons (.int .i64) (.one (.int .i64)))))))))]))], tabH []⟩
abbrev z4f : List IT := [.v (.one .str) false, .v (.one (.int .i64)) false]
abbrev zay : List OT := [⟨.one (.sl 52 (.cons (.int .i64) (.cons (.int .i64) (.cons (.int .i64) (.one (.sl 77 (.cons (.int .i64) (.cons (.int .i64) (.one (.int .i64)))))))))), false, [true]⟩, ⟨.one (.int .i64), false, []⟩, ⟨.one (.int .i64), false, []⟩]
set_option maxRecDepth 100000
noncomputable def vy : List UInt8 → Int → Option (List (Int × Int × Int × List (Int × Int × Int)) × Int × Int) := fun a b => zi maxR (fun (x : List UInt8 × List (Int × Int × Int × List (Int × Int × Int))) => ifB (notB (eqS x.1 [])) (z6 (cutO x.1 [10]) fun y => ifB (notB y.2.2) (mapO Sum.inr (some (x.2, wsub .i64 (lenI a) (lenI x.1), 8))) (z6 (Vr y.1) fun y_1 => ifB (neI y_1.2 0) (mapO Sum.inr (some (x.2, wsub .i64 (lenI a) (lenI x.1), y_1.2))) (ifB (eqI (lenI x.2) b) (mapO Sum.inr (some (x.2, wsub .i64 (lenI a) (lenI x.1), 2))) (ifB (zg 48 x.2 [(y_1.1.1, y_1.1.2.1, y_1.1.2.2.1, y_1.1.2.2.2)]) (some (Sum.inl (y.2.1, cat x.2 [(y_1.1.1, y_1.1.2.1, y_1.1.2.2.1, y_1.1.2.2.2)]))) none)))) (mapO Sum.inr (some (x.2, lenI a, 0)))) (a, [])
theorem zgD (x : PI z4f) : vy (x.1) (x.2) = fnE T zct zcu zcs (zo Tryz.f88) z4f zay x := by kernel_rfl
noncomputable abbrev z67 : GS := zq false z4f zay fun x => vy (x.1) (x.2)
theorem z7r : GSOK Tryz.prog 88 z67 := zm tok zm6 fmo (Ht := zcu) (fn := Tryz.f88) (Tryz.func88) (c := zcs) (by kernel_rfl) (by kernel_rfl) (by kernel_rfl) (by decide +kernel) (by decide) zgD
end Go.Proofs.Y
namespace Go.Proofs.Y
open Go.Rb Go.Kx
noncomputable def zcv : Code := zj Tryz.f84
noncomputable def zcw : FuncId → Option GS := tabG [(88, z67)]
theorem zm7 : ΓOK Tryz.prog zcw := z8 (z7r) (zf)
def zcx : HT := ⟨tabL [], tabH []⟩
abbrev z4g : List IT := [.v (.cons (.sl 5 (.one (.int .u8))) (.one (.sl 5 (.one (.int .u8))))) true]
abbrev zaz : List OT := [⟨.one (.int .i64), false, []⟩]
set_option maxRecDepth 100000
noncomputable def Y5 : List Int × List Int → Option Int := fun a => ifB (gtI (lenI a.1) 60000) (some 2) (ifB (gtI (lenI a.2) (wsub .i64 60000 (lenI a.1))) (some 2) (z6 (vy (strB a.1) 60) fun y => some y.2.2))
theorem zgE (x : PI z4g) : Y5 x = fnE T zcw zcx zcv (zo Tryz.f84) z4g zaz x := by kernel_rfl
noncomputable abbrev jY : GS := zq false z4g zaz fun x => Y5 x
theorem jo : GSOK Tryz.prog 84 jY := zm tok zm7 fmo (Ht := zcx) (fn := Tryz.f84) (Tryz.func84) (c := zcv) (by kernel_rfl) (by kernel_rfl) (by kernel_rfl) (by decide +kernel) (by decide) zgE
end Go.Proofs.Y
namespace Go.Proofs.Y
open Go.Rb Go.Kx
noncomputable def zcy : Code := zj Tryz.f141
noncomputable def zcz : FuncId → Option GS := tabG [(84, jY), (86, z7p)]
theorem zm8 : ΓOK Tryz.prog zcz := z8 (jo) (z8 (z64) (zf))
def zcA : HT := ⟨tabL [], tabH []⟩
abbrev z4h : List IT := [.v (.cons (.sl 5 (.one (.int .u8))) (.one (.sl 5 (.one (.int .u8))))) true, .v (.one (.int .i64)) false]
abbrev zaA : List OT := [⟨.cons (.sl 5 (.one (.int .u8))) (.one (.sl 5 (.one (.int .u8)))), true, []⟩, ⟨.one (.int .i64), false, []⟩]
set_option maxRecDepth 100000
noncomputable def vz : List Int × List Int → Int → Option ((List Int × List Int) × Int) := fun a b => z6 (Y5 (a.1, a.2)) fun y => ifB (neI y 0) (some (([], []), y)) (ifB (ltI b 0) (some (([], []), 3)) (ifB (gtI b (lenI a.2)) (some (([], []), 3)) (z6 (vp a.1) fun y => ifB (in1 a.2 b) (z6 (vp (YB a.2 b)) fun y_1 => some ((y, y_1), 0)) none)))
theorem zgF (x : PI z4h) : vz (x.1) (x.2) = fnE T zcz zcA zcy (zo Tryz.f141) z4h zaA x := by kernel_rfl
noncomputable abbrev zcB : GS := zq false z4h zaA fun x => vz (x.1) (x.2)
theorem zgG : GSOK Tryz.prog 141 zcB := zm tok zm8 fmo (Ht := zcA) (fn := Tryz.f141) (Tryz.func141) (c := zcy) (by kernel_rfl) (by kernel_rfl) (by kernel_rfl) (by decide +kernel) (by decide) zgF
end Go.Proofs.Y
namespace Go.Proofs.Y
open Go.Rb Go.Kx
noncomputable def zcC : Code := zj Tryz.f85
noncomputable def zcD : FuncId → Option GS := tabG [(79, z1P), (119, z65), (120, zgA)]
theorem zm9 : ΓOK Tryz.prog zcD := z8 (z1Q) (z8 (z7q) (z8 (zcn) (zf)))
def zcE : HT := ⟨tabL [(9, .it [] (dyn [.a 5 3 (.one (.int .i64)), .t 28 (.int .i64)])), (17, .it [] (dyn [.t 8 (.str), .t 53 (.int .i64)]))], tabH []⟩
abbrev z4i : List IT := [.v (.cons (.int .i64) (.cons (.int .i64) (.cons (.int .i64) (.one (.sl 77 (.cons (.int .i64) (.cons (.int .i64) (.one (.int .i64))))))))) true]
abbrev zaB : List OT := [⟨.one .str, false, []⟩, ⟨.one (.int .i64), false, []⟩]
set_option maxRecDepth 100000
noncomputable def Vs : Int × Int × Int × List (Int × Int × Int) → Option (List UInt8 × Int) := fun a => z6 (Zl (a.1, a.2.1, a.2.2.1, a.2.2.2)) fun y => ifB (neI y 0) (some ([], y)) (ifB (eqI a.1 1) (zi maxR (fun (x : Int × List Int) => ifB (ltI x.1 (lenI a.2.2.2)) (z6 (atI a.2.2.2 x.1) fun y => ifB (zg 8 x.2 [y.1, y.2.1, y.2.2]) (some (Sum.inl (wadd .i64 x.1 1, cat x.2 [y.1, y.2.1, y.2.2]))) none) (mapO Sum.inr (z6 vx fun y => z6 (atI y a.1) fun y => zi maxR (fun (x_1 : List UInt8 × Int) => ifB (ltI x_1.2 (lenI x.2)) (ifB (ltL x_1.2 x.2) (z6 (atN x.2 (natI x_1.2)) fun y => z6 (Yl y) fun y => ifB (Jb [32] y) (ifB (Jb x_1.1 (catS [32] y)) (some (Sum.inl (catS x_1.1 (catS [32] y), wadd .i64 x_1.2 1))) none) none) none) (mapO Sum.inr (some (x_1.1, 0)))) (y, 0)))) (0, [])) (ifB (eqI a.1 4) (ifB (in1 [a.2.1, a.2.2.1] 1) (z6 vx fun y => z6 (atI y a.1) fun y => zi maxR (fun (x : List UInt8 × Int) => ifB (ltI x.2 (intN (Zh (lenN [a.2.1, a.2.2.1]) 1))) (ifB (ltN x.2 (Zh (lenN [a.2.1, a.2.2.1]) 1)) (z6 (atN [a.2.1, a.2.2.1] (addN (addN 0 (natI 1)) (natI x.2))) fun y => z6 (Yl y) fun y => ifB (Jb [32] y) (ifB (Jb x.1 (catS [32] y)) (some (Sum.inl (catS x.1 (catS [32] y), wadd .i64 x.2 1))) none) none) none) (mapO Sum.inr (some (x.1, 0)))) (y, 0)) none) (z6 vx fun y => z6 (atI y a.1) fun y => zi maxR (fun (x : List UInt8 × Int) => ifB (ltI x.2 (lenI [a.2.1, a.2.2.1])) (ifB (ltL x.2 [a.2.1, a.2.2.1]) (z6 (atN [a.2.1, a.2.2.1] (natI x.2)) fun y => z6 (Yl y) fun y => ifB (Jb [32] y) (ifB (Jb x.1 (catS [32] y)) (some (Sum.inl (catS x.1 (catS [32] y), wadd .i64 x.2 1))) none) none) none) (mapO Sum.inr (some (x.1, 0)))) (y, 0))))
theorem zgH (x : PI z4i) : Vs x = fnE T zcD zcE zcC (zo Tryz.f85) z4i zaB x := by kernel_rfl
noncomputable abbrev zcF : GS := zq false z4i zaB fun x => Vs x
theorem zgI : GSOK Tryz.prog 85 zcF := zm tok zm9 fmo (Ht := zcE) (fn := Tryz.f85) (Tryz.func85) (c := zcC) (by kernel_rfl) (by kernel_rfl) (by kernel_rfl) (by decide +kernel) (by decide) zgH
end Go.Proofs.Y
namespace Go.Proofs.Y
open Go.Rb Go.Kx
noncomputable def zgJ : Code := zj Tryz.f32
noncomputable def zgK : FuncId → Option GS := tabG [(84, jY), (85, zcF), (86, z7p)]
theorem zpz : ΓOK Tryz.prog zgK := z8 (jo) (z8 (zgI) (z8 (z64) (zf)))
def zgL : HT := ⟨tabL [], tabH []⟩
abbrev z83 : List IT := [.v (.cons (.sl 5 (.one (.int .u8))) (.one (.sl 5 (.one (.int .u8))))) true, .v (.cons (.int .i64) (.cons (.int .i64) (.cons (.int .i64) (.one (.sl 77 (.cons (.int .i64) (.cons (.int .i64) (.one (.int .i64))))))))) true]
abbrev zeh : List OT := [⟨.cons (.sl 5 (.one (.int .u8))) (.one (.sl 5 (.one (.int .u8)))), true, []⟩, ⟨.one (.int .i64), false, []⟩]
set_option maxRecDepth 100000
noncomputable def vg : List Int × List Int → Int × Int × Int × List (Int × Int × Int) → Option ((List Int × List Int) × Int) := fun a b => z6 (Y5 (a.1, a.2)) fun y => ifB (neI y 0) (some (([], []), y)) (z6 (Vs (b.1, b.2.1, b.2.2.1, b.2.2.2)) fun y => ifB (neI y.2 0) (some (([], []), y.2)) (ifB (gtI (wadd .i64 (lenI y.1) 1) (wsub .i64 (wsub .i64 60000 (lenI a.1)) (lenI a.2))) (some (([], []), 2)) (z6 (vp a.1) fun y_1 => z6 (vp a.2) fun y_2 => ifB (zg 1 y_2 (bytB y.1)) (ifB (zg 1 (cat y_2 (bytB y.1)) [10]) (some ((y_1, cat (cat y_2 (bytB y.1)) [10]), 0)) none) none)))
theorem zjM (x : PI z83) : vg (x.1) (x.2) = fnE T zgK zgL zgJ (zo Tryz.f32) z83 zeh x := by kernel_rfl
noncomputable abbrev zgM : GS := zq false z83 zeh fun x => vg (x.1) (x.2)
theorem zjN : GSOK Tryz.prog 32 zgM := zm tok zpz fmo (Ht := zgL) (fn := Tryz.f32) (Tryz.func32) (c := zgJ) (by kernel_rfl) (by kernel_rfl) (by kernel_rfl) (by decide +kernel) (by decide) zjM
end Go.Proofs.Y
namespace Go.Proofs.Y
open Go.Rb Go.Kx
noncomputable def z8S : Code := zj Tryz.f34
noncomputable def z8T : FuncId → Option GS := tabG [(84, jY), (88, z67), (87, Jr)]
theorem zhE : ΓOK Tryz.prog z8T := z8 (jo) (z8 (z7r) (z8 (VT) (zf)))
def z8U : HT := ⟨tabL [], tabH []⟩
abbrev z2q : List IT := [.v (.cons (.sl 5 (.one (.int .u8))) (.one (.sl 5 (.one (.int .u8))))) true]
abbrev z7s : List OT := [⟨.cons (.sl 5 (.one (.int .u8))) (.one (.sl 5 (.one (.int .u8)))), true, []⟩, ⟨.one (.sl 52 (.cons (.int .i64) (.cons (.int .i64) (.cons (.int .i64) (.one (.sl 77 (.cons (.int .i64) (.cons (.int .i64) (.one (.int .i64)))))))))), false, []⟩, ⟨.one (.int .i64), false, []⟩]
set_option maxRecDepth 100000
noncomputable def ym : List Int × List Int → Option ((List Int × List Int) × List (Int × Int × Int × List (Int × Int × Int)) × Int) := fun a => z6 (Y5 (a.1, a.2)) fun y => ifB (neI y 0) (some (([], []), [], y)) (z6 (vy (strB a.1) 60) fun y => z6 (vy (strB a.2) (wsub .i64 60 (lenI y.1))) fun y_1 => ifB (in1 a.2 y_1.2.1) (z6 (YJ [a.1, YB a.2 y_1.2.1]) fun y_2 => ifB (zg 48 y.1 y_1.1) (some ((y_2, []), cat y.1 y_1.1, 0)) none) none)
theorem zds (x : PI z2q) : ym x = fnE T z8T z8U z8S (zo Tryz.f34) z2q z7s x := by kernel_rfl
noncomputable abbrev Js : GS := zq false z2q z7s fun x => ym x
theorem z09 : GSOK Tryz.prog 34 Js := zm tok zhE fmo (Ht := z8U) (fn := Tryz.f34) (Tryz.func34) (c := z8S) (by kernel_rfl) (by kernel_rfl) (by kernel_rfl) (by decide +kernel) (by decide) zds
end Go.Proofs.Y
namespace Go.Proofs.Y
open Go.Rb Go.Kx
noncomputable def ziS : Code := zj Tryz.f99
noncomputable def ziT : FuncId → Option GS := tabG []
theorem zr2 : ΓOK Tryz.prog ziT := zf
def ziU : HT := ⟨tabL [(4, .it [] (dyn [.t 13 (.int .i64)]))], tabH []⟩
abbrev z9G : List IT := [.v (.one (.sl 5 (.one (.int .u8)))) false, .v (.one (.sl 5 (.one (.int .u8)))) false]
abbrev zgN : List OT := [⟨.one .bool, false, []⟩]
set_option maxRecDepth 100000
noncomputable def Vw : List Int → List Int → Option Bool := fun a b => ifB (neI (lenI a) (lenI b)) (some false) (zi maxR (fun (x : Int) => ifB (ltI x (lenI a)) (z6 (atI a x) fun y => z6 (atI b x) fun y_1 => ifB (neI y y_1) (mapO Sum.inr (some false)) (some (Sum.inl (wadd .i64 x 1)))) (mapO Sum.inr (some true))) 0)
theorem zma (x : PI z9G) : Vw (x.1) (x.2) = fnE T ziT ziU ziS (zo Tryz.f99) z9G zgN x := by kernel_rfl
noncomputable abbrev ziV : GS := zq false z9G zgN fun x => Vw (x.1) (x.2)
theorem zmb : GSOK Tryz.prog 99 ziV := zm tok zr2 fmo (Ht := ziU) (fn := Tryz.f99) (Tryz.func99) (c := ziS) (by kernel_rfl) (by kernel_rfl) (by kernel_rfl) (by decide +kernel) (by decide) zma
end Go.Proofs.Y
namespace Go.Proofs.Y
open Go.Rb Go.Kx
set_option maxRecDepth 100000
noncomputable def zei : List Int × List Int → List Int × List Int → Option Bool := fun a b => z6 (Vw a.1 b.1) fun y => ifB y (z6 (Vw a.2 b.2) fun y => some y) (some false)
end Go.Proofs.Y
namespace Go.Proofs.Y
open Go.Rb Go.Kx
noncomputable def zej : Code := zj Tryz.f33
noncomputable def zek : FuncId → Option GS := tabG [(84, jY), (87, Jr)]
theorem znu : ΓOK Tryz.prog zek := z8 (jo) (z8 (VT) (zf))
def zel : HT := ⟨tabL [], tabH []⟩
abbrev z68 : List IT := [.v (.cons (.sl 5 (.one (.int .u8))) (.one (.sl 5 (.one (.int .u8))))) true]
abbrev zcG : List OT := [⟨.cons (.sl 5 (.one (.int .u8))) (.one (.sl 5 (.one (.int .u8)))), true, []⟩, ⟨.one (.int .i64), false, []⟩]
set_option maxRecDepth 100000
noncomputable def YK : List Int × List Int → Option ((List Int × List Int) × Int) := fun a => z6 (Y5 (a.1, a.2)) fun y => ifB (neI y 0) (some (([], []), y)) (z6 (YJ [a.1, a.2]) fun y => z6 (Y5 (y, [])) fun y_1 => ifB (neI y_1 0) (some (([], []), y_1)) (some ((y, []), 0)))
theorem zhF (x : PI z68) : YK x = fnE T zek zel zej (zo Tryz.f33) z68 zcG x := by kernel_rfl
noncomputable abbrev zem : GS := zq false z68 zcG fun x => YK x
theorem zhG : GSOK Tryz.prog 33 zem := zm tok znu fmo (Ht := zel) (fn := Tryz.f33) (Tryz.func33) (c := zej) (by kernel_rfl) (by kernel_rfl) (by kernel_rfl) (by decide +kernel) (by decide) zhF
end Go.Proofs.Y
namespace Go.Kx
open Go.Rb
def sp (c : UInt8) : List UInt8 → List (List UInt8)
 | [] => [[]]
 | b :: l => if b = c then [] :: sp c l else match sp c l with
  | [] => [[b]]
  | w :: r => (b :: w) :: r
def jn (c : UInt8) : List (List UInt8) → List UInt8
 | [] => []
 | w :: r => w ++ (r.map (c :: ·)).flatten
theorem jp (c : UInt8) : ∀ l, sp c l ≠ []
 | [] => by simp [sp]
 | b :: l => by
  unfold sp
  split
  ·simp
  ·split <;> simp
theorem z1m (c : UInt8) (w : List UInt8) {r : List (List UInt8)} (h : r ≠ []) : jn c (w :: r) = w ++ c :: jn c r := by
 cases r with
 | nil => exact absurd rfl h
 | cons x r => simp [jn]
theorem z7t (c : UInt8) : ∀ l, jn c (sp c l) = l
 | [] => rfl
 | b :: l => by
  have ih := z7t c l
  have hn := jp c l
  unfold sp
  split
  ·rename_i h; subst h
   rw [z1m _ _ hn, ih]; rfl
  ·split
   ·rename_i h1 h2; exact absurd h2 hn
   ·rename_i w r h2; rw [h2] at ih; simp only [jn] at ih ⊢; rw [List.cons_append, ih]
theorem zhH (c : UInt8) : ∀ w : List UInt8, (∀ x ∈ w, x ≠ c) → sp c w = [w]
 | [], _ => rfl
 | b :: l, h => by
  unfold sp
  rw [if_neg (h b (by simp)), zhH c l fun x hx => h x (by simp [hx])]
theorem z3O (c : UInt8) : ∀ (w l : List UInt8), (∀ x ∈ w, x ≠ c) → sp c (w ++ c :: l) = w :: sp c l
 | [], l, _ => by simp [sp]
 | b :: w, l, h => by
  have ih := z3O c w l fun x hx => h x (by simp [hx])
  show sp c (b :: (w ++ c :: l)) = _
  rw [sp, if_neg (h b (by simp)), ih]
theorem zt4 (c : UInt8) : ∀ ws : List (List UInt8), ws ≠ [] → (∀ w ∈ ws, ∀ x ∈ w, x ≠ c) → sp c (jn c ws) = ws
 | [], h, _ => absurd rfl h
 | [w], _, h => by simp only [jn, List.map_nil, List.flatten_nil, List.append_nil]; exact zhH c w (h w (by simp))
 | w :: v :: r, _, h => by
  rw [z1m _ _ (by simp), z3O c w _ (h w (by simp)), zt4 c (v :: r) (by simp) fun w hw => h w (by simp [hw])]
theorem z9H (c : UInt8) : ∀ l, ∀ w ∈ sp c l, ∀ x ∈ w, x ≠ c
 | [], w, hw, x, hx => by simp [sp] at hw; subst hw; cases hx
 | b :: l, w, hw, x, hx => by
  have ih := z9H c l
  have hn := jp c l
  unfold sp at hw
  split at hw
  ·rcases List.mem_cons.1 hw with rfl | hw
   ·cases hx
   ·exact ih w hw x hx
  ·rename_i hb
   split at hw
   ·rename_i h2; exact absurd h2 hn
   ·rename_i v r h2
    rw [h2] at ih
    rcases List.mem_cons.1 hw with rfl | hw
    ·rcases List.mem_cons.1 hx with rfl | hx
     ·exact hb
     ·exact ih v (by simp) x hx
    ·exact ih w (by simp [hw]) x hx
theorem zgO (c : UInt8) : ∀ l, (sp c l).length ≤ l.length + 1
 | [] => by simp [sp]
 | b :: l => by
  have ih := zgO c l
  have hn := jp c l
  unfold sp
  split
  ·simp; omega
  ·split
   ·rename_i h2; exact absurd h2 hn
   ·rename_i w r h2; rw [h2] at ih; simp at ih ⊢; omega
/-! ### Go's split -/
theorem z3f {c : UInt8} {l : List UInt8} (h : ∀ x ∈ l, x ≠ c) : Lib.index l [c] = -1 := by
 induction l with
 | nil => rfl
 | cons b l ih =>
  have ih := ih fun x hx => h x (by simp [hx])
  have hb := h b (by simp)
  have : [c].isPrefixOf (b :: l) = false := by simp [List.isPrefixOf]; exact fun e => hb e.symm
  unfold Lib.index
  rw [this, ih]; rfl
theorem z4j {c : UInt8} {w l : List UInt8} (h : ∀ x ∈ w, x ≠ c) : Lib.index (w ++ c :: l) [c] = w.length := by
 induction w with
 | nil => unfold Lib.index; simp [List.isPrefixOf]
 | cons b w ih =>
  have ih := ih fun x hx => h x (by simp [hx])
  have hb := h b (by simp)
  have : [c].isPrefixOf (b :: (w ++ c :: l)) = false := by simp [List.isPrefixOf]; exact fun e => hb e.symm
  rw [List.cons_append]
  unfold Lib.index
  rw [this, ih]
  have e : (((w.length : Nat) : Int) == -1) = false := by rw [beq_eq_false_iff_ne]; omega
  simp [e]
theorem znv (c : UInt8) : ∀ (l : List UInt8), Lib.split l [c] = sp c l := by
 have key : ∀ (ws : List (List UInt8)), ws ≠ [] → (∀ w ∈ ws, ∀ x ∈ w, x ≠ c) → Lib.split (jn c ws) [c] = ws := by
  intro ws
  induction ws with
  | nil => intro h; exact absurd rfl h
  | cons w r ih =>
   intro _ h
   by_cases hr : r = []
   ·subst hr
    simp only [jn, List.map_nil, List.flatten_nil, List.append_nil]
    unfold Lib.split
    rw [Lib.count_miss (z3f (h w (by simp)))]; rfl
   ·rw [z1m _ _ hr]
    have hi : Lib.index (w ++ c :: jn c r) [c] = w.length := z4j (h w (by simp))
    have hd : (w ++ c :: jn c r).drop (w.length + [c].length) = jn c r := by
     rw [List.drop_append]; simp
    have hr2 := ih hr fun w hw => h w (by simp [hw])
    unfold Lib.split at hr2 ⊢
    rw [Lib.count_hit (by simp) hi, hd, Nat.add_comm 1, Lib.splitK, if_neg (by rw [hi]; intro e; have := beq_iff_eq.1 e; omega), hi]
    have e : ((w.length : Nat) : Int).toNat = w.length := by omega
    rw [e, hd, hr2]
    congr 1
    rw [List.take_append]; simp
 intro l
 have h := key (sp c l) (jp c l) (z9H c l)
 rw [z7t] at h
 exact h
/-! ### Numerals -/
theorem z9I {n : Nat} (h : n < 10) : (UInt8.ofNat (48 + n)).toNat = 48 + n := by
 rw [UInt8.toNat_ofNat']; omega
theorem z2r (u : Nat) : ∀ b ∈ Lib.decDigits u, 48 ≤ b.toNat ∧ b.toNat ≤ 57 := by
 induction u using Nat.strongRecOn with
 | _ u ih =>
  intro b hb
  rw [Lib.decDigits] at hb
  split at hb
  ·rename_i h
   rw [List.mem_singleton] at hb; subst hb
   rw [z9I h]; omega
  ·rename_i h
   rcases List.mem_append.1 hb with hb | hb
   ·exact ih (u / 10) (by omega) b hb
   ·rw [List.mem_singleton] at hb; subst hb
    rw [z9I (by omega)]; omega
theorem zcH (u : Nat) : Lib.decDigits u ≠ [] := by
 rw [Lib.decDigits]; split <;> simp
theorem ziW (n : Int) : ∀ b ∈ Lib.itoa n, b.toNat = 45 ∨ (48 ≤ b.toNat ∧ b.toNat ≤ 57) := by
 intro b hb
 unfold Lib.itoa at hb
 split at hb
 ·rcases List.mem_cons.1 hb with rfl | hb
  ·exact .inl rfl
  ·exact .inr (z2r _ b hb)
 ·exact .inr (z2r _ b hb)
theorem zpA (n : Int) : ∀ b ∈ Lib.itoa n, b ≠ 32 := by
 intro b hb e
 subst e
 rcases ziW n _ hb with h | h
 ·revert h; decide
 ·revert h; decide
theorem ziX : ∀ (l r : List UInt8) (a u : Nat), Lib.parseUint10 a l = .ok u → Lib.parseUint10 a (l ++ r) = Lib.parseUint10 u r
 | [], r, a, u, h => by simp only [Lib.parseUint10] at h; cases h; rfl
 | c :: l, r, a, u, h => by
  rw [List.cons_append]
  simp only [Lib.parseUint10] at h ⊢
  split at h
  ·rename_i h1
   rw [if_pos h1]
   split at h
   ·cases h
   ·rename_i h2
    rw [if_neg h2]
    split at h
    ·cases h
    ·rename_i h3
     rw [if_neg h3]
     exact ziX l r _ u h
  ·cases h
theorem zmc (u : Nat) (hu : u < 18446744073709551616) : Lib.parseUint10 0 (Lib.decDigits u) = .ok u := by
 induction u using Nat.strongRecOn with
 | _ u ih =>
  rw [Lib.decDigits]
  split
  ·rename_i h
   simp only [Lib.parseUint10, z9I h]
   rw [if_pos (by omega), if_neg (by omega), if_neg (by omega)]
   congr 1; omega
  ·rename_i h
   rw [ziX _ _ _ _ (ih (u / 10) (by omega) (by omega))]
   simp only [Lib.parseUint10, z9I (show u % 10 < 10 by omega)]
   rw [if_pos (by omega), if_neg (by omega), if_neg (by omega)]
   congr 1; omega
theorem z7u (u : Nat) (hu : u < 18446744073709551616) : Lib.parseMag (Lib.decDigits u) = .ok u := by
 unfold Lib.parseMag
 rw [if_neg (zcH u), zmc u hu]
theorem zr3 (n : Int) (h0 : -9223372036854775808 ≤ n) (h1 : n ≤ 9223372036854775807) : Lib.atoiAll (Lib.itoa n) = .ok n := by
 unfold Lib.itoa
 split
 ·rename_i h
  rw [Lib.atoiAll_minus, z7u _ (by omega)]
  simp only [Lib.signed]
  rw [if_neg (by omega)]
  congr 1; omega
 ·rename_i h
  have hd := z2r n.toNat
  have hm := z7u n.toNat (by omega)
  have hne := zcH n.toNat
  cases hl : Lib.decDigits n.toNat with
  | nil => exact absurd hl hne
  | cons c r =>
   rw [hl] at hd hm
   have := hd c (by simp)
   rw [Lib.atoiAll_plain c r (by omega) (by omega), hm]
   simp only [Lib.signless]
   rw [if_neg (by omega)]
   congr 1; omega
end Go.Kx
namespace Go.Kx
open Go.Rb
def kindW : List (List UInt8) := [[], [98, 97, 116, 99, 104], [115, 101, 97, 108], [109, 101, 114, 103, 101], [100, 114, 111, 112]]
def ixW : List (List UInt8) → List UInt8 → Int → Int
 | [], _, _ => -1
 | x :: r, w, i => if w = x then i else ixW r w (i + 1)
def nums : List (List UInt8) → Option (List Int)
 | [] => some []
 | x :: r => match Lib.atoiAll x with
  | .ok v => if Lib.itoa v = x then (nums r).map (v :: ·) else none
  | _ => none
def trip : List Int → List Ent
 | a :: b :: c :: r => (a, b, c) :: trip r
 | _ => []
def yx : List Ent → List Int
 | [] => []
 | x :: r => x.1 :: x.2.1 :: x.2.2 :: yx r
def V0 (k : Int) (ns : List Int) : Option Rc :=
 if k = 1 then (if ns.length % 3 = 0 then some (1, 0, 0, trip ns) else none) else
 if k = 2 ∨ k = 3 then (match ns with | [a, b] => some (k, a, b, []) | _ => none) else
 if k = 4 then (match ns with | [a] => some (4, 0, a, []) | _ => none) else none
def vh : Rc := (0, 0, 0, [])
def zcI (w : List UInt8) (xs : List (List UInt8)) : Rc × Int := match nums xs with
 | none => (vh, 1)
 | some ns => match V0 (ixW kindW w 0) ns with
  | none => (vh, 1)
  | some r => if zA r = 0 then (r, 0) else (vh, zA r)
def yJ (s : List UInt8) : Rc × Int := if 60000 < s.length then (vh, 2) else zcI ((sp 32 s).headD []) (sp 32 s).tail
def Yu (r : Rc) : List Int := if r.1 = 1 then yx r.2.2.2 else if r.1 = 4 then [r.2.2.1] else [r.2.1, r.2.2.1]
def yv (r : Rc) : List UInt8 := jn 32 (kindW.getD r.1.toNat [] :: (Yu r).map Lib.itoa)
def z69 (r : Rc) : List UInt8 × Int := if zA r = 0 then (yv r, 0) else ([], zA r)
theorem ziY : ∀ l : List Ent, trip (yx l) = l
 | [] => rfl
 | x :: r => by rw [yx, trip, ziY r]
theorem z6a : ∀ l : List Ent, (yx l).length = 3 * l.length
 | [] => rfl
 | x :: r => by rw [yx]; simp [z6a r]; omega
theorem ziZ : ∀ (n : Nat) (l : List Int), l.length = 3 * n → yx (trip l) = l
 | 0, l, h => by have := List.eq_nil_of_length_eq_zero (show l.length = 0 by omega); subst this; rfl
 | n + 1, l, h => by
  match l, h with
  | a :: b :: c :: r, h => rw [trip, yx, ziZ n r (by simp at h; omega)]
  | [], h => simp at h
  | [_], h => simp at h; omega
  | [_, _], h => simp at h; omega
theorem zj0 : ∀ ns : List Int, (∀ n ∈ ns, z9z n) → nums (ns.map Lib.itoa) = some ns
 | [], _ => rfl
 | n :: r, h => by
  rw [List.map_cons, nums, zr3 n (h n (by simp)).1 (h n (by simp)).2]
  simp only [if_pos]
  rw [zj0 r fun m hm => h m (by simp [hm])]; rfl
theorem zj1 : ∀ (xs : List (List UInt8)) (ns : List Int), nums xs = some ns → xs = ns.map Lib.itoa ∧ ∀ n ∈ ns, z9z n
 | [], ns, h => by cases h; exact ⟨rfl, fun _ h => by cases h⟩
 | x :: r, ns, h => by
  rw [nums] at h
  rcases hx : Lib.atoiAll x with v | _ | _
  ·rw [hx] at h
   simp only at h
   split at h
   ·rename_i he
    cases hr : nums r with
    | none => rw [hr] at h; cases h
    | some ms =>
     rw [hr] at h; cases h
     obtain ⟨h1, h2⟩ := zj1 r ms hr
     refine ⟨by rw [List.map_cons, he, ← h1], fun n hn => ?_⟩
     rcases List.mem_cons.1 hn with rfl | hn
     ·exact Lib.atoiAll_bounds hx
     ·exact h2 n hn
   ·cases h
  ·rw [hx] at h; cases h
  ·rw [hx] at h; cases h
theorem zuF {l : List Ent} (h : entE l = 0) : ∀ n ∈ yx l, -1000000 ≤ n ∧ n ≤ 1000000 := by
 induction l with
 | nil => intro n hn; cases hn
 | cons x r ih =>
  rw [entE] at h
  split at h
  ·cases h
  ·rename_i hb
   unfold z0u at hb
   intro n hn
   rw [yx] at hn
   rcases List.mem_cons.1 hn with rfl | hn
   ·omega
   ·rcases List.mem_cons.1 hn with rfl | hn
    ·omega
    ·rcases List.mem_cons.1 hn with rfl | hn
     ·omega
     ·exact ih h n hn
theorem zdl {r : Rc} (h : zA r = 0) : (Yu r).length ≤ 30 ∧ ∀ n ∈ Yu r, -1000000 ≤ n ∧ n ≤ 1000000 := by
 obtain ⟨k1, k2, k3, k4⟩ := Yj h
 unfold Yu
 split
 ·rename_i h1
  obtain ⟨_, _, a3, a4⟩ := k3 h1
  exact ⟨by rw [z6a]; omega, zuF a4⟩
 ·rename_i h1
  obtain ⟨_, b1, b2, b3, b4, _⟩ := k4 h1
  split
  ·exact ⟨by simp, fun n hn => by simp at hn; omega⟩
  ·exact ⟨by simp, fun n hn => by simp at hn; omega⟩
theorem zpB {r : Rc} (h : zA r = 0) : V0 r.1 (Yu r) = some r := by
 obtain ⟨k1, k2, k3, k4⟩ := Yj h
 obtain ⟨k, a, b, l⟩ := r
 simp only at k1 k2 k3 k4
 unfold V0 Yu
 by_cases h1 : k = 1
 ·obtain ⟨rfl, rfl, a3, a4⟩ := k3 h1
  subst h1
  simp only [if_pos]
  rw [if_pos (by rw [z6a]; omega), ziY]
 ·obtain ⟨rfl, b1, b2, b3, b4, b5⟩ := k4 h1
  rw [if_neg h1]
  by_cases h4 : k = 4
  ·subst h4
   have := b5 rfl
   subst this
   simp
  ·simp only [if_neg h1, if_neg h4]
   rw [if_pos (by omega)]
theorem zpC {k : Int} {ns : List Int} {r : Rc} (h : V0 k ns = some r) : r.1 = k ∧ Yu r = ns ∧ 1 ≤ k ∧ k ≤ 4 := by
 unfold V0 at h
 split at h
 ·rename_i h1
  subst h1
  split at h
  ·rename_i h2
   cases h
   refine ⟨rfl, ?_, by omega, by omega⟩
   unfold Yu
   simp only [if_pos]
   exact ziZ (ns.length / 3) ns (by omega)
  ·cases h
 ·rename_i h1
  split at h
  ·rename_i h2
   split at h
   ·cases h
    refine ⟨rfl, ?_, by omega, by omega⟩
    unfold Yu
    simp only [if_neg h1]
    rw [if_neg (by omega)]
   ·cases h
  ·split at h
   ·rename_i h4
    subst h4
    split at h
    ·cases h
     exact ⟨rfl, rfl, by omega, by omega⟩
    ·cases h
   ·cases h
theorem z7v {k : Int} (h1 : 1 ≤ k) (h2 : k ≤ 4) : ixW kindW (kindW.getD k.toNat []) 0 = k ∧ (∀ x ∈ kindW.getD k.toNat [], x ≠ 32) ∧ (kindW.getD k.toNat []).length ≤ 5 := by
 have : k = 1 ∨ k = 2 ∨ k = 3 ∨ k = 4 := by omega
 rcases this with rfl | rfl | rfl | rfl <;> decide
theorem ztQ {w : List UInt8} {k : Int} (h : ixW kindW w 0 = k) (h1 : 1 ≤ k) (h2 : k ≤ 4) : kindW.getD k.toNat [] = w := by
 unfold kindW at h
 simp only [ixW] at h
 split at h
 ·omega
 ·split at h
  ·rename_i hw; subst hw; subst h; rfl
  ·split at h
   ·rename_i hw; subst hw; subst h; rfl
   ·split at h
    ·rename_i hw; subst hw; subst h; rfl
    ·split at h
     ·rename_i hw; subst hw; subst h; rfl
     ·omega
theorem zuG (c : UInt8) (w : List UInt8) (xs : List (List UInt8)) (m : Nat) (h : ∀ x ∈ xs, x.length ≤ m) : (jn c (w :: xs)).length ≤ w.length + xs.length * (m + 1) := by
 simp only [jn, List.length_append]
 have : ((xs.map (c :: ·)).flatten).length ≤ xs.length * (m + 1) := by
  induction xs with
  | nil => simp
  | cons x r ih =>
   have := ih fun y hy => h y (by simp [hy])
   have hx := h x (by simp)
   simp only [List.map_cons, List.flatten_cons, List.length_append, List.length_cons, Nat.add_mul]
   omega
 omega
theorem z3P {r : Rc} (h : zA r = 0) : (yv r).length ≤ 700 := by
 obtain ⟨k1, k2, _, _⟩ := Yj h
 obtain ⟨h1, h2⟩ := zdl h
 obtain ⟨_, _, h3⟩ := z7v k1 k2
 have := zuG 32 (kindW.getD r.1.toNat []) ((Yu r).map Lib.itoa) 21 fun x hx => by
  obtain ⟨n, hn, rfl⟩ := List.mem_map.1 hx
  have := h2 n hn
  exact Lib.itoa_length_le n (by omega) (by omega)
 rw [List.length_map] at this
 unfold yv
 omega
theorem znw {r : Rc} (h : zA r = 0) : sp 32 (yv r) = kindW.getD r.1.toNat [] :: (Yu r).map Lib.itoa := by
 obtain ⟨k1, k2, _, _⟩ := Yj h
 unfold yv
 refine zt4 32 _ (by simp) fun w hw x hx => ?_
 rcases List.mem_cons.1 hw with rfl | hw
 ·exact (z7v k1 k2).2.1 x hx
 ·obtain ⟨n, _, rfl⟩ := List.mem_map.1 hw
  exact zpA n x hx
theorem zen {r : Rc} (h : zA r = 0) : yJ (yv r) = (r, 0) := by
 obtain ⟨k1, k2, _, _⟩ := Yj h
 obtain ⟨_, h2⟩ := zdl h
 have hl := z3P h
 unfold yJ zcI
 rw [if_neg (by omega), znw h]
 simp only [List.headD_cons, List.tail_cons]
 rw [zj0 _ fun n hn => by have := h2 n hn; exact ⟨by omega, by omega⟩]
 simp only
 rw [(z7v k1 k2).1, zpB h]
 simp only [if_pos h]
theorem zj2 {s : List UInt8} (h : (yJ s).2 = 0) : zA (yJ s).1 = 0 ∧ yv (yJ s).1 = s := by
 unfold yJ at h ⊢
 split at h
 ·cases h
 ·rename_i hl
  rw [if_neg hl]
  unfold zcI at h ⊢
  have hj := z7t 32 s
  have hn := jp 32 s
  cases hs : sp 32 s with
  | nil => exact absurd hs hn
  | cons w xs =>
  rw [hs] at h hj
  simp only [List.headD_cons, List.tail_cons] at h ⊢
  cases hx : nums xs with
  | none => rw [hx] at h; cases h
  | some ns =>
   rw [hx] at h
   simp only at h ⊢
   cases hr : V0 (ixW kindW w 0) ns with
   | none => rw [hr] at h; cases h
   | some r =>
    rw [hr] at h
    simp only at h ⊢
    split at h
    ·rename_i hc
     rw [if_pos hc]
     refine ⟨hc, ?_⟩
     obtain ⟨e1, e2, e3, e4⟩ := zpC hr
     unfold yv
     rw [e1, e2, ztQ rfl e3 e4, ← (zj1 xs ns hx).1]
     exact hj
    ·rename_i hc; exact absurd h hc
end Go.Kx
namespace Go.Kx
open Go.Rb
theorem z8V (c : UInt8) {s : List UInt8} (h : ∀ x ∈ s, x ≠ c) : sp c s = [s] := zhH c s h
theorem z9J (c : UInt8) : ∀ s : List UInt8, (∀ x ∈ s, x ≠ c) ∨ ∃ w l, s = w ++ c :: l ∧ (∀ x ∈ w, x ≠ c)
 | [] => .inl fun x hx => by cases hx
 | b :: s => by
  by_cases hb : b = c
  ·subst hb; exact .inr ⟨[], s, rfl, fun x hx => by cases hx⟩
  ·rcases z9J c s with h | ⟨w, l, rfl, h⟩
   ·exact .inl fun x hx => by rcases List.mem_cons.1 hx with rfl | hx; exact hb; exact h x hx
   ·exact .inr ⟨b :: w, l, rfl, fun x hx => by rcases List.mem_cons.1 hx with rfl | hx; exact hb; exact h x hx⟩
theorem zf1 {c : UInt8} {s : List UInt8} (h : ∀ x ∈ s, x ≠ c) : Lib.cut s [c] = (s, [], false) := by
 unfold Lib.cut
 rw [z3f h, if_neg (by omega)]
theorem zf2 {c : UInt8} {w l : List UInt8} (h : ∀ x ∈ w, x ≠ c) : Lib.cut (w ++ c :: l) [c] = (w, l, true) := by
 unfold Lib.cut
 rw [z4j h, if_pos (by omega)]
 have e : ((w.length : Nat) : Int).toNat = w.length := by omega
 rw [e]
 simp [List.take_append, List.drop_append]
def lnW (most all : Int) : List (List UInt8) → List Rc → List Rc × Int × Int
 | [], acc => (acc, all, 0)
 | w :: r, acc => if r = [] then (if w = [] then (acc, all, 0) else (acc, all - w.length, 8)) else
  if (yJ w).2 = 0 then (if (acc.length : Int) = most then (acc, all - (jn 10 (w :: r)).length, 2) else lnW most all r (acc ++ [(yJ w).1])) else (acc, all - (jn 10 (w :: r)).length, (yJ w).2)
def lnP (most : Int) (s : List UInt8) : List Rc × Int × Int := lnW most s.length (sp 10 s) []
theorem zt5 (most all : Int) : ∀ (ws : List (List UInt8)) (acc : List Rc), ((jn 10 ws).length : Int) ≤ all → 0 ≤ (lnW most all ws acc).2.1 ∧ (lnW most all ws acc).2.1 ≤ all
 | [], acc, h => by simp only [lnW]; simp [jn] at h; omega
 | w :: r, acc, h => by
  rw [lnW]
  by_cases hr : r = []
  ·subst hr
   rw [if_pos rfl]
   simp only [jn, List.map_nil, List.flatten_nil, List.append_nil] at h
   split
   ·simp only; omega
   ·simp only; omega
  ·rw [if_neg hr]
   have hj := z1m 10 w hr
   have : (jn 10 r).length ≤ (jn 10 (w :: r)).length := by rw [hj]; simp; omega
   split
   ·split
    ·simp only; omega
    ·exact zt5 most all r _ (by omega)
   ·simp only; omega
theorem zt6 (most : Int) (s : List UInt8) : 0 ≤ (lnP most s).2.1 ∧ (lnP most s).2.1 ≤ s.length := by
 unfold lnP
 exact zt5 most _ _ _ (by rw [z7t]; omega)
theorem zou (most all : Int) : ∀ (ws : List (List UInt8)) (acc : List Rc), (lnW most all ws acc).1.length ≤ acc.length + ws.length
 | [], acc => by simp [lnW]
 | w :: r, acc => by
  rw [lnW]
  split
  ·split <;> simp
  ·split
   ·split
    ·simp
    ·have := zou most all r (acc ++ [(yJ w).1])
     simp only [List.length_append, List.length_cons, List.length_nil] at this ⊢; omega
   ·simp
theorem zdm (most : Int) (s : List UInt8) : (lnP most s).1.length ≤ s.length + 1 := by
 have := zou most s.length (sp 10 s) []
 have := zgO 10 s
 unfold lnP
 simp only [List.length_nil] at *
 omega
/-! ### Records as lines -/
def Yv (r : Rc) : List UInt8 := yv r ++ [10]
def zE (rs : List Rc) : List UInt8 := (rs.map Yv).flatten
theorem zr4 (n : Int) : ∀ b ∈ Lib.itoa n, b ≠ 10 := by
 intro b hb e
 subst e
 rcases ziW n _ hb with h | h
 ·revert h; decide
 ·revert h; decide
theorem zr5 {k : Int} (h1 : 1 ≤ k) (h2 : k ≤ 4) : ∀ x ∈ kindW.getD k.toNat [], x ≠ 10 := by
 have : k = 1 ∨ k = 2 ∨ k = 3 ∨ k = 4 := by omega
 rcases this with rfl | rfl | rfl | rfl <;> decide
theorem zgP {r : Rc} (h : zA r = 0) : ∀ x ∈ yv r, x ≠ 10 := by
 obtain ⟨k1, k2, _, _⟩ := Yj h
 intro x hx
 unfold yv at hx
 simp only [jn] at hx
 rcases List.mem_append.1 hx with hx | hx
 ·exact zr5 k1 k2 x hx
 ·rw [List.mem_flatten] at hx
  obtain ⟨l, hl, hx⟩ := hx
  rw [List.map_map, List.mem_map] at hl
  obtain ⟨n, _, rfl⟩ := hl
  rcases List.mem_cons.1 hx with rfl | hx
  ·decide
  ·exact zr4 n x hx
theorem zgQ (r : Rc) (rs : List Rc) (t : List UInt8) : zE (r :: rs) ++ t = yv r ++ 10 :: (zE rs ++ t) := by
 simp [zE, Yv]
theorem zcJ (a b : List Rc) : zE (a ++ b) = zE a ++ zE b := by simp [zE]
theorem zf3 (most all : Int) : ∀ (rs : List Rc) (t : List UInt8) (acc : List Rc), (∀ r ∈ rs, zA r = 0) → ((acc.length + rs.length : Nat) : Int) ≤ most → lnW most all (sp 10 (zE rs ++ t)) acc = lnW most all (sp 10 t) (acc ++ rs)
 | [], t, acc, _, _ => by simp [zE]
 | r :: rs, t, acc, h, hl => by
  have hr := h r (by simp)
  simp only [List.length_cons] at hl
  rw [zgQ, z3O 10 _ _ (zgP hr), lnW, if_neg (jp 10 _), zen hr, if_pos rfl, if_neg (by omega), zf3 most all rs t (acc ++ [r]) (fun q hq => h q (by simp [hq])) (by simp; omega)]
  simp
theorem zmd {most : Int} {rs : List Rc} {t : List UInt8} (h : ∀ r ∈ rs, zA r = 0) (hl : (rs.length : Int) ≤ most) (ht : ∀ x ∈ t, x ≠ 10) : lnP most (zE rs ++ t) = (rs, ((zE rs).length : Int), if t = [] then 0 else 8) := by
 unfold lnP
 rw [zf3 most _ rs t [] h (by simpa using hl), z8V 10 ht, lnW, if_pos rfl, List.nil_append, List.length_append]
 by_cases e : t = []
 ·subst e; simp
 ·rw [if_neg e, if_neg e]; simp only [Prod.mk.injEq, true_and, and_true]; omega
theorem zj3 {most : Int} {rs : List Rc} (h : ∀ r ∈ rs, zA r = 0) (hl : (rs.length : Int) ≤ most) : lnP most (zE rs) = (rs, ((zE rs).length : Int), 0) := by
 have := zmd (t := []) h hl (by simp)
 simpa using this
/-! ### Disks -/
def zN (d : List UInt8 × List UInt8) : Int := if 60000 < d.1.length then 2 else if 60000 - d.1.length < d.2.length then 2 else (lnP 60 d.1).2.2
def dPut (d : List UInt8 × List UInt8) (r : Rc) : (List UInt8 × List UInt8) × Int :=
 if zN d = 0 then (if zA r = 0 then (if 60000 - (d.1.length : Int) - d.2.length < (yv r).length + 1 then (([], []), 2) else ((d.1, d.2 ++ Yv r), 0)) else (([], []), zA r)) else (([], []), zN d)
def vI (d : List UInt8 × List UInt8) : (List UInt8 × List UInt8) × Int :=
 if zN d = 0 then (if zN (d.1 ++ d.2, []) = 0 then ((d.1 ++ d.2, []), 0) else (([], []), zN (d.1 ++ d.2, []))) else (([], []), zN d)
def vA (d : List UInt8 × List UInt8) (n : Int) : (List UInt8 × List UInt8) × Int :=
 if zN d = 0 then (if n < 0 ∨ (d.2.length : Int) < n then (([], []), 3) else ((d.1, d.2.take n.toNat), 0)) else (([], []), zN d)
def Jt (d : List UInt8 × List UInt8) : List Rc × Int × Int := lnP (60 - ((lnP 60 d.1).1.length : Int)) d.2
def zp (d : List UInt8 × List UInt8) : (List UInt8 × List UInt8) × List Rc × Int :=
 if zN d = 0 then ((d.1 ++ d.2.take (Jt d).2.1.toNat, []), (lnP 60 d.1).1 ++ (Jt d).1, 0) else (([], []), [], zN d)
theorem Yw {d : List UInt8 × List UInt8} (h : zN d = 0) : d.1.length + d.2.length ≤ 60000 := by
 unfold zN at h
 split at h
 ·cases h
 ·split at h
  ·cases h
  ·omega
theorem zeo {a : List Rc} {w : List UInt8} (h : ∀ r ∈ a, zA r = 0) (ha : a.length ≤ 60) (hl : (zE a).length + w.length ≤ 60000) : zN (zE a, w) = 0 := by
 unfold zN
 rw [if_neg (by simp only; omega), if_neg (by simp only; omega), zj3 h (by omega)]
end Go.Kx
namespace Go.Proofs.Y
open Go.Rb Go.Kx
theorem zme : vx = some kindW := rfl
theorem zsx (a : List (List UInt8)) (b : List UInt8) (h : a.length < 4611686018427387904) : z66 a b = some (ixW a b 0) := by
 unfold z66
 refine zP a (fun j (_ : Int) => (j : Int)) (G := fun rest s => some (ixW rest b s)) (P := fun j s => s = (j : Int)) (s0 := (0 : Int)) ?_ ?_ rfl (by omega)
 ·rintro j s hj rfl k hk
  have hat := zO hj
  generalize a.getD j default = x at *
  rw [za, zd, zh, zb, if_pos (by omega), hat, zx, z7, za, zd, zt, ZA, zD (by omega), hk _ rfl, ixW]
  split
  ·rfl
  ·rfl
 ·rintro s rfl k
  rw [za, zd, zh, zb, if_neg (by omega)]; rfl
theorem z9K (f : List UInt8 × Int → Option (Sum (List UInt8 × Int) (List UInt8 × Int))) (l : List Int) (w : List UInt8) (hl : l.length ≤ 30) (hb : ∀ n ∈ l, -1000000 ≤ n ∧ n ≤ 1000000) (hw : w.length ≤ 5)
  (hs : ∀ (j : Nat) (s : List UInt8), j < l.length → f (s, (j : Int)) = z6 (Yl (l.getD j default)) fun (y : List UInt8) => ifB (Jb [32] y) (ifB (Jb s (catS [32] y)) (some (Sum.inl (catS s (catS [32] y), wadd IntKind.i64 (j : Int) 1))) none) none)
  (he : ∀ s, f (s, (l.length : Int)) = some (Sum.inr (s, 0))) : zi maxR f (w, 0) = some (jn 32 (w :: l.map Lib.itoa), 0) := by
 have hh : ∀ n ∈ l, Yl n = some (Lib.itoa n) ∧ (Lib.itoa n).length ≤ 21 := fun n hn => by
  have := hb n hn
  exact ⟨by unfold Yl; rw [if_pos (by omega)], Lib.itoa_length_le n (by omega) (by omega)⟩
 have := zP l (fun j (s : List UInt8) => (s, (j : Int))) (f := f) (G := fun rest s => some (s ++ (rest.map fun n => 32 :: Lib.itoa n).flatten, 0)) (P := fun j s => s.length ≤ 5 + 22 * j) (s0 := w) ?_ ?_ (by omega) (by omega)
 ·rw [show ((0 : Nat) : Int) = 0 from rfl] at this
  rw [this]
  simp only [jn, List.map_map]; rfl
 ·intro j s hj hp k hk
  have hm : l.getD j default ∈ l := by simp [List.getD, List.getElem?_eq_getElem hj]
  obtain ⟨h1, h2⟩ := hh _ hm
  rw [hs j s hj, h1, z7]
  generalize l.getD j default = x at *
  rw [Z4, if_pos (by simp; omega), Z4, if_pos (by simp [catS]; omega), zt, zD (by omega), hk _ (by simp [catS]; omega)]
  simp [catS]
 ·intro s _ k
  rw [he, Z9]; simp
theorem zsy (r : Rc) (hl : r.2.2.2.length < 4611686018427387904) : Vs r = some (z69 r) := by
 unfold Vs z69
 have hck : Zl (Prod.fst r, Prod.fst (Prod.snd r), Prod.fst (Prod.snd (Prod.snd r)), Prod.snd (Prod.snd (Prod.snd r))) = some (zA r) := z5S r hl
 rw [hck, z7, zl]
 by_cases hc : zA r = 0
 ·rw [if_pos hc, if_pos hc]
  obtain ⟨k1, k2, k3, k4⟩ := Yj hc
  obtain ⟨a1, a2⟩ := zdl hc
  obtain ⟨_, _, hw⟩ := z7v k1 k2
  have hat : atI kindW r.1 = some (kindW.getD r.1.toNat []) := by
   have : r.1 = 1 ∨ r.1 = 2 ∨ r.1 = 3 ∨ r.1 = 4 := by omega
   rcases this with h | h | h | h <;> rw [h] <;> rfl
  rw [zme, z7]
  simp only [hat, z7]
  rw [ze]
  by_cases h1 : r.1 = 1
  ·rw [if_pos h1]
   have he : Yu r = yx r.2.2.2 := by unfold Yu; rw [if_pos h1]
   have ht : yv r = jn 32 (kindW.getD r.1.toNat [] :: (yx r.2.2.2).map Lib.itoa) := by unfold yv; rw [he]
   rw [he] at a1 a2
   have hll := z6a r.2.2.2
   rw [ht]
   generalize kindW.getD r.1.toNat [] = w at *
   generalize hle : r.2.2.2 = l at *
   refine zP l (fun j (s : List Int) => ((j : Int), s)) (G := fun rest s => if s ++ yx rest = yx l then some (jn 32 (w :: (yx l).map Lib.itoa), 0) else none) (P := fun j s => s.length = 3 * j ∧ s ++ yx (l.drop j) = yx l) (s0 := []) ?_ ?_ ⟨rfl, rfl⟩ (by omega) |>.trans (by simp)
   ·rintro j s hj ⟨hp, hq⟩ k hk
    have hat := zO hj
    have hd : l.drop j = l.getD j default :: l.drop (j + 1) := by rw [List.drop_eq_getElem_cons hj]; simp [List.getD, List.getElem?_eq_getElem hj]
    rw [hd] at hq
    generalize l.getD j default = x at *
    rw [za, zd, zh, zb, if_pos (by omega), hat, zx, z7, za, zB, zt, zy, if_pos (by simp; omega), zD (by omega)]
    simp only [zY]
    have hq2 : (s ++ [x.1, x.2.1, x.2.2]) ++ yx (l.drop (j + 1)) = yx l := by rw [← hq, yx]; simp
    rw [hk _ ⟨by simp; omega, hq2⟩, if_pos hq2, if_pos hq]
   ·rintro s ⟨hp, hq⟩ k
    rw [List.drop_length] at hq
    have hq' : s = yx l := by simpa [yx] using hq
    subst hq'
    rw [za, zd, zh, zb, if_neg (by omega), if_pos hq]
    refine z9K _ (yx l) w a1 a2 hw ?_ ?_
    ·intro j s hj
     simp only [zB, zt, Z9, zd, Zy, zx, Z1, ZB, Zu, zh, Zz, zz, zR, ze, zl, zC, ZE, ZK, ZP, zI, ZF, Zv, Zw, Zx, Zr, Zb, zH, ZQ, zy, Z3, Zc, Z4, ZA, ZR, Zs, z7, Z2, Zf, Zg, zb, ZL, zY, zU, Z8, ZS, Zi, zM, ZG]
     have hat := yu hj
     rw [if_pos (by omega), if_pos (by omega), show ((j : Int)).toNat = j by omega, hat, z7]
    ·intro s
     simp only [zB, zt, Z9, zd, Zy, zx, Z1, ZB, Zu, zh, Zz, zz, zR, ze, zl, zC, ZE, ZK, ZP, zI, ZF, Zv, Zw, Zx, Zr, Zb, zH, ZQ, zy, Z3, Zc, Z4, ZA, ZR, Zs, z7, Z2, Zf, Zg, zb, ZL, zY, zU, Z8, ZS, Zi, zM, ZG]
     rw [if_neg (by omega)]
  ·rw [if_neg h1, ze]
   by_cases h4 : r.1 = 4
   ·rw [if_pos h4]
    have he : Yu r = [r.2.2.1] := by unfold Yu; rw [if_neg h1, if_pos h4]
    have ht : yv r = jn 32 (kindW.getD r.1.toNat [] :: [r.2.2.1].map Lib.itoa) := by unfold yv; rw [he]
    rw [he] at a1 a2
    rw [ht, zI, if_pos ⟨by omega, by simp⟩]
    refine z9K _ [r.2.2.1] _ a1 a2 hw ?_ ?_
    ·intro j s hj
     have : j = 0 := by simpa using hj
     subst this
     rfl
    ·intro s; rfl
   ·rw [if_neg h4]
    have he : Yu r = [r.2.1, r.2.2.1] := by unfold Yu; rw [if_neg h1, if_neg h4]
    have ht : yv r = jn 32 (kindW.getD r.1.toNat [] :: [r.2.1, r.2.2.1].map Lib.itoa) := by unfold yv; rw [he]
    rw [he] at a1 a2
    rw [ht]
    refine z9K _ [r.2.1, r.2.2.1] _ a1 a2 hw ?_ ?_
    ·intro j s hj
     have : j = 0 ∨ j = 1 := by simp at hj; omega
     rcases this with rfl | rfl <;> rfl
    ·intro s; rfl
 ·rw [if_neg hc, if_neg hc]
end Go.Proofs.Y
namespace Go.Proofs.Y
open Go.Rb Go.Kx
theorem zhI (c : UInt8) : ∀ l, ∀ w ∈ sp c l, w.length ≤ l.length
 | [], w, hw => by simp [sp] at hw; subst hw; simp
 | b :: l, w, hw => by
  have ih := zhI c l
  have hn := jp c l
  unfold sp at hw
  split at hw
  ·rcases List.mem_cons.1 hw with rfl | hw
   ·simp
   ·have := ih w hw; simp; omega
  ·split at hw
   ·rename_i h2; exact absurd h2 hn
   ·rename_i v r h2
    rw [h2] at ih
    rcases List.mem_cons.1 hw with rfl | hw
    ·have := ih v (by simp); simp; omega
    ·have := ih w (by simp [hw]); simp; omega
def endP (k : Int) (ns : List Int) : Rc × Int := match V0 k ns with
 | none => (vh, 1)
 | some r => if zA r = 0 then (r, 0) else (vh, zA r)
theorem zj4 (w : List UInt8) (xs : List (List UInt8)) : zcI w xs = match nums xs with | none => (vh, 1) | some ns => endP (ixW kindW w 0) ns := rfl
theorem zmf : ∀ (n : Nat) (l : List Int), l.length = 3 * n → (trip l).length = n
 | 0, l, h => by have := List.eq_nil_of_length_eq_zero (show l.length = 0 by omega); subst this; rfl
 | n + 1, l, h => by
  match l, h with
  | a :: b :: c :: r, h => rw [trip, List.length_cons, zmf n r (by simp at h; omega)]
  | [], h => simp at h
  | [_], h => simp at h; omega
  | [_, _], h => simp at h; omega
theorem zmg : ∀ (n : Nat) (l : List Int) (j : Nat), l.length = 3 * n → j < n → (trip l).getD j default = (l.getD (3 * j) default, l.getD (3 * j + 1) default, l.getD (3 * j + 2) default)
 | 0, l, j, h, hj => by omega
 | n + 1, l, j, h, hj => by
  match l, h with
  | a :: b :: c :: r, h =>
   rw [trip]
   cases j with
   | zero => rfl
   | succ j =>
    have := zmg n r j (by simp at h; omega) (by omega)
    rw [show 3 * (j + 1) = 3 * j + 3 by omega]
    simpa [List.getD] using this
  | [], h => simp at h
  | [_], h => simp at h; omega
  | [_, _], h => simp at h; omega
theorem zt7 (n : Nat) : wrem (n : Int) 3 = ((n % 3 : Nat) : Int) := by unfold wrem; rw [Int.tmod_eq_emod_of_nonneg (by omega)]; omega
theorem zmh (r : Rc) (hl : r.2.2.2.length < 4611686018427387904) : (z6 (Zl r) fun (y : Int) => ifB (neI y 0) (some (((0, 0, 0, []) : Rc), y)) (some (r, (0 : Int)))) = some (if zA r = 0 then (r, 0) else (vh, zA r)) := by
 rw [z5S r hl, z7, zl]
 split
 ·rfl
 ·rfl
theorem zsz (s : List UInt8) : Vr s = some (yJ s) := by
 unfold Vr yJ
 rw [zz, zb]
 by_cases hlen : 60000 < s.length
 ·rw [if_pos (by omega), if_pos hlen]; rfl
 ·rw [if_neg (by omega), if_neg hlen]
  have hsp : z5k s [32] = some (sp 32 s) := by unfold z5k; rw [if_pos ⟨by omega, by simp⟩, znv]
  rw [hsp, z7, zme, z7]
  have hwl := zhI 32 s
  have hsl := zgO 32 s
  have hne := jp 32 s
  generalize sp 32 s = ws at *
  cases ws with
  | nil => exact absurd rfl hne
  | cons w xs =>
  rw [show atI (w :: xs) 0 = some w from rfl, z7, zsx kindW w (by decide), z7, zj4]
  simp only [List.headD_cons, List.tail_cons]
  generalize ixW kindW w 0 = q
  rw [zI, if_pos ⟨by omega, by simp; omega⟩]
  simp only [show yB (w :: xs) 1 = xs from rfl]
  have hxl : xs.length ≤ 60000 := by simp at hsl; omega
  have hxw : ∀ x ∈ xs, x.length ≤ 60000 := fun x hx => by have := hwl x (by simp [hx]); omega
  refine (zP xs (fun j (a : List Int) => ((j : Int), 0, 0, 0, [], a)) (G := fun rest a => some (match nums rest with | none => (vh, 1) | some ns => endP q (a ++ ns))) (P := fun j a => a.length = j) (s0 := []) ?_ ?_ rfl (by omega)).trans ?_
  ·intro j a hj hp k hk
   have hat := zO hj
   have hm : xs.getD j default ∈ xs := by simp [List.getD, List.getElem?_eq_getElem hj]
   have hx := hxw _ hm
   generalize xs.getD j default = x at *
   rw [za, zh, zb, if_pos (by omega), hat, z7]
   have ha : z9a x = some (endO (Lib.atoiAll x) (Lib.atoiSat x)) := by unfold z9a; rw [if_pos (by omega)]
   rw [ha, z7, nums]
   rcases hv : Lib.atoiAll x with v | _ | _
   ·have hb := Lib.atoiAll_bounds hv
    have hi : Yl v = some (Lib.itoa v) := by unfold Yl; rw [if_pos hb]
    simp only [endO]
    rw [ZB, hi, z7, za, zC, ZA]
    by_cases he : Lib.itoa v = x
    ·rw [if_pos he, if_pos he, za, zy, if_pos (by simp; omega), zt, zD (by omega)]
     simp only [zY]
     rw [hk _ (by simp; omega)]
     cases nums (xs.drop (j + 1)) with
     | none => rfl
     | some ns => simp
    ·rw [if_neg he, if_neg he]; rfl
   ·rfl
   ·rfl
  ·intro a hp k
   have hal : a.length ≤ 60000 := by omega
   clear hp hxw hwl
   rw [za, zd, zh, zb, if_neg (by omega)]
   simp only [nums, List.append_nil]
   rw [ze]
   by_cases h1 : q = 1
   ·subst h1
    rw [if_pos rfl, ze, zb, zt7]
    by_cases h3 : a.length % 3 = 0
    ·rw [if_pos (by omega)]
     have hn : a.length = 3 * (a.length / 3) := by omega
     have htl := zmf _ a hn
     have he : endP 1 a = if zA (1, 0, 0, trip a) = 0 then ((1, 0, 0, trip a), 0) else (vh, zA (1, 0, 0, trip a)) := by unfold endP V0; rw [if_pos rfl, if_pos h3]
     rw [he]
     refine (zP (trip a) (fun j (es : List Ent) => (((3 * j : Nat) : Int), es)) (G := fun rest es => some (if zA (1, 0, 0, es ++ rest) = 0 then (((1, 0, 0, es ++ rest) : Rc), 0) else (vh, zA (1, 0, 0, es ++ rest)))) (P := fun j es => es.length = j) (s0 := []) ?_ ?_ rfl (by omega)).trans (by simp)
     ·intro j es hj hp k hk
      rw [htl] at hj
      have hg := zmg _ a j hn hj
      rw [hg]
      have e0 := yu (show 3 * j < a.length by omega)
      have e1 := yu (show 3 * j + 1 < a.length by omega)
      have e2 := yu (show 3 * j + 2 < a.length by omega)
      generalize a.getD (3 * j) default = x0 at *
      generalize a.getD (3 * j + 1) default = x1 at *
      generalize a.getD (3 * j + 2) default = x2 at *
      have w1 : wadd .i64 ((3 * j : Nat) : Int) 1 = ((3 * j + 1 : Nat) : Int) := by rw [ZM ⟨by omega, by omega⟩]; rfl
      have w2 : wadd .i64 ((3 * j : Nat) : Int) 2 = ((3 * j + 2 : Nat) : Int) := by rw [ZM ⟨by omega, by omega⟩]; rfl
      have w3 : wadd .i64 ((3 * j : Nat) : Int) 3 = ((3 * (j + 1) : Nat) : Int) := by rw [ZM ⟨by omega, by omega⟩]; omega
      rw [za, zh, if_pos (show ((3 * j : Nat) : Int) < a.length by omega)]
      simp only [w1, w2, w3, zM, Int.toNat_natCast]
      rw [za, zH, if_pos (by omega), e0, z7, za, zH, if_pos (by omega), e1, z7, za, zH, if_pos (by omega), e2, z7, za, zy, if_pos (by simp; omega), zt]
      simp only [zY]
      rw [hk _ (by simp; omega)]
      simp
     ·intro es hp k
      rw [za, zd, zh, if_neg (show ¬ ((3 * (trip a).length : Nat) : Int) < a.length by omega), List.append_nil]
      exact zmh (1, 0, 0, es) (by simp; omega)
    ·rw [if_neg (by omega)]
     unfold endP V0
     rw [if_pos rfl, if_neg h3]
     rfl
   ·rw [if_neg h1]
    by_cases h2 : a.length = 2
    ·match a, h2 with
     | [x, y], _ =>
      have c2 := zmh (q, x, y, []) (by simp)
      rw [ze, ze]
      by_cases k2 : q = 2
      ·rw [if_pos k2]
       have : endP q [x, y] = if zA (q, x, y, []) = 0 then ((q, x, y, []), 0) else (vh, zA (q, x, y, [])) := by unfold endP V0; rw [if_neg h1, if_pos (.inl k2)]
       rw [this]
       exact c2
      ·rw [if_neg k2, ze]
       by_cases k3 : q = 3
       ·rw [if_pos k3]
        have : endP q [x, y] = if zA (q, x, y, []) = 0 then ((q, x, y, []), 0) else (vh, zA (q, x, y, [])) := by unfold endP V0; rw [if_neg h1, if_pos (.inr k3)]
        rw [this]
        exact c2
       ·rw [if_neg k3, ze]
        unfold endP V0
        rw [if_neg h1, if_neg (show ¬ (q = 2 ∨ q = 3) by omega)]
        by_cases k4 : q = 4
        ·rw [if_pos k4, if_pos k4]; rfl
        ·rw [if_neg k4, if_neg k4]; rfl
    ·have g2 : ¬ (lenI a = 2) := by rw [zb]; omega
     have r2 : ∀ k : Int, (k = 2 ∨ k = 3) → V0 k a = none := by
      intro k hk
      unfold V0
      rw [if_neg (by omega), if_pos hk]
      match a, h2 with
      | [], _ => rfl
      | [_], _ => rfl
      | _ :: _ :: _ :: _, _ => rfl
     simp only [ze, if_neg g2]
     by_cases k4 : q = 4
     ·subst k4
      by_cases l1 : a.length = 1
      ·match a, l1 with
       | [x], _ => exact zmh (4, 0, x, []) (by simp)
      ·have g1 : ¬ (lenI a = 1) := by rw [zb]; omega
       have : endP 4 a = (vh, 1) := by
        unfold endP V0
        rw [if_neg (by omega), if_neg (by omega), if_pos rfl]
        match a, l1 with
        | [], _ => rfl
        | _ :: _ :: _, _ => rfl
       rw [this]
       simp only [if_neg g1]
       rfl
     ·simp only [if_neg k4]
      have : endP q a = (vh, 1) := by
       unfold endP
       by_cases hk : q = 2 ∨ q = 3
       ·rw [r2 q hk]
       ·unfold V0; rw [if_neg h1, if_neg hk, if_neg k4]
      rw [this]
      split
      ·rfl
      ·split <;> rfl
  ·cases nums xs <;> rfl
end Go.Proofs.Y
namespace Go.Proofs.Y
open Go.Rb Go.Kx
theorem z1n (s : List UInt8) : strB (bytB s) = s := by
 unfold strB bytB
 rw [List.map_map]
 have : ((fun n : Int => UInt8.ofNat n.toNat) ∘ fun b : UInt8 => (b.toNat : Int)) = id := by
  funext b; simp
 rw [this, List.map_id]
theorem ZD (s : List UInt8) : (bytB s).length = s.length := by unfold bytB; rw [List.length_map]
theorem zmi (s t : List UInt8) : bytB (s ++ t) = bytB s ++ bytB t := by unfold bytB; rw [List.map_append]
theorem z7w (s : List UInt8) (k : Nat) : (bytB s).take k = bytB (s.take k) := by unfold bytB; rw [List.map_take]
theorem zsA {s t : List UInt8} : bytB s = bytB t ↔ s = t := ⟨fun h => by rw [← z1n s, h, z1n], fun h => by rw [h]⟩
def bD (d : List UInt8 × List UInt8) : List Int × List Int := (bytB d.1, bytB d.2)
theorem zf4 (s : List UInt8) (most : Int) (hl : s.length ≤ 60000) : vy s most = some (lnP most s) := by
 unfold vy
 have key := yz (f := fun (x : List UInt8 × List (Int × Int × Int × List (Int × Int × Int))) =>
   ifB (notB (eqS (Prod.fst x) []))
    (z6 (cutO (Prod.fst x) [10])
     fun (y : List UInt8 × List UInt8 × Bool) =>
     ifB (notB (Prod.snd (Prod.snd y))) (mapO Sum.inr (some (Prod.snd x, wsub IntKind.i64 (lenI s) (lenI (Prod.fst x)), 8)))
      (z6 (Vr (Prod.fst y)) fun (y_1 : (Int × Int × Int × List (Int × Int × Int)) × Int) =>
       ifB (neI (Prod.snd y_1) 0) (mapO Sum.inr (some (Prod.snd x, wsub IntKind.i64 (lenI s) (lenI (Prod.fst x)), Prod.snd y_1)))
        (ifB (eqI (lenI (Prod.snd x)) most) (mapO Sum.inr (some (Prod.snd x, wsub IntKind.i64 (lenI s) (lenI (Prod.fst x)), 2)))
         (ifB
          (zg 48 (Prod.snd x)
           [(Prod.fst (Prod.fst y_1), Prod.fst (Prod.snd (Prod.fst y_1)), Prod.fst (Prod.snd (Prod.snd (Prod.fst y_1))),
             Prod.snd (Prod.snd (Prod.snd (Prod.fst y_1))))])
          (some
           (Sum.inl
            (Prod.fst (Prod.snd y),
             cat (Prod.snd x)
              [(Prod.fst (Prod.fst y_1), Prod.fst (Prod.snd (Prod.fst y_1)), Prod.fst (Prod.snd (Prod.snd (Prod.fst y_1))),
                Prod.snd (Prod.snd (Prod.snd (Prod.fst y_1))))])))
          none))))
    (mapO Sum.inr (some (Prod.snd x, lenI s, 0))))
  (G := fun x => some (lnW most s.length (sp 10 x.1) x.2)) (P := fun x => x.1.length + x.2.length ≤ s.length) (μ := fun x => x.1.length) ?_ maxR (s, []) (by simp) (by unfold maxR; simp only; omega)
 ·exact key
 ·rintro ⟨t, acc⟩ hp k hk
  simp only at hp hk ⊢
  have hw : wsub .i64 (lenI s) (lenI t) = (s.length : Int) - t.length := by rw [zb, zb, ZT ⟨by omega, by omega⟩]
  rw [za, zC, ZA]
  by_cases h0 : t = []
  ·subst h0
   rw [if_pos rfl, zd]
   rfl
  ·rw [if_neg h0, hw]
   have hc : cutO t [10] = some (Lib.cut t [10]) := by unfold cutO; rw [if_pos (by omega)]
   rw [hc, z7, za, zd, zC]
   rcases z9J 10 t with hn | ⟨w, l, rfl, hn⟩
   ·rw [zf1 hn]
    show some _ = _
    rw [z8V 10 hn, lnW, if_pos rfl, if_neg h0]
   ·rw [zf2 hn]
    simp only [Z1]
    rw [zsz, z7, za, zd, zl, za, zd, ze, zb, z3O 10 w l hn, lnW, if_neg (jp 10 l), z1m 10 w (jp 10 l), z7t]
    split
    ·split
     ·rfl
     ·simp only [List.length_append, List.length_cons] at hp hk
      rw [za, zt, zy, if_pos (by simp; omega)]
      simp only [zY]
      exact hk _ (by simp; omega) (by simp only; omega)
    ·rfl
theorem jZ (d : List UInt8 × List UInt8) (h1 : d.1.length < 4611686018427387904) (h2 : d.2.length < 4611686018427387904) : Y5 (bytB d.1, bytB d.2) = some (zN d) := by
 unfold Y5 zN
 simp only [zb, ZD, zz, z1n]
 rw [ZT ⟨by omega, by omega⟩]
 by_cases k1 : 60000 < d.1.length
 ·rw [if_pos (by omega), if_pos k1]
 ·rw [if_neg (by omega), if_neg k1, zf4 _ _ (by omega), z7]
  by_cases k2 : 60000 - d.1.length < d.2.length
  ·rw [if_pos (by omega), if_pos k2]
  ·rw [if_neg (by omega), if_neg k2]
theorem Ju (s : List UInt8) (h : s.length ≤ 60000) : vp (bytB s) = some (bytB s) := by
 unfold vp
 exact z1i 1 (bytB s) (by rw [ZD]; omega) (by rw [ZD]; omega)
theorem z0x (s t : List UInt8) (h : s.length + t.length ≤ 60000) : YJ [bytB s, bytB t] = some (bytB (s ++ t)) := by
 unfold YJ
 rw [zmi, ← z33]
 refine z4W 1 0 [bytB s, bytB t] (by simp) (by omega) ?_ (by omega)
 rw [z33, List.length_append, ZD, ZD]; omega
theorem zgR (s t : List UInt8) (h : s.length < 4611686018427387904) : Vw (bytB s) (bytB t) = some (decide (s = t)) := by
 unfold Vw
 have := z3J (fun x y : Int => !(neI x y)) (fun x y => by by_cases h : x = y <;> simp [neI, h]) (bytB s) (bytB t) (by rw [ZD]; exact h)
 simp only [notB, Bool.not_not] at this
 rw [this]
 congr 1
 exact decide_eq_decide.2 zsA
theorem zsB (a b : List UInt8 × List UInt8) (h1 : a.1.length < 4611686018427387904) (h2 : a.2.length < 4611686018427387904) : zei (bytB a.1, bytB a.2) (bytB b.1, bytB b.2) = some (decide (a = b)) := by
 unfold zei
 rw [zgR _ _ h1, z7, zgR _ _ h2, z7]
 obtain ⟨a1, a2⟩ := a
 obtain ⟨b1, b2⟩ := b
 by_cases e1 : a1 = b1
 ·by_cases e2 : a2 = b2
  ·simp [e1, e2, Z1]
  ·simp [e1, e2, Z1]
 ·simp [e1, ZB]
theorem ztR (d : List UInt8 × List UInt8) (r : Rc) (h1 : d.1.length < 4611686018427387904) (h2 : d.2.length < 4611686018427387904) (hl : r.2.2.2.length < 4611686018427387904) : vg (bytB d.1, bytB d.2) r = some (bD (dPut d r).1, (dPut d r).2) := by
 unfold vg dPut
 rw [jZ d h1 h2, z7, zl]
 by_cases hc : zN d = 0
 ·have hlen := Yw hc
  rw [if_pos hc, if_pos hc, show Vs (Prod.fst r, Prod.fst (Prod.snd r), Prod.fst (Prod.snd (Prod.snd r)), Prod.snd (Prod.snd (Prod.snd r))) = some (z69 r) from zsy r hl, z7, zl]
  unfold z69
  by_cases hr : zA r = 0
  ·have ht := z3P hr
   simp only [if_pos hr, zb, ZD, zz]
   rw [ZM ⟨by omega, by omega⟩, ZT (a := 60000) ⟨by omega, by omega⟩, ZT ⟨by omega, by omega⟩]
   simp only [if_true]
   by_cases hf : 60000 - (d.1.length : Int) - d.2.length < (yv r).length + 1
   ·rw [if_pos hf, if_pos hf]; rfl
   ·rw [if_neg hf, if_neg hf, Ju _ (by omega), z7, Ju _ (by omega), z7, zy, if_pos (by rw [ZD, ZD]; omega), zy, if_pos (by rw [zY, List.length_append, ZD, ZD]; simp; omega)]
    simp only [zY, bD, Yv, zmi, List.append_assoc]
    rfl
  ·simp only [if_neg hr]; rfl
 ·rw [if_neg hc, if_neg hc]; rfl
theorem zsC (d : List UInt8 × List UInt8) (h1 : d.1.length < 4611686018427387904) (h2 : d.2.length < 4611686018427387904) : YK (bytB d.1, bytB d.2) = some (bD (vI d).1, (vI d).2) := by
 unfold YK vI
 rw [jZ d h1 h2, z7, zl]
 by_cases hc : zN d = 0
 ·have hlen := Yw hc
  rw [if_pos hc, if_pos hc]
  have e2 := jZ (d.1 ++ d.2, []) (by simp; omega) (by simp)
  simp only at e2
  rw [z0x _ _ hlen, z7, show Y5 (bytB (d.1 ++ d.2), []) = some (zN (d.1 ++ d.2, [])) from e2, z7, zl]
  split <;> rfl
 ·rw [if_neg hc, if_neg hc]; rfl
theorem zr6 (d : List UInt8 × List UInt8) (n : Int) (h1 : d.1.length < 4611686018427387904) (h2 : d.2.length < 4611686018427387904) : vz (bytB d.1, bytB d.2) n = some (bD (vA d n).1, (vA d n).2) := by
 unfold vz vA
 rw [jZ d h1 h2, z7, zl]
 by_cases hc : zN d = 0
 ·have hlen := Yw hc
  simp only [if_pos hc, zb, ZD, zz, zh]
  by_cases k1 : n < 0
  ·rw [if_pos k1, if_pos (.inl k1)]; rfl
  ·rw [if_neg k1]
   by_cases k2 : (d.2.length : Int) < n
   ·rw [if_pos k2, if_pos (.inr k2)]; rfl
   ·rw [if_neg k2, if_neg (by omega), Ju _ (by omega), z7, zI, if_pos ⟨by omega, by rw [ZD]; omega⟩, zU, z7w, Ju _ (by rw [List.length_take]; omega)]
    rfl
 ·rw [if_neg hc, if_neg hc]; rfl
theorem z3v (d : List UInt8 × List UInt8) (h1 : d.1.length < 4611686018427387904) (h2 : d.2.length < 4611686018427387904) : ym (bytB d.1, bytB d.2) = some (bD (zp d).1, (zp d).2) := by
 unfold ym zp
 rw [jZ d h1 h2, z7, zl]
 by_cases hc : zN d = 0
 ·have hlen := Yw hc
  have n1 := zdm 60 d.1
  have hm := zt6 (60 - ((lnP 60 d.1).1.length : Int)) d.2
  have n2 := zdm (60 - ((lnP 60 d.1).1.length : Int)) d.2
  rw [if_pos hc, if_pos hc]
  simp only [z1n]
  rw [zf4 _ _ (by omega), z7, zb, ZT ⟨by omega, by omega⟩, zf4 _ _ (by omega), z7, zI, if_pos ⟨hm.1, by rw [ZD]; exact hm.2⟩, zU, z7w, z0x _ _ (by rw [List.length_take]; omega), z7, zy, if_pos (by omega)]
  rfl
 ·rw [if_neg hc, if_neg hc]; rfl
theorem at_some (a b : Int) (hb : 0 < b) (hb2 : b ≤ 4611686018427387904) : ∃ n, z5X a b = some n ∧ 0 ≤ n ∧ n < b := by
 unfold z5X wrem
 rw [ze, if_neg (by omega), zh]
 have h1 := Int.tmod_lt_of_pos a hb
 have h2 : -b < a.tmod b := by
  have := Int.tmod_lt_of_pos (-a) hb
  rw [Int.neg_tmod] at this
  omega
 by_cases h : a.tmod b < 0
 ·rw [if_pos h, ZM ⟨by omega, by omega⟩]
  exact ⟨_, rfl, by omega, by omega⟩
 ·rw [if_neg h]
  exact ⟨_, rfl, by omega, h1⟩
end Go.Proofs.Y
namespace Go.Proofs.Y
open Go.Rb Go.Kx
theorem zjO {L M : List Rc} {t : List UInt8} (hL : ∀ r ∈ L, zA r = 0) (hM : ∀ r ∈ M, zA r = 0) (ht : ∀ x ∈ t, x ≠ 10) (hn : L.length + M.length ≤ 60) (hl : (zE L).length + (zE M ++ t).length ≤ 60000) : zp (zE L, zE M ++ t) = ((zE (L ++ M), []), L ++ M, 0) := by
 have hc := zeo (w := zE M ++ t) hL (by omega) hl
 have h1 := zj3 (most := 60) hL (by omega)
 have h2 := zmd (most := 60 - (L.length : Int)) (t := t) hM (by omega) ht
 unfold zp Jt
 rw [if_pos hc]
 simp only [h1, h2, Int.toNat_natCast, List.take_left, zcJ]
theorem znx (a b : List Rc) (h : a.length + b.length ≤ 60) : z2p [a, b] = some (a ++ b) := by
 unfold z2p
 rw [← z33]
 refine z4W 48 (0, 0, 0, []) [a, b] (by simp) (by omega) ?_ (by omega)
 rw [z33, List.length_append]; omega
theorem z3Q {r : Rc} (h : zA r = 0) : r.2.2.2.length < 4611686018427387904 := by
 obtain ⟨k1, k2, k3, k4⟩ := Yj h
 by_cases hk : r.1 = 1
 ·have := (k3 hk).2.2.1; omega
 ·rw [(k4 hk).1]; decide
end Go.Proofs.Y
namespace Go.Proofs.Y
open Go.Rb Go.Kx
noncomputable def zaC : Code := zj Tryz.f24
noncomputable def zaD : FuncId → Option GS := tabG [(34, Js), (28, Jl), (35, zc1)]
theorem zjP : ΓOK Tryz.prog zaD := z8 (z09) (z8 (z08) (z8 (zg9) (zf)))
def zaE : HT := ⟨tabL [(14, .it [] (dyn [.t 53 (.int .i64)]))], tabH []⟩
abbrev z3g : List IT := [.v (.cons (.sl 95 (.cons (.sl 126 (.cons (.int .i64) (.cons (.int .i64) (.cons (.int .i64) (.one (.sl 4 (.one .bool))))))) (.one (.sl 73 (.cons (.int .i64) (.one (.int .i64))))))) (.cons (.sl 5 (.one (.int .u8))) (.cons (.sl 5 (.one (.int .u8))) (.cons (.bool) (.one (.sl 3 (.one (.int .i64)))))))) true]
abbrev z8W : List OT := [⟨.one (.int .i64), false, []⟩]
set_option maxRecDepth 100000
noncomputable def Yb : List (List (Int × Int × Int × List Bool) × List (Int × Int)) × List Int × List Int × Bool × List Int → Option Int := fun a => z6 (ym (a.2.1, a.2.2.1)) fun y => ifB (neI y.2.2 0) (some y.2.2) (ifB a.2.2.2.1 (ifB (gtI (lenI a.2.2.1) 0) (some 4) (ifB (notB a.2.2.2.1) (z6 (yb []) fun y => ifB (neI y.2 0) (some y.2) (z6 (Ys y.1 a.1) fun y => ifB (notB y) (some 4) (ifB (neI (lenI a.2.2.2.2) 3) (some 4) (zi maxR (fun (x : Int) => ifB (ltI x (lenI a.2.2.2.2)) (z6 (atI a.2.2.2.2 x) fun y => ifB (ltI y (-1)) (mapO Sum.inr (some 3)) (ifB (gtI y 0) (mapO Sum.inr (some 3)) (ifB (notB a.2.2.2.1) (ifB (neI y (-1)) (mapO Sum.inr (some 3)) (some (Sum.inl (wadd .i64 x 1)))) (some (Sum.inl (wadd .i64 x 1)))))) (mapO Sum.inr (some 0))) 0)))) (z6 (yb y.2.1) fun y_1 => ifB (neI y_1.2 0) (some y_1.2) (z6 (Ys y_1.1 a.1) fun y_2 => ifB (notB y_2) (some 4) (ifB (neI (lenI a.2.2.2.2) 3) (some 4) (zi maxR (fun (x : Int) => ifB (ltI x (lenI a.2.2.2.2)) (z6 (atI a.2.2.2.2 x) fun y_3 => ifB (ltI y_3 (-1)) (mapO Sum.inr (some 3)) (ifB (gtI y_3 (lenI y.2.1)) (mapO Sum.inr (some 3)) (ifB (notB a.2.2.2.1) (ifB (neI y_3 (-1)) (mapO Sum.inr (some 3)) (some (Sum.inl (wadd .i64 x 1)))) (some (Sum.inl (wadd .i64 x 1)))))) (mapO Sum.inr (some 0))) 0)))))) (ifB (notB a.2.2.2.1) (z6 (yb []) fun y => ifB (neI y.2 0) (some y.2) (z6 (Ys y.1 a.1) fun y => ifB (notB y) (some 4) (ifB (neI (lenI a.2.2.2.2) 3) (some 4) (zi maxR (fun (x : Int) => ifB (ltI x (lenI a.2.2.2.2)) (z6 (atI a.2.2.2.2 x) fun y => ifB (ltI y (-1)) (mapO Sum.inr (some 3)) (ifB (gtI y 0) (mapO Sum.inr (some 3)) (ifB (notB a.2.2.2.1) (ifB (neI y (-1)) (mapO Sum.inr (some 3)) (some (Sum.inl (wadd .i64 x 1)))) (some (Sum.inl (wadd .i64 x 1)))))) (mapO Sum.inr (some 0))) 0)))) (z6 (yb y.2.1) fun y_1 => ifB (neI y_1.2 0) (some y_1.2) (z6 (Ys y_1.1 a.1) fun y_2 => ifB (notB y_2) (some 4) (ifB (neI (lenI a.2.2.2.2) 3) (some 4) (zi maxR (fun (x : Int) => ifB (ltI x (lenI a.2.2.2.2)) (z6 (atI a.2.2.2.2 x) fun y_3 => ifB (ltI y_3 (-1)) (mapO Sum.inr (some 3)) (ifB (gtI y_3 (lenI y.2.1)) (mapO Sum.inr (some 3)) (ifB (notB a.2.2.2.1) (ifB (neI y_3 (-1)) (mapO Sum.inr (some 3)) (some (Sum.inl (wadd .i64 x 1)))) (some (Sum.inl (wadd .i64 x 1)))))) (mapO Sum.inr (some 0))) 0))))))
theorem zf5 (x : PI z3g) : Yb x = fnE T zaD zaE zaC (zo Tryz.f24) z3g z8W x := by kernel_rfl
noncomputable abbrev z4k : GS := zq false z3g z8W fun x => Yb x
theorem z6b : GSOK Tryz.prog 24 z4k := zm tok zjP fmo (Ht := zaE) (fn := Tryz.f24) (Tryz.func24) (c := zaC) (by kernel_rfl) (by kernel_rfl) (by kernel_rfl) (by decide +kernel) (by decide) zf5
end Go.Proofs.Y
namespace Go.Proofs.Y
open Go.Rb Go.Kx
noncomputable def zj5 : Code := zj Tryz.f107
noncomputable def zj6 : FuncId → Option GS := tabG [(137, z11), (138, z6Z), (139, z5B), (140, z5M)]
theorem zr7 : ΓOK Tryz.prog zj6 := z8 (jI) (z8 (z5D) (z8 (z3r) (z8 (z77) (zf))))
def zj7 : HT := ⟨tabL [(3, .unroll 5), (7, .it [] (dyn [.t 33 (.int .i64), .b 29 0 126 (.cons (.int .i64) (.cons (.int .i64) (.cons (.int .i64) (.one (.sl 4 (.one .bool))))))]))], tabH [(2, [.expl 1 0]), (12, [.frzq 1 0 0, .frzq 1 0 1, .frzq 1 0 2, .frzq 1 0 3, .frzq 1 0 4, .frzq 1 0 5, .frzq 1 0 6, .frzq 1 0 7, .pack 1 0 (.cons (.sl 126 (.cons (.int .i64) (.cons (.int .i64) (.cons (.int .i64) (.one (.sl 4 (.one .bool))))))) (.one (.sl 73 (.cons (.int .i64) (.one (.int .i64))))))])]⟩
abbrev z9L : List IT := [.v (.one (.sl 95 (.cons (.sl 126 (.cons (.int .i64) (.cons (.int .i64) (.cons (.int .i64) (.one (.sl 4 (.one .bool))))))) (.one (.sl 73 (.cons (.int .i64) (.one (.int .i64)))))))) true]
abbrev zgS : List OT := [⟨.one (.sl 95 (.cons (.sl 126 (.cons (.int .i64) (.cons (.int .i64) (.cons (.int .i64) (.one (.sl 4 (.one .bool))))))) (.one (.sl 73 (.cons (.int .i64) (.one (.int .i64))))))), true, []⟩]
set_option maxRecDepth 100000
noncomputable def z3R : List (List (Int × Int × Int × List Bool) × List (Int × Int)) → Option (List (List (Int × Int × Int × List Bool) × List (Int × Int))) := fun a => z6 (Yz a) fun y => z6 (four y) fun (y : (List (Int × Int × Int × List Bool) × List (Int × Int)) × (List (Int × Int × Int × List Bool) × List (Int × Int)) × (List (Int × Int × Int × List Bool) × List (Int × Int)) × List (Int × Int × Int × List Bool) × List (Int × Int)) => z6 (Ze y.1.1) fun y_1 => z6 (Zq y.1.2) fun y_2 => zi maxR (fun (x : Int × List (Int × Int × Int × List Bool)) => ifB (ltI x.1 (lenI y.1.1)) (z6 (atI y.1.1 x.1) fun y => z6 (zT (y.1, y.2.1, y.2.2.1, y.2.2.2)) fun y => ifB (ltL x.1 x.2) (z6 (atN x.2 (natI x.1)) fun y_3 => some (Sum.inl (wadd .i64 x.1 1, setN x.2 (natI x.1) (y.1, y.2.1, y.2.2.1, y.2.2.2)))) none) (mapO Sum.inr (z6 (Ze y.2.1.1) fun y_3 => z6 (Zq y.2.1.2) fun y_4 => zi maxR (fun (x_1 : Int × List (Int × Int × Int × List Bool)) => ifB (ltI x_1.1 (lenI y.2.1.1)) (z6 (atI y.2.1.1 x_1.1) fun y => z6 (zT (y.1, y.2.1, y.2.2.1, y.2.2.2)) fun y => ifB (ltL x_1.1 x_1.2) (z6 (atN x_1.2 (natI x_1.1)) fun y_5 => some (Sum.inl (wadd .i64 x_1.1 1, setN x_1.2 (natI x_1.1) (y.1, y.2.1, y.2.2.1, y.2.2.2)))) none) (mapO Sum.inr (z6 (Ze y.2.2.1.1) fun y_5 => z6 (Zq y.2.2.1.2) fun y_6 => zi maxR (fun (x_2 : Int × List (Int × Int × Int × List Bool)) => ifB (ltI x_2.1 (lenI y.2.2.1.1)) (z6 (atI y.2.2.1.1 x_2.1) fun y => z6 (zT (y.1, y.2.1, y.2.2.1, y.2.2.2)) fun y => ifB (ltL x_2.1 x_2.2) (z6 (atN x_2.2 (natI x_2.1)) fun y_7 => some (Sum.inl (wadd .i64 x_2.1 1, setN x_2.2 (natI x_2.1) (y.1, y.2.1, y.2.2.1, y.2.2.2)))) none) (mapO Sum.inr (z6 (Ze y.2.2.2.1) fun y_7 => z6 (Zq y.2.2.2.2) fun y_8 => zi maxR (fun (x_3 : Int × List (Int × Int × Int × List Bool)) => ifB (ltI x_3.1 (lenI y.2.2.2.1)) (z6 (atI y.2.2.2.1 x_3.1) fun y => z6 (zT (y.1, y.2.1, y.2.2.1, y.2.2.2)) fun y => ifB (ltL x_3.1 x_3.2) (z6 (atN x_3.2 (natI x_3.1)) fun y_9 => some (Sum.inl (wadd .i64 x_3.1 1, setN x_3.2 (natI x_3.1) (y.1, y.2.1, y.2.2.1, y.2.2.2)))) none) (mapO Sum.inr (some [(x.2, y_2), (x_1.2, y_4), (x_2.2, y_6), (x_3.2, y_8)]))) (0, y_7)))) (0, y_5)))) (0, y_3)))) (0, y_1)
theorem zmj (x : PI z9L) : z3R x = fnE T zj6 zj7 zj5 (zo Tryz.f107) z9L zgS x := by kernel_rfl
noncomputable abbrev zj8 : GS := zq false z9L zgS fun x => z3R x
theorem zmk : GSOK Tryz.prog 107 zj8 := zm tok zr7 fmo (Ht := zj7) (fn := Tryz.f107) (Tryz.func107) (c := zj5) (by kernel_rfl) (by kernel_rfl) (by kernel_rfl) (by decide +kernel) (by decide) zmj
end Go.Proofs.Y
namespace Go.Proofs.Y
open Go.Rb Go.Kx
noncomputable def zml : Code := zj Tryz.f69
noncomputable def zmm : FuncId → Option GS := tabG []
theorem zsD : ΓOK Tryz.prog zmm := zf
def zmn : HT := ⟨tabL [], tabH []⟩
abbrev zcK : List IT := [.v (.one (.sl 3 (.one (.int .i64)))) false]
abbrev zj9 : List OT := [⟨.one (.sl 3 (.one (.int .i64))), false, [true]⟩]
set_option maxRecDepth 100000
noncomputable def z3h : List Int → Option (List Int) := fun a => ifB (isE a) (ambO (some []) (ifB (zg 8 [] a) (some (cat [] a)) none)) (ifB (zg 8 [] a) (some (cat [] a)) none)
theorem zny (x : PI zcK) : z3h x = fnE T zmm zmn zml (zo Tryz.f69) zcK zj9 x := by kernel_rfl
noncomputable abbrev zf6 : GS := zq false zcK zj9 fun x => z3h x
theorem zep : GSOK Tryz.prog 69 zf6 := zm tok zsD fmo (Ht := zmn) (fn := Tryz.f69) (Tryz.func69) (c := zml) (by kernel_rfl) (by kernel_rfl) (by kernel_rfl) (by decide +kernel) (by decide) zny
end Go.Proofs.Y
namespace Go.Proofs.Y
open Go.Rb Go.Kx
noncomputable def zcL : Code := zj Tryz.f60
noncomputable def zcM : FuncId → Option GS := tabG [(107, zj8), (69, zf6), (86, z7p)]
theorem zmo : ΓOK Tryz.prog zcM := z8 (zmk) (z8 (zep) (z8 (z64) (zf)))
def zcN : HT := ⟨tabL [], tabH []⟩
abbrev z4l : List IT := [.v (.cons (.sl 95 (.cons (.sl 126 (.cons (.int .i64) (.cons (.int .i64) (.cons (.int .i64) (.one (.sl 4 (.one .bool))))))) (.one (.sl 73 (.cons (.int .i64) (.one (.int .i64))))))) (.cons (.sl 5 (.one (.int .u8))) (.cons (.sl 5 (.one (.int .u8))) (.cons (.bool) (.one (.sl 3 (.one (.int .i64)))))))) true]
abbrev zaF : List OT := [⟨.cons (.sl 95 (.cons (.sl 126 (.cons (.int .i64) (.cons (.int .i64) (.cons (.int .i64) (.one (.sl 4 (.one .bool))))))) (.one (.sl 73 (.cons (.int .i64) (.one (.int .i64))))))) (.cons (.sl 5 (.one (.int .u8))) (.cons (.sl 5 (.one (.int .u8))) (.cons (.bool) (.one (.sl 3 (.one (.int .i64))))))), true, [false, false, false, false, true]⟩]
set_option maxRecDepth 100000
noncomputable def Y6 : List (List (Int × Int × Int × List Bool) × List (Int × Int)) × List Int × List Int × Bool × List Int → Option (List (List (Int × Int × Int × List Bool) × List (Int × Int)) × List Int × List Int × Bool × List Int) := fun a => z6 (z3R a.1) fun y => z6 (z3h a.2.2.2.2) fun y_1 => z6 (vp a.2.1) fun y_2 => z6 (vp a.2.2.1) fun y_3 => some (y, y_2, y_3, a.2.2.2.1, y_1)
theorem zgT (x : PI z4l) : Y6 x = fnE T zcM zcN zcL (zo Tryz.f60) z4l zaF x := by kernel_rfl
noncomputable abbrev zcO : GS := zq false z4l zaF fun x => Y6 x
theorem zgU : GSOK Tryz.prog 60 zcO := zm tok zmo fmo (Ht := zcN) (fn := Tryz.f60) (Tryz.func60) (c := zcL) (by kernel_rfl) (by kernel_rfl) (by kernel_rfl) (by decide +kernel) (by decide) zgT
end Go.Proofs.Y
namespace Go.Proofs.Y
open Go.Rb Go.Kx
noncomputable def z4z : Code := zj Tryz.f166
noncomputable def z4A : FuncId → Option GS := tabG []
theorem zdt : ΓOK Tryz.prog z4A := zf
def z4B : HT := ⟨tabL [], tabH []⟩
noncomputable def z4C : GS := inl T z4A z4B z4z (zo Tryz.f166) (Tryz.f166.ntmps)
theorem z9M : GSOK Tryz.prog 166 z4C := yR tok zdt fmo (Ht := z4B) (fn := Tryz.f166) (Tryz.func166) (c := z4z) (by kernel_rfl) (by kernel_rfl) (by kernel_rfl)
end Go.Proofs.Y
namespace Go.Proofs.Y
open Go.Rb Go.Kx
noncomputable def z4D : Code := zj Tryz.f167
noncomputable def z4E : FuncId → Option GS := tabG []
theorem zdu : ΓOK Tryz.prog z4E := zf
def z4F : HT := ⟨tabL [], tabH []⟩
noncomputable def z4G : GS := inl T z4E z4F z4D (zo Tryz.f167) (Tryz.f167.ntmps)
theorem z9N : GSOK Tryz.prog 167 z4G := yR tok zdu fmo (Ht := z4F) (fn := Tryz.f167) (Tryz.func167) (c := z4D) (by kernel_rfl) (by kernel_rfl) (by kernel_rfl)
end Go.Proofs.Y
namespace Go.Proofs.Y
open Go.Rb Go.Kx
noncomputable def z7x : Code := zj Tryz.f144
noncomputable def z7y : FuncId → Option GS := tabG [(166, z4C), (167, z4G)]
theorem zgV : ΓOK Tryz.prog z7y := z8 (z9M) (z8 (z9N) (zf))
def z7z : HT := ⟨tabL [], tabH []⟩
noncomputable def z7A : GS := inl T z7y z7z z7x (zo Tryz.f144) (Tryz.f144.ntmps)
theorem zcP : GSOK Tryz.prog 144 z7A := yR tok zgV fmo (Ht := z7z) (fn := Tryz.f144) (Tryz.func144) (c := z7x) (by kernel_rfl) (by kernel_rfl) (by kernel_rfl)
end Go.Proofs.Y
namespace Go.Proofs.Y
open Go.Rb Go.Kx
noncomputable def zja : Code := zj Tryz.f113
noncomputable def zjb : FuncId → Option GS := tabG [(144, z7A)]
theorem zr8 : ΓOK Tryz.prog zjb := z8 (zcP) (zf)
def zjc : HT := ⟨tabL [(8, .unroll 4)], tabH []⟩
noncomputable def zjd : GS := inl T zjb zjc zja (zo Tryz.f113) (Tryz.f113.ntmps)
theorem zmp : GSOK Tryz.prog 113 zjd := yR tok zr8 fmo (Ht := zjc) (fn := Tryz.f113) (Tryz.func113) (c := zja) (by kernel_rfl) (by kernel_rfl) (by kernel_rfl)
end Go.Proofs.Y
namespace Go.Proofs.Y
open Go.Rb Go.Kx
noncomputable def z8X : Code := zj Tryz.f76
noncomputable def z8Y : FuncId → Option GS := tabG [(113, zjd)]
theorem zhJ : ΓOK Tryz.prog z8Y := z8 (zmp) (zf)
def z8Z : HT := ⟨tabL [], tabH []⟩
abbrev z2s : List IT := []
abbrev z7B : List OT := [⟨.one (.sl 3 (.one (.int .i64))), false, [true]⟩]
set_option maxRecDepth 100000
noncomputable def yQ : Option (List Int) := some [-1, -1, -1]
theorem zdv (x : PI z2s) : yQ  = fnE T z8Y z8Z z8X (zo Tryz.f76) z2s z7B x := by kernel_rfl
noncomputable abbrev Jv : GS := zq false z2s z7B fun x => yQ 
theorem z0a : GSOK Tryz.prog 76 Jv := zm tok zhJ fmo (Ht := z8Z) (fn := Tryz.f76) (Tryz.func76) (c := z8X) (by kernel_rfl) (by kernel_rfl) (by kernel_rfl) (by decide +kernel) (by decide) zdv
end Go.Proofs.Y
namespace Go.Proofs.Y
open Go.Rb Go.Kx
noncomputable def zeq : Code := zj Tryz.f26
noncomputable def zer : FuncId → Option GS := tabG [(75, z0t), (76, Jv)]
theorem znz : ΓOK Tryz.prog zer := z8 (Jk) (z8 (z0a) (zf))
def zes : HT := ⟨tabL [], tabH []⟩
abbrev z6c : List IT := []
abbrev zcQ : List OT := [⟨.cons (.sl 95 (.cons (.sl 126 (.cons (.int .i64) (.cons (.int .i64) (.cons (.int .i64) (.one (.sl 4 (.one .bool))))))) (.one (.sl 73 (.cons (.int .i64) (.one (.int .i64))))))) (.cons (.sl 5 (.one (.int .u8))) (.cons (.sl 5 (.one (.int .u8))) (.cons (.bool) (.one (.sl 3 (.one (.int .i64))))))), true, []⟩]
set_option maxRecDepth 100000
noncomputable def z0y : Option (List (List (Int × Int × Int × List Bool) × List (Int × Int)) × List Int × List Int × Bool × List Int) :=  z6 Y4 fun y => z6 yQ fun y_1 => some (y, [], [], true, y_1)
theorem zhK (x : PI z6c) : z0y  = fnE T zer zes zeq (zo Tryz.f26) z6c zcQ x := by kernel_rfl
noncomputable abbrev zet : GS := zq false z6c zcQ fun x => z0y 
theorem zhL : GSOK Tryz.prog 26 zet := zm tok znz fmo (Ht := zes) (fn := Tryz.f26) (Tryz.func26) (c := zeq) (by kernel_rfl) (by kernel_rfl) (by kernel_rfl) (by decide +kernel) (by decide) zhK
end Go.Proofs.Y
namespace Go.Proofs.Y
open Go.Rb Go.Kx
abbrev Wv := Shf × List Int × List Int × Bool × List Int
def wv (s : Shf) (d : List UInt8 × List UInt8) (up : Bool) (rd : List Int) : Wv := (s, bytB d.1, bytB d.2, up, rd)
def rdE (n : Int) (up : Bool) : List Int → Int
 | [] => 0
 | v :: r => if v < -1 ∨ n < v ∨ (up = false ∧ ¬ v = -1) then 3 else rdE n up r
def chkL (s : Shf) (l : List Rc) (up : Bool) (rd : List Int) : Int :=
 if (zF l).2 = 0 then (if (zF l).1 = s then (if rd.length = 3 then rdE l.length up rd else 4) else 4) else (zF l).2
def chkW (s : Shf) (d : List UInt8 × List UInt8) (up : Bool) (rd : List Int) : Int :=
 if (zp d).2.2 = 0 then (if up = true then (if 0 < d.2.length then 4 else chkL s (zp d).2.1 up rd) else chkL s [] up rd) else (zp d).2.2
theorem zuH (rd : List Int) (n : Int) (up : Bool) (hl : rd.length < 4611686018427387904) :
  zi maxR (fun (x : Int) => ifB (ltI x (lenI rd)) (z6 (atI rd x) fun (y : Int) => ifB (ltI y (-1)) (mapO Sum.inr (some 3)) (ifB (gtI y n) (mapO Sum.inr (some 3)) (ifB (notB up) (ifB (neI y (-1)) (mapO Sum.inr (some 3)) (some (Sum.inl (wadd IntKind.i64 x 1)))) (some (Sum.inl (wadd IntKind.i64 x 1)))))) (mapO Sum.inr (some 0))) 0 = some (rdE n up rd) := by
 refine zP rd (fun j (_ : Unit) => (j : Int)) (G := fun rest _ => some (rdE n up rest)) (P := fun _ _ => True) (s0 := ()) ?_ ?_ trivial (by omega)
 ·rintro j _ hj _ k hk
  have hat := zO hj
  generalize rd.getD j default = v at *
  simp only [za, zx, zd, zt]
  rw [zh, zb, if_pos (by omega), hat, z7, zh, zz, zC, zl, zD (by omega), hk () trivial, rdE]
  cases up with
  | true =>
   rw [Z1]
   by_cases c : v < -1 ∨ n < v ∨ (true = false ∧ ¬ v = -1)
   ·rw [if_pos c]
    by_cases c1 : v < -1
    ·rw [if_pos c1]
    ·rw [if_neg c1, if_pos (by rcases c with c | c | c; exact absurd c c1; exact c; cases c.1)]
   ·rw [if_neg c, if_neg (fun h => c (.inl h)), if_neg (fun h => c (.inr (.inl h)))]
  | false =>
   rw [ZB]
   by_cases c : v < -1 ∨ n < v ∨ (false = false ∧ ¬ v = -1)
   ·rw [if_pos c]
    by_cases c1 : v < -1
    ·rw [if_pos c1]
    ·rw [if_neg c1]
     by_cases c2 : n < v
     ·rw [if_pos c2]
     ·rw [if_neg c2, if_neg (by rcases c with c | c | c; exact absurd c c1; exact absurd c c2; exact c.2)]
   ·rw [if_neg c, if_neg (fun h => c (.inl h)), if_neg (fun h => c (.inr (.inl h))), if_pos (Classical.byContradiction fun h => c (.inr (.inr ⟨rfl, h⟩)))]
 ·rintro _ _ k
  simp only [za, zd]
  rw [zh, zb, if_neg (by omega)]; rfl
theorem zf7 (d : List UInt8 × List UInt8) (h : (zp d).2.2 = 0) : (zp d).2.1.length ≤ 60002 := by
 unfold zp at h ⊢
 split at h
 ·rename_i hc
  rw [if_pos hc]
  have hl := Yw hc
  have n1 := zdm 60 d.1
  have n2 := zdm (60 - ((lnP 60 d.1).1.length : Int)) d.2
  simp only [List.length_append, Jt]; omega
 ·rename_i hc; exact absurd h hc
theorem zhM (most all : Int) : ∀ (ws : List (List UInt8)) (acc : List Rc), (∀ r ∈ acc, zA r = 0) → ∀ r ∈ (lnW most all ws acc).1, zA r = 0
 | [], acc, h => h
 | w :: ws, acc, h => by
  rw [lnW]
  split
  ·split
   ·exact h
   ·exact h
  ·split
   ·rename_i hp
    split
    ·exact h
    ·exact zhM most all ws _ fun r hr => by
      rcases List.mem_append.1 hr with hr | hr
      ·exact h r hr
      ·rw [List.mem_singleton.1 hr]; exact (zj2 hp).1
   ·exact h
theorem zdn (d : List UInt8 × List UInt8) : ∀ r ∈ (zp d).2.1, zA r = 0 := by
 unfold zp
 split
 ·intro r hr
  rcases List.mem_append.1 hr with hr | hr
  ·exact zhM _ _ _ [] (by simp) r hr
  ·exact zhM _ _ _ [] (by simp) r hr
 ·intro r hr; cases hr
theorem zaG (s : Shf) (d : List UInt8 × List UInt8) (up : Bool) (rd : List Int) (h1 : d.1.length < 4611686018427387904) (h2 : d.2.length < 4611686018427387904) (hrd : rd.length < 4611686018427387904) : Yb (wv s d up rd) = some (chkW s d up rd) := by
 unfold Yb chkW
 simp only [wv]
 rw [z3v d h1 h2, z7]
 simp only
 rw [zl]
 by_cases hr : (zp d).2.2 = 0
 ·have hn := zf7 d hr
  have hok := zdn d
  rw [if_pos hr, if_pos hr]
  have tailL : ∀ l : List Rc, l.length < 4611686018427387904 → (∀ r ∈ l, r.2.2.2.length < 4611686018427387904) → (z6 (yb l) fun (y_1 : List (List (Int × Int × Int × List Bool) × List (Int × Int)) × Int) =>
    ifB (neI (Prod.snd y_1) 0) (some (Prod.snd y_1)) (z6 (Ys (Prod.fst y_1) s) fun (y_2 : Bool) => ifB (notB y_2) (some 4) (ifB (neI (lenI rd) 3) (some 4)
     (zi maxR (fun (x : Int) => ifB (ltI x (lenI rd)) (z6 (atI rd x) fun (y_3 : Int) => ifB (ltI y_3 (-1)) (mapO Sum.inr (some 3)) (ifB (gtI y_3 (lenI l)) (mapO Sum.inr (some 3)) (ifB (notB up) (ifB (neI y_3 (-1)) (mapO Sum.inr (some 3)) (some (Sum.inl (wadd IntKind.i64 x 1)))) (some (Sum.inl (wadd IntKind.i64 x 1)))))) (mapO Sum.inr (some 0))) 0)))) = some (chkL s l up rd) := by
   intro l hl he
   unfold chkL
   rw [zci l hl he, z7, zl, zuH rd (lenI l) up hrd]
   by_cases c : (zF l).2 = 0
   ·rw [if_pos c, if_pos c, zlO _ _ (z7Z l), z7, zC, zQ, zl, zb, zb]
    by_cases c2 : (zF l).1 = s
    ·rw [if_pos c2, if_pos c2]
     by_cases c3 : rd.length = 3
     ·rw [if_pos (by omega), if_pos c3]
     ·rw [if_neg (by omega), if_neg c3]
    ·rw [if_neg c2, if_neg c2]
   ·rw [if_neg c, if_neg c]
  have t1 := tailL (zp d).2.1 (by omega) fun r hr => z3Q (hok r hr)
  have t0 := tailL [] (by decide) (by simp)
  simp only [show lenI ([] : List Rc) = 0 from rfl] at t0
  rw [t1, t0]
  cases up with
  | true =>
   rw [Z1, if_pos rfl, zz, zb, ZD]
   simp only [notB, Bool.not_true]
   rw [ZB]
   by_cases c : 0 < d.2.length
   ·rw [if_pos (by omega), if_pos c]
   ·rw [if_neg (by omega), if_neg c]
  | false =>
   rw [ZB]
   simp only [notB, Bool.not_false]
   rw [Z1, if_neg (by decide)]
 ·rw [if_neg hr, if_neg hr]
theorem zpD (s : Shf) (hc : chkS s = 0) : z3R s = some s := by
 obtain ⟨h4, hr⟩ := chkS_zero.1 hc
 obtain ⟨r0, r1, r2, r3, rfl⟩ := len4 h4
 simp only [List.mem_cons, List.not_mem_nil, or_false, forall_eq_or_imp, forall_eq] at hr
 obtain ⟨a0, a1, a2, a3⟩ := hr
 have b0 := (Zm a0).1; have b1 := (Zm a1).1; have b2 := (Zm a2).1; have b3 := (Zm a3).1
 unfold z3R
 exact zgk r0 r1 r2 r3 (yk a0) (yk a1) (yk a2) (yk a3) b0 b1 b2 b3 (fun y_2 y_4 y_6 y_8 x x_1 x_2 x_3 => some [(Prod.snd x, y_2), (Prod.snd x_1, y_4), (Prod.snd x_2, y_6), (Prod.snd x_3, y_8)])
theorem zje {a : List Int} (h : a.length ≤ 1000000000) : z3h a = some a := z1i 8 a (by omega) (by omega)
theorem zcR (s : Shf) (d : List UInt8 × List UInt8) (up : Bool) (rd : List Int) (hc : chkS s = 0) (hd : d.1.length + d.2.length ≤ 60000) (hrd : rd.length = 3) : Y6 (wv s d up rd) = some (wv s d up rd) := by
 unfold Y6
 simp only [wv]
 rw [zpD s hc, z7, zje (by omega), z7, Ju _ (by omega), z7, Ju _ (by omega)]
 rfl
end Go.Proofs.Y
namespace Go.Proofs.Y
open Go.Rb Go.Kx
noncomputable def zmq : Code := zj Tryz.f108
noncomputable def zmr : FuncId → Option GS := tabG [(31, z5Q), (32, zgM), (141, zcB), (75, z0t), (76, Jv), (33, zem)]
theorem zsE : ΓOK Tryz.prog zmr := z8 (z7a) (z8 (zjN) (z8 (zgG) (z8 (Jk) (z8 (z0a) (z8 (zhG) (zf))))))
def zms : HT := ⟨tabL [], tabH []⟩
noncomputable def zmt : GS := inl T zmr zms zmq (zo Tryz.f108) (Tryz.f108.ntmps)
theorem znA : GSOK Tryz.prog 108 zmt := yR tok zsE fmo (Ht := zms) (fn := Tryz.f108) (Tryz.func108) (c := zmq) (by kernel_rfl) (by kernel_rfl) (by kernel_rfl)
end Go.Proofs.Y
namespace Go.Proofs.Y
open Go.Rb Go.Kx
noncomputable def zjf : Code := zj Tryz.f61
noncomputable def zjg : FuncId → Option GS := tabG [(34, Js), (75, z0t), (76, Jv), (28, Jl), (108, zmt)]
theorem zr9 : ΓOK Tryz.prog zjg := z8 (z09) (z8 (Jk) (z8 (z0a) (z8 (z08) (z8 (znA) (zf)))))
def zjh : HT := ⟨tabL [], tabH []⟩
noncomputable def zji : GS := inl T zjg zjh zjf (zo Tryz.f61) (Tryz.f61.ntmps)
theorem zmu : GSOK Tryz.prog 61 zji := yR tok zr9 fmo (Ht := zjh) (fn := Tryz.f61) (Tryz.func61) (c := zjf) (by kernel_rfl) (by kernel_rfl) (by kernel_rfl)
end Go.Proofs.Y
namespace Go.Proofs.Y
open Go.Rb Go.Kx
set_option maxRecDepth 100000
end Go.Proofs.Y
