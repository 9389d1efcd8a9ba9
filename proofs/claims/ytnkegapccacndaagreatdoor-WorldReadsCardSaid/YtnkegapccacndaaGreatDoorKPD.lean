/-
  What is proved, part by part: what note.Parse comes to. what disk.lines comes to. what disk.Check comes to. what disk.Crash comes to. what note.Print comes to. what disk.Put comes to. what disk.Recover comes to. what slices.Equal[[]byte,byte] comes to. what disk.Same comes to. what disk.Sync comes to. texts as words between one and the same byte; numerals read back. a record as a text, and read back, as plain functions; the one undoes the other. a disk's text as lines of records, as plain functions; whole lines are read back, a torn one is left. records checked, printed, read back by the program: what its functions come to, in plain words. a text read by the program, and the law of notes: what its functions come to, in plain words. disks: what the program's functions come to, in plain words. what a disk keeps: the law's function is always true, in plain words. what world.Check comes to. what shelf.Copy comes to. what slices.Clone[[]int,int] comes to. what world.Copy comes to. what math/bits.Mul32 comes to. what math/bits.Mul64 comes to. what math/bits.Mul comes to. what slices.Repeat[[]int,int] comes to. what world.closed comes to. what world.New comes to. worlds: checked and copied: what the program's functions come to, in plain words. what world.write comes to. what world.happen comes to. what world.Do comes to. Conditions: none.
-/
import Derived.Test.YtnkegapccacndaaGreatDoorKPA
import Derived.Test.YtnkegapccacndaaGreatDoorKPC
import Derived.Test.YtnkegapccacndaaGreatDoorKPB
import Derived.Lib.CountLaws
import Derived.Lib.AtoiAllCases
import Derived.Lib.ParseIntBTie
import Derived.Lib.ItoaMem
import Derived.Lib.ItoaLen
import Derived.Lib.Split
import Derived.Lib.IndexBytes
set_option linter.unusedVariables false
set_option linter.unusedSimpArgs false
set_option linter.unnecessarySimpa false
set_option maxRecDepth 4000
namespace Go.Proofs.Y
open Go.Rb Go.Kx
noncomputable def zav : Code := zj Tryz.f123
noncomputable def zaw : FuncId → Option GS := tabG [(150, zlM), (119, z4z), (151, zjI), (152, zoc), (120, zjJ), (79, z0N)]
theorem zjK : ΓOK Tryz.prog zaw := z8 (zmP) (z8 (z5P) (z8 (zkR) (z8 (zod) (z8 (zgG) (z8 (z0O) (zg))))))
def zax : HT := ⟨tabL [(7, .it [] (dyn [.a 6 3 (.one (.int .i64)), .t 28 (.int .i64), .c 2 0 (.int .i64), .c 2 1 (.int .i64), .c 2 2 (.int .i64), .c 2 3 (.sl 77 (.cons (.int .i64) (.cons (.int .i64) (.one (.int .i64)))))])), (17, .it [] (dyn [.t 11 (.int .i64), .b 5 3 77 (.cons (.int .i64) (.cons (.int .i64) (.one (.int .i64))))]))], tabH []⟩
abbrev z2O : List IT := [.v (.one .str) false]
abbrev z8I : List OT := [⟨.cons (.int .i64) (.cons (.int .i64) (.cons (.int .i64) (.one (.sl 77 (.cons (.int .i64) (.cons (.int .i64) (.one (.int .i64)))))))), true, []⟩, ⟨.one (.int .i64), false, []⟩]
set_option maxRecDepth 100000
noncomputable def V1 : List UInt8 → Option ((Int × Int × Int × List (Int × Int × Int)) × Int) := fun a => ifB (gtI (lenI a) 60000) (some ((0, 0, 0, []), 2)) (z6 (z3P a [32]) fun y => z6 v8 fun y_1 => z6 (atI y 0) fun y_2 => z6 (z4A y_1 y_2) fun y_3 => ifB (in1 y 1) (zi maxR (fun (x : Int × Int × Int × Int × List (Int × Int × Int) × List Int) => ifB (ltI x.1 (lenI (yh y 1))) (z6 (atI (yh y 1) x.1) fun y => z6 (z7n y) fun y_4 => ifB y_4.2 (mapO Sum.inr (some ((0, 0, 0, []), 1))) (z6 (jw y_4.1) fun y_5 => ifB (notB (eqS y_5 y)) (mapO Sum.inr (some ((0, 0, 0, []), 1))) (ifB (zf 8 x.2.2.2.2.2 [y_4.1]) (some (Sum.inl (wadd .i64 x.1 1, x.2.1, x.2.2.1, x.2.2.2.1, x.2.2.2.2.1, cat x.2.2.2.2.2 [y_4.1]))) none))) (mapO Sum.inr (ifB (eqI y_3 1) (ifB (eqI (wrem (lenI x.2.2.2.2.2) 3) 0) (zi maxR (fun (x_1 : Int × List (Int × Int × Int)) => ifB (ltI x_1.1 (lenI x.2.2.2.2.2)) (ifB (ltL x_1.1 x.2.2.2.2.2) (z6 (atN x.2.2.2.2.2 (natI x_1.1)) fun y => ifB (ltL (wadd .i64 x_1.1 1) x.2.2.2.2.2) (z6 (atN x.2.2.2.2.2 (natI (wadd .i64 x_1.1 1))) fun y_4 => ifB (ltL (wadd .i64 x_1.1 2) x.2.2.2.2.2) (z6 (atN x.2.2.2.2.2 (natI (wadd .i64 x_1.1 2))) fun y_5 => ifB (zf 24 x_1.2 [(y, y_4, y_5)]) (some (Sum.inl (wadd .i64 x_1.1 3, cat x_1.2 [(y, y_4, y_5)]))) none) none) none) none) (mapO Sum.inr (z6 (Zf (y_3, 0, 0, x_1.2)) fun y => ifB (neI y 0) (some ((0, 0, 0, []), y)) (some ((y_3, 0, 0, x_1.2), 0))))) (0, [])) (ifB (eqI y_3 2) (ifB (eqI (lenI x.2.2.2.2.2) 2) (ifB (ltL 0 x.2.2.2.2.2) (z6 (atN x.2.2.2.2.2 (natI 0)) fun y => ifB (ltL 1 x.2.2.2.2.2) (z6 (atN x.2.2.2.2.2 (natI 1)) fun y_4 => z6 (Zf (y_3, y, y_4, [])) fun y_5 => ifB (neI y_5 0) (some ((0, 0, 0, []), y_5)) (some ((y_3, y, y_4, []), 0))) none) none) (ifB (eqI y_3 4) (ifB (eqI (lenI x.2.2.2.2.2) 1) (ifB (ltL 0 x.2.2.2.2.2) (z6 (atN x.2.2.2.2.2 (natI 0)) fun y => z6 (Zf (y_3, 0, y, [])) fun y_4 => ifB (neI y_4 0) (some ((0, 0, 0, []), y_4)) (some ((y_3, 0, y, []), 0))) none) (some ((0, 0, 0, []), 1))) (some ((0, 0, 0, []), 1)))) (ifB (eqI y_3 3) (ifB (eqI (lenI x.2.2.2.2.2) 2) (ifB (ltL 0 x.2.2.2.2.2) (z6 (atN x.2.2.2.2.2 (natI 0)) fun y => ifB (ltL 1 x.2.2.2.2.2) (z6 (atN x.2.2.2.2.2 (natI 1)) fun y_4 => z6 (Zf (y_3, y, y_4, [])) fun y_5 => ifB (neI y_5 0) (some ((0, 0, 0, []), y_5)) (some ((y_3, y, y_4, []), 0))) none) none) (ifB (eqI y_3 4) (ifB (eqI (lenI x.2.2.2.2.2) 1) (ifB (ltL 0 x.2.2.2.2.2) (z6 (atN x.2.2.2.2.2 (natI 0)) fun y => z6 (Zf (y_3, 0, y, [])) fun y_4 => ifB (neI y_4 0) (some ((0, 0, 0, []), y_4)) (some ((y_3, 0, y, []), 0))) none) (some ((0, 0, 0, []), 1))) (some ((0, 0, 0, []), 1)))) (ifB (eqI y_3 4) (ifB (eqI (lenI x.2.2.2.2.2) 1) (ifB (ltL 0 x.2.2.2.2.2) (z6 (atN x.2.2.2.2.2 (natI 0)) fun y => z6 (Zf (y_3, 0, y, [])) fun y_4 => ifB (neI y_4 0) (some ((0, 0, 0, []), y_4)) (some ((y_3, 0, y, []), 0))) none) (some ((0, 0, 0, []), 1))) (some ((0, 0, 0, []), 1)))))) (ifB (eqI y_3 2) (ifB (eqI (lenI x.2.2.2.2.2) 2) (ifB (ltL 0 x.2.2.2.2.2) (z6 (atN x.2.2.2.2.2 (natI 0)) fun y => ifB (ltL 1 x.2.2.2.2.2) (z6 (atN x.2.2.2.2.2 (natI 1)) fun y_4 => z6 (Zf (y_3, y, y_4, [])) fun y_5 => ifB (neI y_5 0) (some ((0, 0, 0, []), y_5)) (some ((y_3, y, y_4, []), 0))) none) none) (ifB (eqI y_3 4) (ifB (eqI (lenI x.2.2.2.2.2) 1) (ifB (ltL 0 x.2.2.2.2.2) (z6 (atN x.2.2.2.2.2 (natI 0)) fun y => z6 (Zf (y_3, 0, y, [])) fun y_4 => ifB (neI y_4 0) (some ((0, 0, 0, []), y_4)) (some ((y_3, 0, y, []), 0))) none) (some ((0, 0, 0, []), 1))) (some ((0, 0, 0, []), 1)))) (ifB (eqI y_3 3) (ifB (eqI (lenI x.2.2.2.2.2) 2) (ifB (ltL 0 x.2.2.2.2.2) (z6 (atN x.2.2.2.2.2 (natI 0)) fun y => ifB (ltL 1 x.2.2.2.2.2) (z6 (atN x.2.2.2.2.2 (natI 1)) fun y_4 => z6 (Zf (y_3, y, y_4, [])) fun y_5 => ifB (neI y_5 0) (some ((0, 0, 0, []), y_5)) (some ((y_3, y, y_4, []), 0))) none) none) (ifB (eqI y_3 4) (ifB (eqI (lenI x.2.2.2.2.2) 1) (ifB (ltL 0 x.2.2.2.2.2) (z6 (atN x.2.2.2.2.2 (natI 0)) fun y => z6 (Zf (y_3, 0, y, [])) fun y_4 => ifB (neI y_4 0) (some ((0, 0, 0, []), y_4)) (some ((y_3, 0, y, []), 0))) none) (some ((0, 0, 0, []), 1))) (some ((0, 0, 0, []), 1)))) (ifB (eqI y_3 4) (ifB (eqI (lenI x.2.2.2.2.2) 1) (ifB (ltL 0 x.2.2.2.2.2) (z6 (atN x.2.2.2.2.2 (natI 0)) fun y => z6 (Zf (y_3, 0, y, [])) fun y_4 => ifB (neI y_4 0) (some ((0, 0, 0, []), y_4)) (some ((y_3, 0, y, []), 0))) none) (some ((0, 0, 0, []), 1))) (some ((0, 0, 0, []), 1)))))))) (0, 0, 0, 0, [], [])) none)
theorem zeu (x : PI z2O) : V1 x = fnE T zaw zax zav (zt Tryz.f123) z2O z8I x := by kernel_rfl
noncomputable abbrev zay : GS := zw false z2O z8I fun x => V1 x
theorem zev : GSOK Tryz.prog 123 zay := zm tok zjK fmo (Ht := zax) (fn := Tryz.f123) (Tryz.func123) (c := zav) (by kernel_rfl) (by kernel_rfl) (by kernel_rfl) (by decide +kernel) (by decide) zeu
end Go.Proofs.Y
namespace Go.Proofs.Y
open Go.Rb Go.Kx
noncomputable def zaz : Code := zj Tryz.f88
noncomputable def zaA : FuncId → Option GS := tabG [(122, zmO), (123, zay)]
theorem zjL : ΓOK Tryz.prog zaA := z8 (zjD) (z8 (zev) (zg))
def zaB : HT := ⟨tabL [(3, .it [] (dyn [.t 0 (.str), .a 7 52 (.cons (.int .i64) (.cons (.int .i64) (.cons (.int .i64) (.one (.sl 77 (.cons (.int .i64) (.cons (.int .i64) (.one (.int .i64)))))))))]))], tabH []⟩
abbrev z2P : List IT := [.v (.one .str) false, .v (.one (.int .i64)) false]
abbrev z8J : List OT := [⟨.one (.sl 52 (.cons (.int .i64) (.cons (.int .i64) (.cons (.int .i64) (.one (.sl 77 (.cons (.int .i64) (.cons (.int .i64) (.one (.int .i64)))))))))), false, [true]⟩, ⟨.one (.int .i64), false, []⟩, ⟨.one (.int .i64), false, []⟩]
set_option maxRecDepth 100000
noncomputable def vc : List UInt8 → Int → Option (List (Int × Int × Int × List (Int × Int × Int)) × Int × Int) := fun a b => zi maxR (fun (x : List UInt8 × List (Int × Int × Int × List (Int × Int × Int))) => ifB (notB (eqS x.1 [])) (z6 (cutO x.1 [10]) fun y => ifB (notB y.2.2) (mapO Sum.inr (some (x.2, wsub .i64 (lenI a) (lenI x.1), 8))) (z6 (V1 y.1) fun y_1 => ifB (neI y_1.2 0) (mapO Sum.inr (some (x.2, wsub .i64 (lenI a) (lenI x.1), y_1.2))) (ifB (eqI (lenI x.2) b) (mapO Sum.inr (some (x.2, wsub .i64 (lenI a) (lenI x.1), 2))) (ifB (zf 48 x.2 [(y_1.1.1, y_1.1.2.1, y_1.1.2.2.1, y_1.1.2.2.2)]) (some (Sum.inl (y.2.1, cat x.2 [(y_1.1.1, y_1.1.2.1, y_1.1.2.2.1, y_1.1.2.2.2)]))) none)))) (mapO Sum.inr (some (x.2, lenI a, 0)))) (a, [])
theorem zew (x : PI z2P) : vc (x.1) (x.2) = fnE T zaA zaB zaz (zt Tryz.f88) z2P z8J x := by kernel_rfl
noncomputable abbrev z4B : GS := zw false z2P z8J fun x => vc (x.1) (x.2)
theorem z5Q : GSOK Tryz.prog 88 z4B := zm tok zjL fmo (Ht := zaB) (fn := Tryz.f88) (Tryz.func88) (c := zaz) (by kernel_rfl) (by kernel_rfl) (by kernel_rfl) (by decide +kernel) (by decide) zew
end Go.Proofs.Y
namespace Go.Proofs.Y
open Go.Rb Go.Kx
noncomputable def zaC : Code := zj Tryz.f84
noncomputable def zaD : FuncId → Option GS := tabG [(88, z4B)]
theorem zjM : ΓOK Tryz.prog zaD := z8 (z5Q) (zg)
def zaE : HT := ⟨tabL [], tabH []⟩
abbrev z2Q : List IT := [.v (.cons (.sl 5 (.one (.int .u8))) (.one (.sl 5 (.one (.int .u8))))) true]
abbrev z8K : List OT := [⟨.one (.int .i64), false, []⟩]
set_option maxRecDepth 100000
noncomputable def yQ : List Int × List Int → Option Int := fun a => ifB (gtI (lenI a.1) 60000) (some 2) (ifB (gtI (lenI a.2) (wsub .i64 60000 (lenI a.1))) (some 2) (z6 (vc (strB a.1) 60) fun y => some y.2.2))
theorem zex (x : PI z2Q) : yQ x = fnE T zaD zaE zaC (zt Tryz.f84) z2Q z8K x := by kernel_rfl
noncomputable abbrev jg : GS := zw false z2Q z8K fun x => yQ x
theorem VH : GSOK Tryz.prog 84 jg := zm tok zjM fmo (Ht := zaE) (fn := Tryz.f84) (Tryz.func84) (c := zaC) (by kernel_rfl) (by kernel_rfl) (by kernel_rfl) (by decide +kernel) (by decide) zex
end Go.Proofs.Y
namespace Go.Proofs.Y
open Go.Rb Go.Kx
noncomputable def zaF : Code := zj Tryz.f141
noncomputable def zaG : FuncId → Option GS := tabG [(84, jg), (86, z5O)]
theorem zjN : ΓOK Tryz.prog zaG := z8 (VH) (z8 (z4y) (zg))
def zaH : HT := ⟨tabL [], tabH []⟩
abbrev z2R : List IT := [.v (.cons (.sl 5 (.one (.int .u8))) (.one (.sl 5 (.one (.int .u8))))) true, .v (.one (.int .i64)) false]
abbrev z8L : List OT := [⟨.cons (.sl 5 (.one (.int .u8))) (.one (.sl 5 (.one (.int .u8)))), true, []⟩, ⟨.one (.int .i64), false, []⟩]
set_option maxRecDepth 100000
noncomputable def vd : List Int × List Int → Int → Option ((List Int × List Int) × Int) := fun a b => z6 (yQ (a.1, a.2)) fun y => ifB (neI y 0) (some (([], []), y)) (ifB (ltI b 0) (some (([], []), 3)) (ifB (gtI b (lenI a.2)) (some (([], []), 3)) (z6 (YR a.1) fun y => ifB (in1 a.2 b) (z6 (YR (YA a.2 b)) fun y_1 => some ((y, y_1), 0)) none)))
theorem zey (x : PI z2R) : vd (x.1) (x.2) = fnE T zaG zaH zaF (zt Tryz.f141) z2R z8L x := by kernel_rfl
noncomputable abbrev zaI : GS := zw false z2R z8L fun x => vd (x.1) (x.2)
theorem zez : GSOK Tryz.prog 141 zaI := zm tok zjN fmo (Ht := zaH) (fn := Tryz.f141) (Tryz.func141) (c := zaF) (by kernel_rfl) (by kernel_rfl) (by kernel_rfl) (by decide +kernel) (by decide) zey
end Go.Proofs.Y
namespace Go.Proofs.Y
open Go.Rb Go.Kx
noncomputable def zaJ : Code := zj Tryz.f85
noncomputable def zaK : FuncId → Option GS := tabG [(79, z0N), (119, z4z), (120, zjJ)]
theorem zjO : ΓOK Tryz.prog zaK := z8 (z0O) (z8 (z5P) (z8 (zgG) (zg)))
def zaL : HT := ⟨tabL [(9, .it [] (dyn [.a 5 3 (.one (.int .i64)), .t 28 (.int .i64)])), (17, .it [] (dyn [.t 8 (.str), .t 53 (.int .i64)]))], tabH []⟩
abbrev z2S : List IT := [.v (.cons (.int .i64) (.cons (.int .i64) (.cons (.int .i64) (.one (.sl 77 (.cons (.int .i64) (.cons (.int .i64) (.one (.int .i64))))))))) true]
abbrev z8M : List OT := [⟨.one .str, false, []⟩, ⟨.one (.int .i64), false, []⟩]
set_option maxRecDepth 100000
noncomputable def V2 : Int × Int × Int × List (Int × Int × Int) → Option (List UInt8 × Int) := fun a => z6 (Zf (a.1, a.2.1, a.2.2.1, a.2.2.2)) fun y => ifB (neI y 0) (some ([], y)) (ifB (eqI a.1 1) (zi maxR (fun (x : Int × List Int) => ifB (ltI x.1 (lenI a.2.2.2)) (z6 (atI a.2.2.2 x.1) fun y => ifB (zf 8 x.2 [y.1, y.2.1, y.2.2]) (some (Sum.inl (wadd .i64 x.1 1, cat x.2 [y.1, y.2.1, y.2.2]))) none) (mapO Sum.inr (z6 v8 fun y => z6 (atI y a.1) fun y => zi maxR (fun (x_1 : List UInt8 × Int) => ifB (ltI x_1.2 (lenI x.2)) (ifB (ltL x_1.2 x.2) (z6 (atN x.2 (natI x_1.2)) fun y => z6 (jw y) fun y => ifB (JM [32] y) (ifB (JM x_1.1 (catS [32] y)) (some (Sum.inl (catS x_1.1 (catS [32] y), wadd .i64 x_1.2 1))) none) none) none) (mapO Sum.inr (some (x_1.1, 0)))) (y, 0)))) (0, [])) (ifB (eqI a.1 4) (ifB (in1 [a.2.1, a.2.2.1] 1) (z6 v8 fun y => z6 (atI y a.1) fun y => zi maxR (fun (x : List UInt8 × Int) => ifB (ltI x.2 (intN (Zd (lenN [a.2.1, a.2.2.1]) 1))) (ifB (ltN x.2 (Zd (lenN [a.2.1, a.2.2.1]) 1)) (z6 (atN [a.2.1, a.2.2.1] (addN (addN 0 (natI 1)) (natI x.2))) fun y => z6 (jw y) fun y => ifB (JM [32] y) (ifB (JM x.1 (catS [32] y)) (some (Sum.inl (catS x.1 (catS [32] y), wadd .i64 x.2 1))) none) none) none) (mapO Sum.inr (some (x.1, 0)))) (y, 0)) none) (z6 v8 fun y => z6 (atI y a.1) fun y => zi maxR (fun (x : List UInt8 × Int) => ifB (ltI x.2 (lenI [a.2.1, a.2.2.1])) (ifB (ltL x.2 [a.2.1, a.2.2.1]) (z6 (atN [a.2.1, a.2.2.1] (natI x.2)) fun y => z6 (jw y) fun y => ifB (JM [32] y) (ifB (JM x.1 (catS [32] y)) (some (Sum.inl (catS x.1 (catS [32] y), wadd .i64 x.2 1))) none) none) none) (mapO Sum.inr (some (x.1, 0)))) (y, 0))))
theorem zeA (x : PI z2S) : V2 x = fnE T zaK zaL zaJ (zt Tryz.f85) z2S z8M x := by kernel_rfl
noncomputable abbrev zaM : GS := zw false z2S z8M fun x => V2 x
theorem zeB : GSOK Tryz.prog 85 zaM := zm tok zjO fmo (Ht := zaL) (fn := Tryz.f85) (Tryz.func85) (c := zaJ) (by kernel_rfl) (by kernel_rfl) (by kernel_rfl) (by decide +kernel) (by decide) zeA
end Go.Proofs.Y
namespace Go.Proofs.Y
open Go.Rb Go.Kx
noncomputable def zeC : Code := zj Tryz.f32
noncomputable def zeD : FuncId → Option GS := tabG [(84, jg), (85, zaM), (86, z5O)]
theorem zmQ : ΓOK Tryz.prog zeD := z8 (VH) (z8 (zeB) (z8 (z4y) (zg)))
def zeE : HT := ⟨tabL [], tabH []⟩
abbrev z6q : List IT := [.v (.cons (.sl 5 (.one (.int .u8))) (.one (.sl 5 (.one (.int .u8))))) true, .v (.cons (.int .i64) (.cons (.int .i64) (.cons (.int .i64) (.one (.sl 77 (.cons (.int .i64) (.cons (.int .i64) (.one (.int .i64))))))))) true]
abbrev zch : List OT := [⟨.cons (.sl 5 (.one (.int .u8))) (.one (.sl 5 (.one (.int .u8)))), true, []⟩, ⟨.one (.int .i64), false, []⟩]
set_option maxRecDepth 100000
noncomputable def YI : List Int × List Int → Int × Int × Int × List (Int × Int × Int) → Option ((List Int × List Int) × Int) := fun a b => z6 (yQ (a.1, a.2)) fun y => ifB (neI y 0) (some (([], []), y)) (z6 (V2 (b.1, b.2.1, b.2.2.1, b.2.2.2)) fun y => ifB (neI y.2 0) (some (([], []), y.2)) (ifB (gtI (wadd .i64 (lenI y.1) 1) (wsub .i64 (wsub .i64 60000 (lenI a.1)) (lenI a.2))) (some (([], []), 2)) (z6 (YR a.1) fun y_1 => z6 (YR a.2) fun y_2 => ifB (zf 1 y_2 (bytB y.1)) (ifB (zf 1 (cat y_2 (bytB y.1)) [10]) (some ((y_1, cat (cat y_2 (bytB y.1)) [10]), 0)) none) none)))
theorem zhq (x : PI z6q) : YI (x.1) (x.2) = fnE T zeD zeE zeC (zt Tryz.f32) z6q zch x := by kernel_rfl
noncomputable abbrev zeF : GS := zw false z6q zch fun x => YI (x.1) (x.2)
theorem zhr : GSOK Tryz.prog 32 zeF := zm tok zmQ fmo (Ht := zeE) (fn := Tryz.f32) (Tryz.func32) (c := zeC) (by kernel_rfl) (by kernel_rfl) (by kernel_rfl) (by decide +kernel) (by decide) zhq
end Go.Proofs.Y
namespace Go.Proofs.Y
open Go.Rb Go.Kx
noncomputable def z7b : Code := zj Tryz.f34
noncomputable def z7c : FuncId → Option GS := tabG [(84, jg), (88, z4B), (87, z3D)]
theorem zfr : ΓOK Tryz.prog z7c := z8 (VH) (z8 (z5Q) (z8 (z2M) (zg)))
def z7d : HT := ⟨tabL [], tabH []⟩
abbrev z1n : List IT := [.v (.cons (.sl 5 (.one (.int .u8))) (.one (.sl 5 (.one (.int .u8))))) true]
abbrev z5R : List OT := [⟨.cons (.sl 5 (.one (.int .u8))) (.one (.sl 5 (.one (.int .u8)))), true, []⟩, ⟨.one (.sl 52 (.cons (.int .i64) (.cons (.int .i64) (.cons (.int .i64) (.one (.sl 77 (.cons (.int .i64) (.cons (.int .i64) (.one (.int .i64)))))))))), false, []⟩, ⟨.one (.int .i64), false, []⟩]
set_option maxRecDepth 100000
noncomputable def y7 : List Int × List Int → Option ((List Int × List Int) × List (Int × Int × Int × List (Int × Int × Int)) × Int) := fun a => z6 (yQ (a.1, a.2)) fun y => ifB (neI y 0) (some (([], []), [], y)) (z6 (vc (strB a.1) 60) fun y => z6 (vc (strB a.2) (wsub .i64 60 (lenI y.1))) fun y_1 => ifB (in1 a.2 y_1.2.1) (z6 (Vd [a.1, YA a.2 y_1.2.1]) fun y_2 => ifB (zf 48 y.1 y_1.1) (some ((y_2, []), cat y.1 y_1.1, 0)) none) none)
theorem zbs (x : PI z1n) : y7 x = fnE T z7c z7d z7b (zt Tryz.f34) z1n z5R x := by kernel_rfl
noncomputable abbrev jL : GS := zw false z1n z5R fun x => y7 x
theorem Jj : GSOK Tryz.prog 34 jL := zm tok zfr fmo (Ht := z7d) (fn := Tryz.f34) (Tryz.func34) (c := z7b) (by kernel_rfl) (by kernel_rfl) (by kernel_rfl) (by decide +kernel) (by decide) zbs
end Go.Proofs.Y
namespace Go.Proofs.Y
open Go.Rb Go.Kx
set_option maxRecDepth 100000
end Go.Proofs.Y
namespace Go.Proofs.Y
open Go.Rb Go.Kx
set_option maxRecDepth 100000
end Go.Proofs.Y
namespace Go.Proofs.Y
open Go.Rb Go.Kx
noncomputable def zci : Code := zj Tryz.f33
noncomputable def zcj : FuncId → Option GS := tabG [(84, jg), (87, z3D)]
theorem zkS : ΓOK Tryz.prog zcj := z8 (VH) (z8 (z2M) (zg))
def zck : HT := ⟨tabL [], tabH []⟩
abbrev z4C : List IT := [.v (.cons (.sl 5 (.one (.int .u8))) (.one (.sl 5 (.one (.int .u8))))) true]
abbrev zaN : List OT := [⟨.cons (.sl 5 (.one (.int .u8))) (.one (.sl 5 (.one (.int .u8)))), true, []⟩, ⟨.one (.int .i64), false, []⟩]
set_option maxRecDepth 100000
noncomputable def Yo : List Int × List Int → Option ((List Int × List Int) × Int) := fun a => z6 (yQ (a.1, a.2)) fun y => ifB (neI y 0) (some (([], []), y)) (z6 (Vd [a.1, a.2]) fun y => z6 (yQ (y, [])) fun y_1 => ifB (neI y_1 0) (some (([], []), y_1)) (some ((y, []), 0)))
theorem zfs (x : PI z4C) : Yo x = fnE T zcj zck zci (zt Tryz.f33) z4C zaN x := by kernel_rfl
noncomputable abbrev zcl : GS := zw false z4C zaN fun x => Yo x
theorem zft : GSOK Tryz.prog 33 zcl := zm tok zkS fmo (Ht := zck) (fn := Tryz.f33) (Tryz.func33) (c := zci) (by kernel_rfl) (by kernel_rfl) (by kernel_rfl) (by decide +kernel) (by decide) zfs
end Go.Proofs.Y
namespace Go.Kx
open Go.Rb
def sp (c : UInt8) : List UInt8 → List (List UInt8)
 | [] => [[]]
 | b :: l => if b = c then [] :: sp c l else match sp c l with
  | [] => [[b]]
  | w :: r => (b :: w) :: r
def jn (c : UInt8) : List (List UInt8) → List UInt8
 | [] => []
 | w :: r => w ++ (r.map (c :: ·)).flatten
theorem JS (c : UInt8) : ∀ l, sp c l ≠ []
 | [] => by simp [sp]
 | b :: l => by
  unfold sp
  split
  ·simp
  ·split <;> simp
theorem z1Z (c : UInt8) (w : List UInt8) {r : List (List UInt8)} (h : r ≠ []) : jn c (w :: r) = w ++ c :: jn c r := by
 cases r with
 | nil => exact absurd rfl h
 | cons x r => simp [jn]
theorem z5S (c : UInt8) : ∀ l, jn c (sp c l) = l
 | [] => rfl
 | b :: l => by
  have ih := z5S c l
  have hn := JS c l
  unfold sp
  split
  ·rename_i h; subst h
   rw [z1Z _ _ hn, ih]; rfl
  ·split
   ·rename_i h1 h2; exact absurd h2 hn
   ·rename_i w r h2; rw [h2] at ih; simp only [jn] at ih ⊢; rw [List.cons_append, ih]
theorem zlN (c : UInt8) : ∀ w : List UInt8, (∀ x ∈ w, x ≠ c) → sp c w = [w]
 | [], _ => rfl
 | b :: l, h => by
  unfold sp
  rw [if_neg (h b (by simp)), zlN c l fun x hx => h x (by simp [hx])]
theorem zaO (c : UInt8) : ∀ (w l : List UInt8), (∀ x ∈ w, x ≠ c) → sp c (w ++ c :: l) = w :: sp c l
 | [], l, _ => by simp [sp]
 | b :: w, l, h => by
  have ih := zaO c w l fun x hx => h x (by simp [hx])
  show sp c (b :: (w ++ c :: l)) = _
  rw [sp, if_neg (h b (by simp)), ih]
theorem z7S (c : UInt8) : ∀ l, ∀ w ∈ sp c l, ∀ x ∈ w, x ≠ c
 | [], w, hw, x, hx => by simp [sp] at hw; subst hw; cases hx
 | b :: l, w, hw, x, hx => by
  have ih := z7S c l
  have hn := JS c l
  unfold sp at hw
  split at hw
  ·rcases List.mem_cons.1 hw with rfl | hw
   ·cases hx
   ·exact ih w hw x hx
  ·rename_i hb
   split at hw
   ·rename_i h2; exact absurd h2 hn
   ·rename_i v r h2
    rw [h2] at ih
    rcases List.mem_cons.1 hw with rfl | hw
    ·rcases List.mem_cons.1 hx with rfl | hx
     ·exact hb
     ·exact ih v (by simp) x hx
    ·exact ih w (by simp [hw]) x hx
theorem zeG (c : UInt8) : ∀ l, (sp c l).length ≤ l.length + 1
 | [] => by simp [sp]
 | b :: l => by
  have ih := zeG c l
  have hn := JS c l
  unfold sp
  split
  ·simp; omega
  ·split
   ·rename_i h2; exact absurd h2 hn
   ·rename_i w r h2; rw [h2] at ih; simp at ih ⊢; omega
/-! ### Go's split -/
theorem z22 {c : UInt8} {l : List UInt8} (h : ∀ x ∈ l, x ≠ c) : Lib.index l [c] = -1 := by
 induction l with
 | nil => rfl
 | cons b l ih =>
  have ih := ih fun x hx => h x (by simp [hx])
  have hb := h b (by simp)
  have : [c].isPrefixOf (b :: l) = false := by simp [List.isPrefixOf]; exact fun e => hb e.symm
  unfold Lib.index
  rw [this, ih]; rfl
theorem z2T {c : UInt8} {w l : List UInt8} (h : ∀ x ∈ w, x ≠ c) : Lib.index (w ++ c :: l) [c] = w.length := by
 induction w with
 | nil => unfold Lib.index; simp [List.isPrefixOf]
 | cons b w ih =>
  have ih := ih fun x hx => h x (by simp [hx])
  have hb := h b (by simp)
  have : [c].isPrefixOf (b :: (w ++ c :: l)) = false := by simp [List.isPrefixOf]; exact fun e => hb e.symm
  rw [List.cons_append]
  unfold Lib.index
  rw [this, ih]
  have e : (((w.length : Nat) : Int) == -1) = false := by rw [beq_eq_false_iff_ne]; omega
  simp [e]
theorem zkT (c : UInt8) : ∀ (l : List UInt8), Lib.split l [c] = sp c l := by
 have key : ∀ (ws : List (List UInt8)), ws ≠ [] → (∀ w ∈ ws, ∀ x ∈ w, x ≠ c) → Lib.split (jn c ws) [c] = ws := by
  intro ws
  induction ws with
  | nil => intro h; exact absurd rfl h
  | cons w r ih =>
   intro _ h
   by_cases hr : r = []
   ·subst hr
    simp only [jn, List.map_nil, List.flatten_nil, List.append_nil]
    unfold Lib.split
    rw [Lib.count_miss (z22 (h w (by simp)))]; rfl
   ·rw [z1Z _ _ hr]
    have hi : Lib.index (w ++ c :: jn c r) [c] = w.length := z2T (h w (by simp))
    have hd : (w ++ c :: jn c r).drop (w.length + [c].length) = jn c r := by
     rw [List.drop_append]; simp
    have hr2 := ih hr fun w hw => h w (by simp [hw])
    unfold Lib.split at hr2 ⊢
    rw [Lib.count_hit (by simp) hi, hd, Nat.add_comm 1, Lib.splitK, if_neg (by rw [hi]; intro e; have := beq_iff_eq.1 e; omega), hi]
    have e : ((w.length : Nat) : Int).toNat = w.length := by omega
    rw [e, hd, hr2]
    congr 1
    rw [List.take_append]; simp
 intro l
 have h := key (sp c l) (JS c l) (z7S c l)
 rw [z5S] at h
 exact h
/-! ### Numerals -/
end Go.Kx
namespace Go.Kx
open Go.Rb
def kindW : List (List UInt8) := [[], [98, 97, 116, 99, 104], [115, 101, 97, 108], [109, 101, 114, 103, 101], [100, 114, 111, 112]]
def ixW : List (List UInt8) → List UInt8 → Int → Int
 | [], _, _ => -1
 | x :: r, w, i => if w = x then i else ixW r w (i + 1)
def nums : List (List UInt8) → Option (List Int)
 | [] => some []
 | x :: r => match Lib.atoiAll x with
  | .ok v => if Lib.itoa v = x then (nums r).map (v :: ·) else none
  | _ => none
def trip : List Int → List Ent
 | a :: b :: c :: r => (a, b, c) :: trip r
 | _ => []
def Yp : List Ent → List Int
 | [] => []
 | x :: r => x.1 :: x.2.1 :: x.2.2 :: Yp r
def Ve (k : Int) (ns : List Int) : Option Rc :=
 if k = 1 then (if ns.length % 3 = 0 then some (1, 0, 0, trip ns) else none) else
 if k = 2 ∨ k = 3 then (match ns with | [a, b] => some (k, a, b, []) | _ => none) else
 if k = 4 then (match ns with | [a] => some (4, 0, a, []) | _ => none) else none
def YJ : Rc := (0, 0, 0, [])
def zeH (w : List UInt8) (xs : List (List UInt8)) : Rc × Int := match nums xs with
 | none => (YJ, 1)
 | some ns => match Ve (ixW kindW w 0) ns with
  | none => (YJ, 1)
  | some r => if zK r = 0 then (r, 0) else (YJ, zK r)
def yR (s : List UInt8) : Rc × Int := if 60000 < s.length then (YJ, 2) else zeH ((sp 32 s).headD []) (sp 32 s).tail
def vx (r : Rc) : List Int := if r.1 = 1 then Yp r.2.2.2 else if r.1 = 4 then [r.2.2.1] else [r.2.1, r.2.2.1]
def vN (r : Rc) : List UInt8 := jn 32 (kindW.getD r.1.toNat [] :: (vx r).map Lib.itoa)
def zeI (r : Rc) : List UInt8 × Int := if zK r = 0 then (vN r, 0) else ([], zK r)
theorem zcZ : ∀ l : List Ent, (Yp l).length = 3 * l.length
 | [] => rfl
 | x :: r => by rw [Yp]; simp [zcZ r]; omega
theorem zgH : ∀ (n : Nat) (l : List Int), l.length = 3 * n → Yp (trip l) = l
 | 0, l, h => by have := List.eq_nil_of_length_eq_zero (show l.length = 0 by omega); subst this; rfl
 | n + 1, l, h => by
  match l, h with
  | a :: b :: c :: r, h => rw [trip, Yp, zgH n r (by simp at h; omega)]
  | [], h => simp at h
  | [_], h => simp at h; omega
  | [_, _], h => simp at h; omega
theorem zgI : ∀ (xs : List (List UInt8)) (ns : List Int), nums xs = some ns → xs = ns.map Lib.itoa ∧ ∀ n ∈ ns, zrZ n
 | [], ns, h => by cases h; exact ⟨rfl, fun _ h => by cases h⟩
 | x :: r, ns, h => by
  rw [nums] at h
  rcases hx : Lib.atoiAll x with v | _ | _
  ·rw [hx] at h
   simp only at h
   split at h
   ·rename_i he
    cases hr : nums r with
    | none => rw [hr] at h; cases h
    | some ms =>
     rw [hr] at h; cases h
     obtain ⟨h1, h2⟩ := zgI r ms hr
     refine ⟨by rw [List.map_cons, he, ← h1], fun n hn => ?_⟩
     rcases List.mem_cons.1 hn with rfl | hn
     ·exact Lib.atoiAll_bounds hx
     ·exact h2 n hn
   ·cases h
  ·rw [hx] at h; cases h
  ·rw [hx] at h; cases h
theorem zrt {l : List Ent} (h : entE l = 0) : ∀ n ∈ Yp l, -1000000 ≤ n ∧ n ≤ 1000000 := by
 induction l with
 | nil => intro n hn; cases hn
 | cons x r ih =>
  rw [entE] at h
  split at h
  ·cases h
  ·rename_i hb
   unfold JE at hb
   intro n hn
   rw [Yp] at hn
   rcases List.mem_cons.1 hn with rfl | hn
   ·omega
   ·rcases List.mem_cons.1 hn with rfl | hn
    ·omega
    ·rcases List.mem_cons.1 hn with rfl | hn
     ·omega
     ·exact ih h n hn
theorem zlO {r : Rc} (h : zK r = 0) : (vx r).length ≤ 30 ∧ ∀ n ∈ vx r, -1000000 ≤ n ∧ n ≤ 1000000 := by
 obtain ⟨k1, k2, k3, k4⟩ := JF h
 unfold vx
 split
 ·rename_i h1
  obtain ⟨_, _, a3, a4⟩ := k3 h1
  exact ⟨by rw [zcZ]; omega, zrt a4⟩
 ·rename_i h1
  obtain ⟨_, b1, b2, b3, b4, _⟩ := k4 h1
  split
  ·exact ⟨by simp, fun n hn => by simp at hn; omega⟩
  ·exact ⟨by simp, fun n hn => by simp at hn; omega⟩
theorem zmR {k : Int} {ns : List Int} {r : Rc} (h : Ve k ns = some r) : r.1 = k ∧ vx r = ns ∧ 1 ≤ k ∧ k ≤ 4 := by
 unfold Ve at h
 split at h
 ·rename_i h1
  subst h1
  split at h
  ·rename_i h2
   cases h
   refine ⟨rfl, ?_, by omega, by omega⟩
   unfold vx
   simp only [if_pos]
   exact zgH (ns.length / 3) ns (by omega)
  ·cases h
 ·rename_i h1
  split at h
  ·rename_i h2
   split at h
   ·cases h
    refine ⟨rfl, ?_, by omega, by omega⟩
    unfold vx
    simp only [if_neg h1]
    rw [if_neg (by omega)]
   ·cases h
  ·split at h
   ·rename_i h4
    subst h4
    split at h
    ·cases h
     exact ⟨rfl, rfl, by omega, by omega⟩
    ·cases h
   ·cases h
theorem zgJ {k : Int} (h1 : 1 ≤ k) (h2 : k ≤ 4) : ixW kindW (kindW.getD k.toNat []) 0 = k ∧ (∀ x ∈ kindW.getD k.toNat [], x ≠ 32) ∧ (kindW.getD k.toNat []).length ≤ 5 := by
 have : k = 1 ∨ k = 2 ∨ k = 3 ∨ k = 4 := by omega
 rcases this with rfl | rfl | rfl | rfl <;> decide
theorem zqJ {w : List UInt8} {k : Int} (h : ixW kindW w 0 = k) (h1 : 1 ≤ k) (h2 : k ≤ 4) : kindW.getD k.toNat [] = w := by
 unfold kindW at h
 simp only [ixW] at h
 split at h
 ·omega
 ·split at h
  ·rename_i hw; subst hw; subst h; rfl
  ·split at h
   ·rename_i hw; subst hw; subst h; rfl
   ·split at h
    ·rename_i hw; subst hw; subst h; rfl
    ·split at h
     ·rename_i hw; subst hw; subst h; rfl
     ·omega
theorem zru (c : UInt8) (w : List UInt8) (xs : List (List UInt8)) (m : Nat) (h : ∀ x ∈ xs, x.length ≤ m) : (jn c (w :: xs)).length ≤ w.length + xs.length * (m + 1) := by
 simp only [jn, List.length_append]
 have : ((xs.map (c :: ·)).flatten).length ≤ xs.length * (m + 1) := by
  induction xs with
  | nil => simp
  | cons x r ih =>
   have := ih fun y hy => h y (by simp [hy])
   have hx := h x (by simp)
   simp only [List.map_cons, List.flatten_cons, List.length_append, List.length_cons, Nat.add_mul]
   omega
 omega
theorem zoe {r : Rc} (h : zK r = 0) : (vN r).length ≤ 700 := by
 obtain ⟨k1, k2, _, _⟩ := JF h
 obtain ⟨h1, h2⟩ := zlO h
 obtain ⟨_, _, h3⟩ := zgJ k1 k2
 have := zru 32 (kindW.getD r.1.toNat []) ((vx r).map Lib.itoa) 21 fun x hx => by
  obtain ⟨n, hn, rfl⟩ := List.mem_map.1 hx
  have := h2 n hn
  exact Lib.itoa_length_le n (by omega) (by omega)
 rw [List.length_map] at this
 unfold vN
 omega
theorem zgK {s : List UInt8} (h : (yR s).2 = 0) : zK (yR s).1 = 0 ∧ vN (yR s).1 = s := by
 unfold yR at h ⊢
 split at h
 ·cases h
 ·rename_i hl
  rw [if_neg hl]
  unfold zeH at h ⊢
  have hj := z5S 32 s
  have hn := JS 32 s
  cases hs : sp 32 s with
  | nil => exact absurd hs hn
  | cons w xs =>
  rw [hs] at h hj
  simp only [List.headD_cons, List.tail_cons] at h ⊢
  cases hx : nums xs with
  | none => rw [hx] at h; cases h
  | some ns =>
   rw [hx] at h
   simp only at h ⊢
   cases hr : Ve (ixW kindW w 0) ns with
   | none => rw [hr] at h; cases h
   | some r =>
    rw [hr] at h
    simp only at h ⊢
    split at h
    ·rename_i hc
     rw [if_pos hc]
     refine ⟨hc, ?_⟩
     obtain ⟨e1, e2, e3, e4⟩ := zmR hr
     unfold vN
     rw [e1, e2, zqJ rfl e3 e4, ← (zgI xs ns hx).1]
     exact hj
    ·rename_i hc; exact absurd h hc
end Go.Kx
namespace Go.Kx
open Go.Rb
theorem zbl (c : UInt8) {s : List UInt8} (h : ∀ x ∈ s, x ≠ c) : sp c s = [s] := zlN c s h
theorem z7T (c : UInt8) : ∀ s : List UInt8, (∀ x ∈ s, x ≠ c) ∨ ∃ w l, s = w ++ c :: l ∧ (∀ x ∈ w, x ≠ c)
 | [] => .inl fun x hx => by cases hx
 | b :: s => by
  by_cases hb : b = c
  ·subst hb; exact .inr ⟨[], s, rfl, fun x hx => by cases hx⟩
  ·rcases z7T c s with h | ⟨w, l, rfl, h⟩
   ·exact .inl fun x hx => by rcases List.mem_cons.1 hx with rfl | hx; exact hb; exact h x hx
   ·exact .inr ⟨b :: w, l, rfl, fun x hx => by rcases List.mem_cons.1 hx with rfl | hx; exact hb; exact h x hx⟩
theorem zd0 {c : UInt8} {s : List UInt8} (h : ∀ x ∈ s, x ≠ c) : Lib.cut s [c] = (s, [], false) := by
 unfold Lib.cut
 rw [z22 h, if_neg (by omega)]
theorem zd1 {c : UInt8} {w l : List UInt8} (h : ∀ x ∈ w, x ≠ c) : Lib.cut (w ++ c :: l) [c] = (w, l, true) := by
 unfold Lib.cut
 rw [z2T h, if_pos (by omega)]
 have e : ((w.length : Nat) : Int).toNat = w.length := by omega
 rw [e]
 simp [List.take_append, List.drop_append]
def lnW (most all : Int) : List (List UInt8) → List Rc → List Rc × Int × Int
 | [], acc => (acc, all, 0)
 | w :: r, acc => if r = [] then (if w = [] then (acc, all, 0) else (acc, all - w.length, 8)) else
  if (yR w).2 = 0 then (if (acc.length : Int) = most then (acc, all - (jn 10 (w :: r)).length, 2) else lnW most all r (acc ++ [(yR w).1])) else (acc, all - (jn 10 (w :: r)).length, (yR w).2)
def lnP (most : Int) (s : List UInt8) : List Rc × Int × Int := lnW most s.length (sp 10 s) []
theorem zpY (most all : Int) : ∀ (ws : List (List UInt8)) (acc : List Rc), ((jn 10 ws).length : Int) ≤ all → 0 ≤ (lnW most all ws acc).2.1 ∧ (lnW most all ws acc).2.1 ≤ all
 | [], acc, h => by simp only [lnW]; simp [jn] at h; omega
 | w :: r, acc, h => by
  rw [lnW]
  by_cases hr : r = []
  ·subst hr
   rw [if_pos rfl]
   simp only [jn, List.map_nil, List.flatten_nil, List.append_nil] at h
   split
   ·simp only; omega
   ·simp only; omega
  ·rw [if_neg hr]
   have hj := z1Z 10 w hr
   have : (jn 10 r).length ≤ (jn 10 (w :: r)).length := by rw [hj]; simp; omega
   split
   ·split
    ·simp only; omega
    ·exact zpY most all r _ (by omega)
   ·simp only; omega
theorem zpZ (most : Int) (s : List UInt8) : 0 ≤ (lnP most s).2.1 ∧ (lnP most s).2.1 ≤ s.length := by
 unfold lnP
 exact zpY most _ _ _ (by rw [z5S]; omega)
theorem zlP (most all : Int) : ∀ (ws : List (List UInt8)) (acc : List Rc), (lnW most all ws acc).1.length ≤ acc.length + ws.length
 | [], acc => by simp [lnW]
 | w :: r, acc => by
  rw [lnW]
  split
  ·split <;> simp
  ·split
   ·split
    ·simp
    ·have := zlP most all r (acc ++ [(yR w).1])
     simp only [List.length_append, List.length_cons, List.length_nil] at this ⊢; omega
   ·simp
theorem zbm (most : Int) (s : List UInt8) : (lnP most s).1.length ≤ s.length + 1 := by
 have := zlP most s.length (sp 10 s) []
 have := zeG 10 s
 unfold lnP
 simp only [List.length_nil] at *
 omega
/-! ### Records as lines -/
def zbn (r : Rc) : List UInt8 := vN r ++ [10]
def vy (rs : List Rc) : List UInt8 := (rs.map zbn).flatten
theorem zmS (r : Rc) (rs : List Rc) (t : List UInt8) : vy (r :: rs) ++ t = vN r ++ 10 :: (vy rs ++ t) := by
 simp [vy, zbn]
theorem zof (a b : List Rc) : vy (a ++ b) = vy a ++ vy b := by simp [vy]
/-! ### Disks -/
def ZN (d : List UInt8 × List UInt8) : Int := if 60000 < d.1.length then 2 else if 60000 - d.1.length < d.2.length then 2 else (lnP 60 d.1).2.2
def dPut (d : List UInt8 × List UInt8) (r : Rc) : (List UInt8 × List UInt8) × Int :=
 if ZN d = 0 then (if zK r = 0 then (if 60000 - (d.1.length : Int) - d.2.length < (vN r).length + 1 then (([], []), 2) else ((d.1, d.2 ++ zbn r), 0)) else (([], []), zK r)) else (([], []), ZN d)
def z3E (d : List UInt8 × List UInt8) : (List UInt8 × List UInt8) × Int :=
 if ZN d = 0 then (if ZN (d.1 ++ d.2, []) = 0 then ((d.1 ++ d.2, []), 0) else (([], []), ZN (d.1 ++ d.2, []))) else (([], []), ZN d)
def z1o (d : List UInt8 × List UInt8) (n : Int) : (List UInt8 × List UInt8) × Int :=
 if ZN d = 0 then (if n < 0 ∨ (d.2.length : Int) < n then (([], []), 3) else ((d.1, d.2.take n.toNat), 0)) else (([], []), ZN d)
def JT (d : List UInt8 × List UInt8) : List Rc × Int × Int := lnP (60 - ((lnP 60 d.1).1.length : Int)) d.2
def zA (d : List UInt8 × List UInt8) : (List UInt8 × List UInt8) × List Rc × Int :=
 if ZN d = 0 then ((d.1 ++ d.2.take (JT d).2.1.toNat, []), (lnP 60 d.1).1 ++ (JT d).1, 0) else (([], []), [], ZN d)
theorem vz {d : List UInt8 × List UInt8} (h : ZN d = 0) : d.1.length + d.2.length ≤ 60000 := by
 unfold ZN at h
 split at h
 ·cases h
 ·split at h
  ·cases h
  ·omega
end Go.Kx
namespace Go.Proofs.Y
open Go.Rb Go.Kx
theorem zjP : v8 = some kindW := rfl
theorem zpz (a : List (List UInt8)) (b : List UInt8) (h : a.length < 4611686018427387904) : z4A a b = some (ixW a b 0) := by
 unfold z4A
 refine zS a (fun j (_ : Int) => (j : Int)) (G := fun rest s => some (ixW rest b s)) (P := fun j s => s = (j : Int)) (s0 := (0 : Int)) ?_ ?_ rfl (by omega)
 ·rintro j s hj rfl k hk
  have hat := zN hj
  generalize a.getD j default = x at *
  rw [za, zd, ze, zb, if_pos (by omega), hat, zx, z7, za, zd, zo, Zu, zD (by omega), hk _ rfl, ixW]
  split
  ·rfl
  ·rfl
 ·rintro s rfl k
  rw [za, zd, ze, zb, if_neg (by omega)]; rfl
theorem z7U (f : List UInt8 × Int → Option (Sum (List UInt8 × Int) (List UInt8 × Int))) (l : List Int) (w : List UInt8) (hl : l.length ≤ 30) (hb : ∀ n ∈ l, -1000000 ≤ n ∧ n ≤ 1000000) (hw : w.length ≤ 5)
  (hs : ∀ (j : Nat) (s : List UInt8), j < l.length → f (s, (j : Int)) = z6 (jw (l.getD j default)) fun (y : List UInt8) => ifB (JM [32] y) (ifB (JM s (catS [32] y)) (some (Sum.inl (catS s (catS [32] y), wadd IntKind.i64 (j : Int) 1))) none) none)
  (he : ∀ s, f (s, (l.length : Int)) = some (Sum.inr (s, 0))) : zi maxR f (w, 0) = some (jn 32 (w :: l.map Lib.itoa), 0) := by
 have hh : ∀ n ∈ l, jw n = some (Lib.itoa n) ∧ (Lib.itoa n).length ≤ 21 := fun n hn => by
  have := hb n hn
  exact ⟨by unfold jw; rw [if_pos (by omega)], Lib.itoa_length_le n (by omega) (by omega)⟩
 have := zS l (fun j (s : List UInt8) => (s, (j : Int))) (f := f) (G := fun rest s => some (s ++ (rest.map fun n => 32 :: Lib.itoa n).flatten, 0)) (P := fun j s => s.length ≤ 5 + 22 * j) (s0 := w) ?_ ?_ (by omega) (by omega)
 ·rw [show ((0 : Nat) : Int) = 0 from rfl] at this
  rw [this]
  simp only [jn, List.map_map]; rfl
 ·intro j s hj hp k hk
  have hm : l.getD j default ∈ l := by simp [List.getD, List.getElem?_eq_getElem hj]
  obtain ⟨h1, h2⟩ := hh _ hm
  rw [hs j s hj, h1, z7]
  generalize l.getD j default = x at *
  rw [Z3, if_pos (by simp; omega), Z3, if_pos (by simp [catS]; omega), zo, zD (by omega), hk _ (by simp [catS]; omega)]
  simp [catS]
 ·intro s _ k
  rw [he, Z4]; simp
theorem zpA (r : Rc) (hl : r.2.2.2.length < 4611686018427387904) : V2 r = some (zeI r) := by
 unfold V2 zeI
 have hck : Zf (Prod.fst r, Prod.fst (Prod.snd r), Prod.fst (Prod.snd (Prod.snd r)), Prod.snd (Prod.snd (Prod.snd r))) = some (zK r) := z4n r hl
 rw [hck, z7, zk]
 by_cases hc : zK r = 0
 ·rw [if_pos hc, if_pos hc]
  obtain ⟨k1, k2, k3, k4⟩ := JF hc
  obtain ⟨a1, a2⟩ := zlO hc
  obtain ⟨_, _, hw⟩ := zgJ k1 k2
  have hat : atI kindW r.1 = some (kindW.getD r.1.toNat []) := by
   have : r.1 = 1 ∨ r.1 = 2 ∨ r.1 = 3 ∨ r.1 = 4 := by omega
   rcases this with h | h | h | h <;> rw [h] <;> rfl
  rw [zjP, z7]
  simp only [hat, z7]
  rw [zh]
  by_cases h1 : r.1 = 1
  ·rw [if_pos h1]
   have he : vx r = Yp r.2.2.2 := by unfold vx; rw [if_pos h1]
   have ht : vN r = jn 32 (kindW.getD r.1.toNat [] :: (Yp r.2.2.2).map Lib.itoa) := by unfold vN; rw [he]
   rw [he] at a1 a2
   have hll := zcZ r.2.2.2
   rw [ht]
   generalize kindW.getD r.1.toNat [] = w at *
   generalize hle : r.2.2.2 = l at *
   refine zS l (fun j (s : List Int) => ((j : Int), s)) (G := fun rest s => if s ++ Yp rest = Yp l then some (jn 32 (w :: (Yp l).map Lib.itoa), 0) else none) (P := fun j s => s.length = 3 * j ∧ s ++ Yp (l.drop j) = Yp l) (s0 := []) ?_ ?_ ⟨rfl, rfl⟩ (by omega) |>.trans (by simp)
   ·rintro j s hj ⟨hp, hq⟩ k hk
    have hat := zN hj
    have hd : l.drop j = l.getD j default :: l.drop (j + 1) := by rw [List.drop_eq_getElem_cons hj]; simp [List.getD, List.getElem?_eq_getElem hj]
    rw [hd] at hq
    generalize l.getD j default = x at *
    rw [za, zd, ze, zb, if_pos (by omega), hat, zx, z7, za, zB, zo, zz, if_pos (by simp; omega), zD (by omega)]
    simp only [zX]
    have hq2 : (s ++ [x.1, x.2.1, x.2.2]) ++ Yp (l.drop (j + 1)) = Yp l := by rw [← hq, Yp]; simp
    rw [hk _ ⟨by simp; omega, hq2⟩, if_pos hq2, if_pos hq]
   ·rintro s ⟨hp, hq⟩ k
    rw [List.drop_length] at hq
    have hq' : s = Yp l := by simpa [Yp] using hq
    subst hq'
    rw [za, zd, ze, zb, if_neg (by omega), if_pos hq]
    refine z7U _ (Yp l) w a1 a2 hw ?_ ?_
    ·intro j s hj
     simp only [zB, zo, Z4, zd, Zs, zx, Z6, Zw, Zo, ze, Zt, zy, zL, zh, zk, zC, Zx, ZD, ZF, zF, Zy, Zp, Zq, Zr, Zm, Z7, zG, ZG, zz, Z2, Z8, Z3, Zu, ZH, Zn, z7, zV, Zb, Zc, zb, ZE, zX, zP, Z1, ZI, Zk, zJ, Zz]
     have hat := ym hj
     rw [if_pos (by omega), if_pos (by omega), show ((j : Int)).toNat = j by omega, hat, z7]
    ·intro s
     simp only [zB, zo, Z4, zd, Zs, zx, Z6, Zw, Zo, ze, Zt, zy, zL, zh, zk, zC, Zx, ZD, ZF, zF, Zy, Zp, Zq, Zr, Zm, Z7, zG, ZG, zz, Z2, Z8, Z3, Zu, ZH, Zn, z7, zV, Zb, Zc, zb, ZE, zX, zP, Z1, ZI, Zk, zJ, Zz]
     rw [if_neg (by omega)]
  ·rw [if_neg h1, zh]
   by_cases h4 : r.1 = 4
   ·rw [if_pos h4]
    have he : vx r = [r.2.2.1] := by unfold vx; rw [if_neg h1, if_pos h4]
    have ht : vN r = jn 32 (kindW.getD r.1.toNat [] :: [r.2.2.1].map Lib.itoa) := by unfold vN; rw [he]
    rw [he] at a1 a2
    rw [ht, zF, if_pos ⟨by omega, by simp⟩]
    refine z7U _ [r.2.2.1] _ a1 a2 hw ?_ ?_
    ·intro j s hj
     have : j = 0 := by simpa using hj
     subst this
     rfl
    ·intro s; rfl
   ·rw [if_neg h4]
    have he : vx r = [r.2.1, r.2.2.1] := by unfold vx; rw [if_neg h1, if_neg h4]
    have ht : vN r = jn 32 (kindW.getD r.1.toNat [] :: [r.2.1, r.2.2.1].map Lib.itoa) := by unfold vN; rw [he]
    rw [he] at a1 a2
    rw [ht]
    refine z7U _ [r.2.1, r.2.2.1] _ a1 a2 hw ?_ ?_
    ·intro j s hj
     have : j = 0 ∨ j = 1 := by simp at hj; omega
     rcases this with rfl | rfl <;> rfl
    ·intro s; rfl
 ·rw [if_neg hc, if_neg hc]
end Go.Proofs.Y
namespace Go.Proofs.Y
open Go.Rb Go.Kx
theorem zfu (c : UInt8) : ∀ l, ∀ w ∈ sp c l, w.length ≤ l.length
 | [], w, hw => by simp [sp] at hw; subst hw; simp
 | b :: l, w, hw => by
  have ih := zfu c l
  have hn := JS c l
  unfold sp at hw
  split at hw
  ·rcases List.mem_cons.1 hw with rfl | hw
   ·simp
   ·have := ih w hw; simp; omega
  ·split at hw
   ·rename_i h2; exact absurd h2 hn
   ·rename_i v r h2
    rw [h2] at ih
    rcases List.mem_cons.1 hw with rfl | hw
    ·have := ih v (by simp); simp; omega
    ·have := ih w (by simp [hw]); simp; omega
def endP (k : Int) (ns : List Int) : Rc × Int := match Ve k ns with
 | none => (YJ, 1)
 | some r => if zK r = 0 then (r, 0) else (YJ, zK r)
theorem zgL (w : List UInt8) (xs : List (List UInt8)) : zeH w xs = match nums xs with | none => (YJ, 1) | some ns => endP (ixW kindW w 0) ns := rfl
theorem zjQ : ∀ (n : Nat) (l : List Int), l.length = 3 * n → (trip l).length = n
 | 0, l, h => by have := List.eq_nil_of_length_eq_zero (show l.length = 0 by omega); subst this; rfl
 | n + 1, l, h => by
  match l, h with
  | a :: b :: c :: r, h => rw [trip, List.length_cons, zjQ n r (by simp at h; omega)]
  | [], h => simp at h
  | [_], h => simp at h; omega
  | [_, _], h => simp at h; omega
theorem zjR : ∀ (n : Nat) (l : List Int) (j : Nat), l.length = 3 * n → j < n → (trip l).getD j default = (l.getD (3 * j) default, l.getD (3 * j + 1) default, l.getD (3 * j + 2) default)
 | 0, l, j, h, hj => by omega
 | n + 1, l, j, h, hj => by
  match l, h with
  | a :: b :: c :: r, h =>
   rw [trip]
   cases j with
   | zero => rfl
   | succ j =>
    have := zjR n r j (by simp at h; omega) (by omega)
    rw [show 3 * (j + 1) = 3 * j + 3 by omega]
    simpa [List.getD] using this
  | [], h => simp at h
  | [_], h => simp at h; omega
  | [_, _], h => simp at h; omega
theorem zq0 (n : Nat) : wrem (n : Int) 3 = ((n % 3 : Nat) : Int) := by unfold wrem; rw [Int.tmod_eq_emod_of_nonneg (by omega)]; omega
theorem zjS (r : Rc) (hl : r.2.2.2.length < 4611686018427387904) : (z6 (Zf r) fun (y : Int) => ifB (neI y 0) (some (((0, 0, 0, []) : Rc), y)) (some (r, (0 : Int)))) = some (if zK r = 0 then (r, 0) else (YJ, zK r)) := by
 rw [z4n r hl, z7, zk]
 split
 ·rfl
 ·rfl
theorem zpB (s : List UInt8) : V1 s = some (yR s) := by
 unfold V1 yR
 rw [zy, zb]
 by_cases hlen : 60000 < s.length
 ·rw [if_pos (by omega), if_pos hlen]; rfl
 ·rw [if_neg (by omega), if_neg hlen]
  have hsp : z3P s [32] = some (sp 32 s) := by unfold z3P; rw [if_pos ⟨by omega, by simp⟩, zkT]
  rw [hsp, z7, zjP, z7]
  have hwl := zfu 32 s
  have hsl := zeG 32 s
  have hne := JS 32 s
  generalize sp 32 s = ws at *
  cases ws with
  | nil => exact absurd rfl hne
  | cons w xs =>
  rw [show atI (w :: xs) 0 = some w from rfl, z7, zpz kindW w (by decide), z7, zgL]
  simp only [List.headD_cons, List.tail_cons]
  generalize ixW kindW w 0 = q
  rw [zF, if_pos ⟨by omega, by simp; omega⟩]
  simp only [show yh (w :: xs) 1 = xs from rfl]
  have hxl : xs.length ≤ 60000 := by simp at hsl; omega
  have hxw : ∀ x ∈ xs, x.length ≤ 60000 := fun x hx => by have := hwl x (by simp [hx]); omega
  refine (zS xs (fun j (a : List Int) => ((j : Int), 0, 0, 0, [], a)) (G := fun rest a => some (match nums rest with | none => (YJ, 1) | some ns => endP q (a ++ ns))) (P := fun j a => a.length = j) (s0 := []) ?_ ?_ rfl (by omega)).trans ?_
  ·intro j a hj hp k hk
   have hat := zN hj
   have hm : xs.getD j default ∈ xs := by simp [List.getD, List.getElem?_eq_getElem hj]
   have hx := hxw _ hm
   generalize xs.getD j default = x at *
   rw [za, ze, zb, if_pos (by omega), hat, z7]
   have ha : z7n x = some (endO (Lib.atoiAll x) (Lib.atoiSat x)) := by unfold z7n; rw [if_pos (by omega)]
   rw [ha, z7, nums]
   rcases hv : Lib.atoiAll x with v | _ | _
   ·have hb := Lib.atoiAll_bounds hv
    have hi : jw v = some (Lib.itoa v) := by unfold jw; rw [if_pos hb]
    simp only [endO]
    rw [Zw, hi, z7, za, zC, Zu]
    by_cases he : Lib.itoa v = x
    ·rw [if_pos he, if_pos he, za, zz, if_pos (by simp; omega), zo, zD (by omega)]
     simp only [zX]
     rw [hk _ (by simp; omega)]
     cases nums (xs.drop (j + 1)) with
     | none => rfl
     | some ns => simp
    ·rw [if_neg he, if_neg he]; rfl
   ·rfl
   ·rfl
  ·intro a hp k
   have hal : a.length ≤ 60000 := by omega
   clear hp hxw hwl
   rw [za, zd, ze, zb, if_neg (by omega)]
   simp only [nums, List.append_nil]
   rw [zh]
   by_cases h1 : q = 1
   ·subst h1
    rw [if_pos rfl, zh, zb, zq0]
    by_cases h3 : a.length % 3 = 0
    ·rw [if_pos (by omega)]
     have hn : a.length = 3 * (a.length / 3) := by omega
     have htl := zjQ _ a hn
     have he : endP 1 a = if zK (1, 0, 0, trip a) = 0 then ((1, 0, 0, trip a), 0) else (YJ, zK (1, 0, 0, trip a)) := by unfold endP Ve; rw [if_pos rfl, if_pos h3]
     rw [he]
     refine (zS (trip a) (fun j (es : List Ent) => (((3 * j : Nat) : Int), es)) (G := fun rest es => some (if zK (1, 0, 0, es ++ rest) = 0 then (((1, 0, 0, es ++ rest) : Rc), 0) else (YJ, zK (1, 0, 0, es ++ rest)))) (P := fun j es => es.length = j) (s0 := []) ?_ ?_ rfl (by omega)).trans (by simp)
     ·intro j es hj hp k hk
      rw [htl] at hj
      have hg := zjR _ a j hn hj
      rw [hg]
      have e0 := ym (show 3 * j < a.length by omega)
      have e1 := ym (show 3 * j + 1 < a.length by omega)
      have e2 := ym (show 3 * j + 2 < a.length by omega)
      generalize a.getD (3 * j) default = x0 at *
      generalize a.getD (3 * j + 1) default = x1 at *
      generalize a.getD (3 * j + 2) default = x2 at *
      have w1 : wadd .i64 ((3 * j : Nat) : Int) 1 = ((3 * j + 1 : Nat) : Int) := by rw [ZR ⟨by omega, by omega⟩]; rfl
      have w2 : wadd .i64 ((3 * j : Nat) : Int) 2 = ((3 * j + 2 : Nat) : Int) := by rw [ZR ⟨by omega, by omega⟩]; rfl
      have w3 : wadd .i64 ((3 * j : Nat) : Int) 3 = ((3 * (j + 1) : Nat) : Int) := by rw [ZR ⟨by omega, by omega⟩]; omega
      rw [za, ze, if_pos (show ((3 * j : Nat) : Int) < a.length by omega)]
      simp only [w1, w2, w3, zJ, Int.toNat_natCast]
      rw [za, zG, if_pos (by omega), e0, z7, za, zG, if_pos (by omega), e1, z7, za, zG, if_pos (by omega), e2, z7, za, zz, if_pos (by simp; omega), zo]
      simp only [zX]
      rw [hk _ (by simp; omega)]
      simp
     ·intro es hp k
      rw [za, zd, ze, if_neg (show ¬ ((3 * (trip a).length : Nat) : Int) < a.length by omega), List.append_nil]
      exact zjS (1, 0, 0, es) (by simp; omega)
    ·rw [if_neg (by omega)]
     unfold endP Ve
     rw [if_pos rfl, if_neg h3]
     rfl
   ·rw [if_neg h1]
    by_cases h2 : a.length = 2
    ·match a, h2 with
     | [x, y], _ =>
      have c2 := zjS (q, x, y, []) (by simp)
      rw [zh, zh]
      by_cases k2 : q = 2
      ·rw [if_pos k2]
       have : endP q [x, y] = if zK (q, x, y, []) = 0 then ((q, x, y, []), 0) else (YJ, zK (q, x, y, [])) := by unfold endP Ve; rw [if_neg h1, if_pos (.inl k2)]
       rw [this]
       exact c2
      ·rw [if_neg k2, zh]
       by_cases k3 : q = 3
       ·rw [if_pos k3]
        have : endP q [x, y] = if zK (q, x, y, []) = 0 then ((q, x, y, []), 0) else (YJ, zK (q, x, y, [])) := by unfold endP Ve; rw [if_neg h1, if_pos (.inr k3)]
        rw [this]
        exact c2
       ·rw [if_neg k3, zh]
        unfold endP Ve
        rw [if_neg h1, if_neg (show ¬ (q = 2 ∨ q = 3) by omega)]
        by_cases k4 : q = 4
        ·rw [if_pos k4, if_pos k4]; rfl
        ·rw [if_neg k4, if_neg k4]; rfl
    ·have g2 : ¬ (lenI a = 2) := by rw [zb]; omega
     have r2 : ∀ k : Int, (k = 2 ∨ k = 3) → Ve k a = none := by
      intro k hk
      unfold Ve
      rw [if_neg (by omega), if_pos hk]
      match a, h2 with
      | [], _ => rfl
      | [_], _ => rfl
      | _ :: _ :: _ :: _, _ => rfl
     simp only [zh, if_neg g2]
     by_cases k4 : q = 4
     ·subst k4
      by_cases l1 : a.length = 1
      ·match a, l1 with
       | [x], _ => exact zjS (4, 0, x, []) (by simp)
      ·have g1 : ¬ (lenI a = 1) := by rw [zb]; omega
       have : endP 4 a = (YJ, 1) := by
        unfold endP Ve
        rw [if_neg (by omega), if_neg (by omega), if_pos rfl]
        match a, l1 with
        | [], _ => rfl
        | _ :: _ :: _, _ => rfl
       rw [this]
       simp only [if_neg g1]
       rfl
     ·simp only [if_neg k4]
      have : endP q a = (YJ, 1) := by
       unfold endP
       by_cases hk : q = 2 ∨ q = 3
       ·rw [r2 q hk]
       ·unfold Ve; rw [if_neg h1, if_neg hk, if_neg k4]
      rw [this]
      split
      ·rfl
      ·split <;> rfl
  ·cases nums xs <;> rfl
end Go.Proofs.Y
namespace Go.Proofs.Y
open Go.Rb Go.Kx
theorem z5T (s : List UInt8) : strB (bytB s) = s := by
 unfold strB bytB
 rw [List.map_map]
 have : ((fun n : Int => UInt8.ofNat n.toNat) ∘ fun b : UInt8 => (b.toNat : Int)) = id := by
  funext b; simp
 rw [this, List.map_id]
theorem ZW (s : List UInt8) : (bytB s).length = s.length := by unfold bytB; rw [List.length_map]
theorem zjT (s t : List UInt8) : bytB (s ++ t) = bytB s ++ bytB t := by unfold bytB; rw [List.map_append]
theorem zaP (s : List UInt8) (k : Nat) : (bytB s).take k = bytB (s.take k) := by unfold bytB; rw [List.map_take]
def bD (d : List UInt8 × List UInt8) : List Int × List Int := (bytB d.1, bytB d.2)
theorem zd2 (s : List UInt8) (most : Int) (hl : s.length ≤ 60000) : vc s most = some (lnP most s) := by
 unfold vc
 have key := ye (f := fun (x : List UInt8 × List (Int × Int × Int × List (Int × Int × Int))) =>
   ifB (notB (eqS (Prod.fst x) []))
    (z6 (cutO (Prod.fst x) [10])
     fun (y : List UInt8 × List UInt8 × Bool) =>
     ifB (notB (Prod.snd (Prod.snd y))) (mapO Sum.inr (some (Prod.snd x, wsub IntKind.i64 (lenI s) (lenI (Prod.fst x)), 8)))
      (z6 (V1 (Prod.fst y)) fun (y_1 : (Int × Int × Int × List (Int × Int × Int)) × Int) =>
       ifB (neI (Prod.snd y_1) 0) (mapO Sum.inr (some (Prod.snd x, wsub IntKind.i64 (lenI s) (lenI (Prod.fst x)), Prod.snd y_1)))
        (ifB (eqI (lenI (Prod.snd x)) most) (mapO Sum.inr (some (Prod.snd x, wsub IntKind.i64 (lenI s) (lenI (Prod.fst x)), 2)))
         (ifB
          (zf 48 (Prod.snd x)
           [(Prod.fst (Prod.fst y_1), Prod.fst (Prod.snd (Prod.fst y_1)), Prod.fst (Prod.snd (Prod.snd (Prod.fst y_1))),
             Prod.snd (Prod.snd (Prod.snd (Prod.fst y_1))))])
          (some
           (Sum.inl
            (Prod.fst (Prod.snd y),
             cat (Prod.snd x)
              [(Prod.fst (Prod.fst y_1), Prod.fst (Prod.snd (Prod.fst y_1)), Prod.fst (Prod.snd (Prod.snd (Prod.fst y_1))),
                Prod.snd (Prod.snd (Prod.snd (Prod.fst y_1))))])))
          none))))
    (mapO Sum.inr (some (Prod.snd x, lenI s, 0))))
  (G := fun x => some (lnW most s.length (sp 10 x.1) x.2)) (P := fun x => x.1.length + x.2.length ≤ s.length) (μ := fun x => x.1.length) ?_ maxR (s, []) (by simp) (by unfold maxR; simp only; omega)
 ·exact key
 ·rintro ⟨t, acc⟩ hp k hk
  simp only at hp hk ⊢
  have hw : wsub .i64 (lenI s) (lenI t) = (s.length : Int) - t.length := by rw [zb, zb, ZJ ⟨by omega, by omega⟩]
  rw [za, zC, Zu]
  by_cases h0 : t = []
  ·subst h0
   rw [if_pos rfl, zd]
   rfl
  ·rw [if_neg h0, hw]
   have hc : cutO t [10] = some (Lib.cut t [10]) := by unfold cutO; rw [if_pos (by omega)]
   rw [hc, z7, za, zd, zC]
   rcases z7T 10 t with hn | ⟨w, l, rfl, hn⟩
   ·rw [zd0 hn]
    show some _ = _
    rw [zbl 10 hn, lnW, if_pos rfl, if_neg h0]
   ·rw [zd1 hn]
    simp only [Z6]
    rw [zpB, z7, za, zd, zk, za, zd, zh, zb, zaO 10 w l hn, lnW, if_neg (JS 10 l), z1Z 10 w (JS 10 l), z5S]
    split
    ·split
     ·rfl
     ·simp only [List.length_append, List.length_cons] at hp hk
      rw [za, zo, zz, if_pos (by simp; omega)]
      simp only [zX]
      exact hk _ (by simp; omega) (by simp only; omega)
    ·rfl
theorem jh (d : List UInt8 × List UInt8) (h1 : d.1.length < 4611686018427387904) (h2 : d.2.length < 4611686018427387904) : yQ (bytB d.1, bytB d.2) = some (ZN d) := by
 unfold yQ ZN
 simp only [zb, ZW, zy, z5T]
 rw [ZJ ⟨by omega, by omega⟩]
 by_cases k1 : 60000 < d.1.length
 ·rw [if_pos (by omega), if_pos k1]
 ·rw [if_neg (by omega), if_neg k1, zd2 _ _ (by omega), z7]
  by_cases k2 : 60000 - d.1.length < d.2.length
  ·rw [if_pos (by omega), if_pos k2]
  ·rw [if_neg (by omega), if_neg k2]
theorem jM (s : List UInt8) (h : s.length ≤ 60000) : YR (bytB s) = some (bytB s) := by
 unfold YR
 exact z0m 1 (bytB s) (by rw [ZW]; omega) (by rw [ZW]; omega)
theorem z6r (s t : List UInt8) (h : s.length + t.length ≤ 60000) : Vd [bytB s, bytB t] = some (bytB (s ++ t)) := by
 unfold Vd
 rw [zjT, ← z1O]
 refine z3y 1 0 [bytB s, bytB t] (by simp) (by omega) ?_ (by omega)
 rw [z1O, List.length_append, ZW, ZW]; omega
theorem zqK (d : List UInt8 × List UInt8) (r : Rc) (h1 : d.1.length < 4611686018427387904) (h2 : d.2.length < 4611686018427387904) (hl : r.2.2.2.length < 4611686018427387904) : YI (bytB d.1, bytB d.2) r = some (bD (dPut d r).1, (dPut d r).2) := by
 unfold YI dPut
 rw [jh d h1 h2, z7, zk]
 by_cases hc : ZN d = 0
 ·have hlen := vz hc
  rw [if_pos hc, if_pos hc, show V2 (Prod.fst r, Prod.fst (Prod.snd r), Prod.fst (Prod.snd (Prod.snd r)), Prod.snd (Prod.snd (Prod.snd r))) = some (zeI r) from zpA r hl, z7, zk]
  unfold zeI
  by_cases hr : zK r = 0
  ·have ht := zoe hr
   simp only [if_pos hr, zb, ZW, zy]
   rw [ZR ⟨by omega, by omega⟩, ZJ (a := 60000) ⟨by omega, by omega⟩, ZJ ⟨by omega, by omega⟩]
   simp only [if_true]
   by_cases hf : 60000 - (d.1.length : Int) - d.2.length < (vN r).length + 1
   ·rw [if_pos hf, if_pos hf]; rfl
   ·rw [if_neg hf, if_neg hf, jM _ (by omega), z7, jM _ (by omega), z7, zz, if_pos (by rw [ZW, ZW]; omega), zz, if_pos (by rw [zX, List.length_append, ZW, ZW]; simp; omega)]
    simp only [zX, bD, zbn, zjT, List.append_assoc]
    rfl
  ·simp only [if_neg hr]; rfl
 ·rw [if_neg hc, if_neg hc]; rfl
theorem zpC (d : List UInt8 × List UInt8) (h1 : d.1.length < 4611686018427387904) (h2 : d.2.length < 4611686018427387904) : Yo (bytB d.1, bytB d.2) = some (bD (z3E d).1, (z3E d).2) := by
 unfold Yo z3E
 rw [jh d h1 h2, z7, zk]
 by_cases hc : ZN d = 0
 ·have hlen := vz hc
  rw [if_pos hc, if_pos hc]
  have e2 := jh (d.1 ++ d.2, []) (by simp; omega) (by simp)
  simp only at e2
  rw [z6r _ _ hlen, z7, show yQ (bytB (d.1 ++ d.2), []) = some (ZN (d.1 ++ d.2, [])) from e2, z7, zk]
  split <;> rfl
 ·rw [if_neg hc, if_neg hc]; rfl
theorem zog (d : List UInt8 × List UInt8) (n : Int) (h1 : d.1.length < 4611686018427387904) (h2 : d.2.length < 4611686018427387904) : vd (bytB d.1, bytB d.2) n = some (bD (z1o d n).1, (z1o d n).2) := by
 unfold vd z1o
 rw [jh d h1 h2, z7, zk]
 by_cases hc : ZN d = 0
 ·have hlen := vz hc
  simp only [if_pos hc, zb, ZW, zy, ze]
  by_cases k1 : n < 0
  ·rw [if_pos k1, if_pos (.inl k1)]; rfl
  ·rw [if_neg k1]
   by_cases k2 : (d.2.length : Int) < n
   ·rw [if_pos k2, if_pos (.inr k2)]; rfl
   ·rw [if_neg k2, if_neg (by omega), jM _ (by omega), z7, zF, if_pos ⟨by omega, by rw [ZW]; omega⟩, zP, zaP, jM _ (by rw [List.length_take]; omega)]
    rfl
 ·rw [if_neg hc, if_neg hc]; rfl
theorem z2e (d : List UInt8 × List UInt8) (h1 : d.1.length < 4611686018427387904) (h2 : d.2.length < 4611686018427387904) : y7 (bytB d.1, bytB d.2) = some (bD (zA d).1, (zA d).2) := by
 unfold y7 zA
 rw [jh d h1 h2, z7, zk]
 by_cases hc : ZN d = 0
 ·have hlen := vz hc
  have n1 := zbm 60 d.1
  have hm := zpZ (60 - ((lnP 60 d.1).1.length : Int)) d.2
  have n2 := zbm (60 - ((lnP 60 d.1).1.length : Int)) d.2
  rw [if_pos hc, if_pos hc]
  simp only [z5T]
  rw [zd2 _ _ (by omega), z7, zb, ZJ ⟨by omega, by omega⟩, zd2 _ _ (by omega), z7, zF, if_pos ⟨hm.1, by rw [ZW]; exact hm.2⟩, zP, zaP, z6r _ _ (by rw [List.length_take]; omega), z7, zz, if_pos (by omega)]
  rfl
 ·rw [if_neg hc, if_neg hc]; rfl
theorem at_some (a b : Int) (hb : 0 < b) (hb2 : b ≤ 4611686018427387904) : ∃ n, z4t a b = some n ∧ 0 ≤ n ∧ n < b := by
 unfold z4t wrem
 rw [zh, if_neg (by omega), ze]
 have h1 := Int.tmod_lt_of_pos a hb
 have h2 : -b < a.tmod b := by
  have := Int.tmod_lt_of_pos (-a) hb
  rw [Int.neg_tmod] at this
  omega
 by_cases h : a.tmod b < 0
 ·rw [if_pos h, ZR ⟨by omega, by omega⟩]
  exact ⟨_, rfl, by omega, by omega⟩
 ·rw [if_neg h]
  exact ⟨_, rfl, by omega, h1⟩
end Go.Proofs.Y
namespace Go.Proofs.Y
open Go.Rb Go.Kx
theorem zkU (a b : List Rc) (h : a.length + b.length ≤ 60) : z1m [a, b] = some (a ++ b) := by
 unfold z1m
 rw [← z1O]
 refine z3y 48 (0, 0, 0, []) [a, b] (by simp) (by omega) ?_ (by omega)
 rw [z1O, List.length_append]; omega
theorem z2r {r : Rc} (h : zK r = 0) : r.2.2.2.length < 4611686018427387904 := by
 obtain ⟨k1, k2, k3, k4⟩ := JF h
 by_cases hk : r.1 = 1
 ·have := (k3 hk).2.2.1; omega
 ·rw [(k4 hk).1]; decide
end Go.Proofs.Y
namespace Go.Proofs.Y
open Go.Rb Go.Kx
noncomputable def z8N : Code := zj Tryz.f24
noncomputable def z8O : FuncId → Option GS := tabG [(34, jL), (28, jG), (35, zab)]
theorem zhs : ΓOK Tryz.prog z8O := z8 (Jj) (z8 (Ji) (z8 (ze4) (zg)))
def z8P : HT := ⟨tabL [(14, .it [] (dyn [.t 53 (.int .i64)]))], tabH []⟩
abbrev z23 : List IT := [.v (.cons (.sl 95 (.cons (.sl 126 (.cons (.int .i64) (.cons (.int .i64) (.cons (.int .i64) (.one (.sl 4 (.one .bool))))))) (.one (.sl 73 (.cons (.int .i64) (.one (.int .i64))))))) (.cons (.sl 5 (.one (.int .u8))) (.cons (.sl 5 (.one (.int .u8))) (.cons (.bool) (.one (.sl 3 (.one (.int .i64)))))))) true]
abbrev z7e : List OT := [⟨.one (.int .i64), false, []⟩]
set_option maxRecDepth 100000
noncomputable def yW : List (List (Int × Int × Int × List Bool) × List (Int × Int)) × List Int × List Int × Bool × List Int → Option Int := fun a => z6 (y7 (a.2.1, a.2.2.1)) fun y => ifB (neI y.2.2 0) (some y.2.2) (ifB a.2.2.2.1 (ifB (gtI (lenI a.2.2.1) 0) (some 4) (ifB (notB a.2.2.2.1) (z6 (ZV []) fun y => ifB (neI y.2 0) (some y.2) (z6 (Ya y.1 a.1) fun y => ifB (notB y) (some 4) (ifB (neI (lenI a.2.2.2.2) 3) (some 4) (zi maxR (fun (x : Int) => ifB (ltI x (lenI a.2.2.2.2)) (z6 (atI a.2.2.2.2 x) fun y => ifB (ltI y (-1)) (mapO Sum.inr (some 3)) (ifB (gtI y 0) (mapO Sum.inr (some 3)) (ifB (notB a.2.2.2.1) (ifB (neI y (-1)) (mapO Sum.inr (some 3)) (some (Sum.inl (wadd .i64 x 1)))) (some (Sum.inl (wadd .i64 x 1)))))) (mapO Sum.inr (some 0))) 0)))) (z6 (ZV y.2.1) fun y_1 => ifB (neI y_1.2 0) (some y_1.2) (z6 (Ya y_1.1 a.1) fun y_2 => ifB (notB y_2) (some 4) (ifB (neI (lenI a.2.2.2.2) 3) (some 4) (zi maxR (fun (x : Int) => ifB (ltI x (lenI a.2.2.2.2)) (z6 (atI a.2.2.2.2 x) fun y_3 => ifB (ltI y_3 (-1)) (mapO Sum.inr (some 3)) (ifB (gtI y_3 (lenI y.2.1)) (mapO Sum.inr (some 3)) (ifB (notB a.2.2.2.1) (ifB (neI y_3 (-1)) (mapO Sum.inr (some 3)) (some (Sum.inl (wadd .i64 x 1)))) (some (Sum.inl (wadd .i64 x 1)))))) (mapO Sum.inr (some 0))) 0)))))) (ifB (notB a.2.2.2.1) (z6 (ZV []) fun y => ifB (neI y.2 0) (some y.2) (z6 (Ya y.1 a.1) fun y => ifB (notB y) (some 4) (ifB (neI (lenI a.2.2.2.2) 3) (some 4) (zi maxR (fun (x : Int) => ifB (ltI x (lenI a.2.2.2.2)) (z6 (atI a.2.2.2.2 x) fun y => ifB (ltI y (-1)) (mapO Sum.inr (some 3)) (ifB (gtI y 0) (mapO Sum.inr (some 3)) (ifB (notB a.2.2.2.1) (ifB (neI y (-1)) (mapO Sum.inr (some 3)) (some (Sum.inl (wadd .i64 x 1)))) (some (Sum.inl (wadd .i64 x 1)))))) (mapO Sum.inr (some 0))) 0)))) (z6 (ZV y.2.1) fun y_1 => ifB (neI y_1.2 0) (some y_1.2) (z6 (Ya y_1.1 a.1) fun y_2 => ifB (notB y_2) (some 4) (ifB (neI (lenI a.2.2.2.2) 3) (some 4) (zi maxR (fun (x : Int) => ifB (ltI x (lenI a.2.2.2.2)) (z6 (atI a.2.2.2.2 x) fun y_3 => ifB (ltI y_3 (-1)) (mapO Sum.inr (some 3)) (ifB (gtI y_3 (lenI y.2.1)) (mapO Sum.inr (some 3)) (ifB (notB a.2.2.2.1) (ifB (neI y_3 (-1)) (mapO Sum.inr (some 3)) (some (Sum.inl (wadd .i64 x 1)))) (some (Sum.inl (wadd .i64 x 1)))))) (mapO Sum.inr (some 0))) 0))))))
theorem zd3 (x : PI z23) : yW x = fnE T z8O z8P z8N (zt Tryz.f24) z23 z7e x := by kernel_rfl
noncomputable abbrev z2U : GS := zw false z23 z7e fun x => yW x
theorem z4D : GSOK Tryz.prog 24 z2U := zm tok zhs fmo (Ht := z8P) (fn := Tryz.f24) (Tryz.func24) (c := z8N) (by kernel_rfl) (by kernel_rfl) (by kernel_rfl) (by decide +kernel) (by decide) zd3
end Go.Proofs.Y
namespace Go.Proofs.Y
open Go.Rb Go.Kx
noncomputable def zgM : Code := zj Tryz.f107
noncomputable def zgN : FuncId → Option GS := tabG [(137, z06), (138, z5r), (139, z45), (140, z4h)]
theorem zoh : ΓOK Tryz.prog zgN := z8 (VX) (z8 (z48) (z8 (z29) (z8 (z5v) (zg))))
def zgO : HT := ⟨tabL [(3, .unroll 5), (7, .it [] (dyn [.t 33 (.int .i64), .b 29 0 126 (.cons (.int .i64) (.cons (.int .i64) (.cons (.int .i64) (.one (.sl 4 (.one .bool))))))]))], tabH [(2, [.expl 1 0]), (12, [.frzq 1 0 0, .frzq 1 0 1, .frzq 1 0 2, .frzq 1 0 3, .frzq 1 0 4, .frzq 1 0 5, .frzq 1 0 6, .frzq 1 0 7, .pack 1 0 (.cons (.sl 126 (.cons (.int .i64) (.cons (.int .i64) (.cons (.int .i64) (.one (.sl 4 (.one .bool))))))) (.one (.sl 73 (.cons (.int .i64) (.one (.int .i64))))))])]⟩
abbrev z7V : List IT := [.v (.one (.sl 95 (.cons (.sl 126 (.cons (.int .i64) (.cons (.int .i64) (.cons (.int .i64) (.one (.sl 4 (.one .bool))))))) (.one (.sl 73 (.cons (.int .i64) (.one (.int .i64)))))))) true]
abbrev zeJ : List OT := [⟨.one (.sl 95 (.cons (.sl 126 (.cons (.int .i64) (.cons (.int .i64) (.cons (.int .i64) (.one (.sl 4 (.one .bool))))))) (.one (.sl 73 (.cons (.int .i64) (.one (.int .i64))))))), true, []⟩]
set_option maxRecDepth 100000
noncomputable def z2s : List (List (Int × Int × Int × List Bool) × List (Int × Int)) → Option (List (List (Int × Int × Int × List Bool) × List (Int × Int))) := fun a => z6 (Ye a) fun y => z6 (four y) fun (y : (List (Int × Int × Int × List Bool) × List (Int × Int)) × (List (Int × Int × Int × List Bool) × List (Int × Int)) × (List (Int × Int × Int × List Bool) × List (Int × Int)) × List (Int × Int × Int × List Bool) × List (Int × Int)) => z6 (Za y.1.1) fun y_1 => z6 (Zl y.1.2) fun y_2 => zi maxR (fun (x : Int × List (Int × Int × Int × List Bool)) => ifB (ltI x.1 (lenI y.1.1)) (z6 (atI y.1.1 x.1) fun y => z6 (zO (y.1, y.2.1, y.2.2.1, y.2.2.2)) fun y => ifB (ltL x.1 x.2) (z6 (atN x.2 (natI x.1)) fun y_3 => some (Sum.inl (wadd .i64 x.1 1, setN x.2 (natI x.1) (y.1, y.2.1, y.2.2.1, y.2.2.2)))) none) (mapO Sum.inr (z6 (Za y.2.1.1) fun y_3 => z6 (Zl y.2.1.2) fun y_4 => zi maxR (fun (x_1 : Int × List (Int × Int × Int × List Bool)) => ifB (ltI x_1.1 (lenI y.2.1.1)) (z6 (atI y.2.1.1 x_1.1) fun y => z6 (zO (y.1, y.2.1, y.2.2.1, y.2.2.2)) fun y => ifB (ltL x_1.1 x_1.2) (z6 (atN x_1.2 (natI x_1.1)) fun y_5 => some (Sum.inl (wadd .i64 x_1.1 1, setN x_1.2 (natI x_1.1) (y.1, y.2.1, y.2.2.1, y.2.2.2)))) none) (mapO Sum.inr (z6 (Za y.2.2.1.1) fun y_5 => z6 (Zl y.2.2.1.2) fun y_6 => zi maxR (fun (x_2 : Int × List (Int × Int × Int × List Bool)) => ifB (ltI x_2.1 (lenI y.2.2.1.1)) (z6 (atI y.2.2.1.1 x_2.1) fun y => z6 (zO (y.1, y.2.1, y.2.2.1, y.2.2.2)) fun y => ifB (ltL x_2.1 x_2.2) (z6 (atN x_2.2 (natI x_2.1)) fun y_7 => some (Sum.inl (wadd .i64 x_2.1 1, setN x_2.2 (natI x_2.1) (y.1, y.2.1, y.2.2.1, y.2.2.2)))) none) (mapO Sum.inr (z6 (Za y.2.2.2.1) fun y_7 => z6 (Zl y.2.2.2.2) fun y_8 => zi maxR (fun (x_3 : Int × List (Int × Int × Int × List Bool)) => ifB (ltI x_3.1 (lenI y.2.2.2.1)) (z6 (atI y.2.2.2.1 x_3.1) fun y => z6 (zO (y.1, y.2.1, y.2.2.1, y.2.2.2)) fun y => ifB (ltL x_3.1 x_3.2) (z6 (atN x_3.2 (natI x_3.1)) fun y_9 => some (Sum.inl (wadd .i64 x_3.1 1, setN x_3.2 (natI x_3.1) (y.1, y.2.1, y.2.2.1, y.2.2.2)))) none) (mapO Sum.inr (some [(x.2, y_2), (x_1.2, y_4), (x_2.2, y_6), (x_3.2, y_8)]))) (0, y_7)))) (0, y_5)))) (0, y_3)))) (0, y_1)
theorem zjU (x : PI z7V) : z2s x = fnE T zgN zgO zgM (zt Tryz.f107) z7V zeJ x := by kernel_rfl
noncomputable abbrev zgP : GS := zw false z7V zeJ fun x => z2s x
theorem zjV : GSOK Tryz.prog 107 zgP := zm tok zoh fmo (Ht := zgO) (fn := Tryz.f107) (Tryz.func107) (c := zgM) (by kernel_rfl) (by kernel_rfl) (by kernel_rfl) (by decide +kernel) (by decide) zjU
end Go.Proofs.Y
namespace Go.Proofs.Y
open Go.Rb Go.Kx
noncomputable def zjW : Code := zj Tryz.f69
noncomputable def zjX : FuncId → Option GS := tabG []
theorem zpD : ΓOK Tryz.prog zjX := zg
def zjY : HT := ⟨tabL [], tabH []⟩
abbrev zaQ : List IT := [.v (.one (.sl 3 (.one (.int .i64)))) false]
abbrev zgQ : List OT := [⟨.one (.sl 3 (.one (.int .i64))), false, [true]⟩]
set_option maxRecDepth 100000
noncomputable def z7W : List Int → Option (List Int) := fun a => ifB (isE a) (ambO (some []) (ifB (zf 8 [] a) (some (cat [] a)) none)) (ifB (zf 8 [] a) (some (cat [] a)) none)
theorem zkV (x : PI zaQ) : z7W x = fnE T zjX zjY zjW (zt Tryz.f69) zaQ zgQ x := by kernel_rfl
noncomputable abbrev zjZ : GS := zw false zaQ zgQ fun x => z7W x
theorem zkW : GSOK Tryz.prog 69 zjZ := zm tok zpD fmo (Ht := zjY) (fn := Tryz.f69) (Tryz.func69) (c := zjW) (by kernel_rfl) (by kernel_rfl) (by kernel_rfl) (by decide +kernel) (by decide) zkV
end Go.Proofs.Y
namespace Go.Proofs.Y
open Go.Rb Go.Kx
noncomputable def zaR : Code := zj Tryz.f60
noncomputable def zaS : FuncId → Option GS := tabG [(107, zgP), (69, zjZ), (86, z5O)]
theorem zk0 : ΓOK Tryz.prog zaS := z8 (zjV) (z8 (zkW) (z8 (z4y) (zg)))
def zaT : HT := ⟨tabL [], tabH []⟩
abbrev z2V : List IT := [.v (.cons (.sl 95 (.cons (.sl 126 (.cons (.int .i64) (.cons (.int .i64) (.cons (.int .i64) (.one (.sl 4 (.one .bool))))))) (.one (.sl 73 (.cons (.int .i64) (.one (.int .i64))))))) (.cons (.sl 5 (.one (.int .u8))) (.cons (.sl 5 (.one (.int .u8))) (.cons (.bool) (.one (.sl 3 (.one (.int .i64)))))))) true]
abbrev z8Q : List OT := [⟨.cons (.sl 95 (.cons (.sl 126 (.cons (.int .i64) (.cons (.int .i64) (.cons (.int .i64) (.one (.sl 4 (.one .bool))))))) (.one (.sl 73 (.cons (.int .i64) (.one (.int .i64))))))) (.cons (.sl 5 (.one (.int .u8))) (.cons (.sl 5 (.one (.int .u8))) (.cons (.bool) (.one (.sl 3 (.one (.int .i64))))))), true, [false, false, false, false, true]⟩]
set_option maxRecDepth 100000
noncomputable def yS : List (List (Int × Int × Int × List Bool) × List (Int × Int)) × List Int × List Int × Bool × List Int → Option (List (List (Int × Int × Int × List Bool) × List (Int × Int)) × List Int × List Int × Bool × List Int) := fun a => z6 (z2s a.1) fun y => z6 (z7W a.2.2.2.2) fun y_1 => z6 (YR a.2.1) fun y_2 => z6 (YR a.2.2.1) fun y_3 => some (y, y_2, y_3, a.2.2.2.1, y_1)
theorem zeK (x : PI z2V) : yS x = fnE T zaS zaT zaR (zt Tryz.f60) z2V z8Q x := by kernel_rfl
noncomputable abbrev zaU : GS := zw false z2V z8Q fun x => yS x
theorem zeL : GSOK Tryz.prog 60 zaU := zm tok zk0 fmo (Ht := zaT) (fn := Tryz.f60) (Tryz.func60) (c := zaR) (by kernel_rfl) (by kernel_rfl) (by kernel_rfl) (by decide +kernel) (by decide) zeK
end Go.Proofs.Y
namespace Go.Proofs.Y
open Go.Rb Go.Kx
noncomputable def z3a : Code := zj Tryz.f166
noncomputable def z3b : FuncId → Option GS := tabG []
theorem zbt : ΓOK Tryz.prog z3b := zg
def z3c : HT := ⟨tabL [], tabH []⟩
noncomputable def z3d : GS := inl T z3b z3c z3a (zt Tryz.f166) (Tryz.f166.ntmps)
theorem z7X : GSOK Tryz.prog 166 z3d := yZ tok zbt fmo (Ht := z3c) (fn := Tryz.f166) (Tryz.func166) (c := z3a) (by kernel_rfl) (by kernel_rfl) (by kernel_rfl)
end Go.Proofs.Y
namespace Go.Proofs.Y
open Go.Rb Go.Kx
noncomputable def z3e : Code := zj Tryz.f167
noncomputable def z3f : FuncId → Option GS := tabG []
theorem zbu : ΓOK Tryz.prog z3f := zg
def z3g : HT := ⟨tabL [], tabH []⟩
noncomputable def z3h : GS := inl T z3f z3g z3e (zt Tryz.f167) (Tryz.f167.ntmps)
theorem z7Y : GSOK Tryz.prog 167 z3h := yZ tok zbu fmo (Ht := z3g) (fn := Tryz.f167) (Tryz.func167) (c := z3e) (by kernel_rfl) (by kernel_rfl) (by kernel_rfl)
end Go.Proofs.Y
namespace Go.Proofs.Y
open Go.Rb Go.Kx
noncomputable def z5U : Code := zj Tryz.f144
noncomputable def z5V : FuncId → Option GS := tabG [(166, z3d), (167, z3h)]
theorem zeM : ΓOK Tryz.prog z5V := z8 (z7X) (z8 (z7Y) (zg))
def z5W : HT := ⟨tabL [], tabH []⟩
noncomputable def z5X : GS := inl T z5V z5W z5U (zt Tryz.f144) (Tryz.f144.ntmps)
theorem zaV : GSOK Tryz.prog 144 z5X := yZ tok zeM fmo (Ht := z5W) (fn := Tryz.f144) (Tryz.func144) (c := z5U) (by kernel_rfl) (by kernel_rfl) (by kernel_rfl)
end Go.Proofs.Y
namespace Go.Proofs.Y
open Go.Rb Go.Kx
noncomputable def zgR : Code := zj Tryz.f113
noncomputable def zgS : FuncId → Option GS := tabG [(144, z5X)]
theorem zoi : ΓOK Tryz.prog zgS := z8 (zaV) (zg)
def zgT : HT := ⟨tabL [(8, .unroll 4)], tabH []⟩
noncomputable def zgU : GS := inl T zgS zgT zgR (zt Tryz.f113) (Tryz.f113.ntmps)
theorem zk1 : GSOK Tryz.prog 113 zgU := yZ tok zoi fmo (Ht := zgT) (fn := Tryz.f113) (Tryz.func113) (c := zgR) (by kernel_rfl) (by kernel_rfl) (by kernel_rfl)
end Go.Proofs.Y
namespace Go.Proofs.Y
open Go.Rb Go.Kx
noncomputable def z7f : Code := zj Tryz.f76
noncomputable def z7g : FuncId → Option GS := tabG [(113, zgU)]
theorem zfv : ΓOK Tryz.prog z7g := z8 (zk1) (zg)
def z7h : HT := ⟨tabL [], tabH []⟩
abbrev z1p : List IT := []
abbrev z5Y : List OT := [⟨.one (.sl 3 (.one (.int .i64))), false, [true]⟩]
set_option maxRecDepth 100000
noncomputable def yD : Option (List Int) := some [-1, -1, -1]
theorem zbv (x : PI z1p) : yD  = fnE T z7g z7h z7f (zt Tryz.f76) z1p z5Y x := by kernel_rfl
noncomputable abbrev jN : GS := zw false z1p z5Y fun x => yD 
theorem Jk : GSOK Tryz.prog 76 jN := zm tok zfv fmo (Ht := z7h) (fn := Tryz.f76) (Tryz.func76) (c := z7f) (by kernel_rfl) (by kernel_rfl) (by kernel_rfl) (by decide +kernel) (by decide) zbv
end Go.Proofs.Y
namespace Go.Proofs.Y
open Go.Rb Go.Kx
noncomputable def zcm : Code := zj Tryz.f26
noncomputable def zcn : FuncId → Option GS := tabG [(75, JD), (76, jN)]
theorem zkX : ΓOK Tryz.prog zcn := z8 (jF) (z8 (Jk) (zg))
def zco : HT := ⟨tabL [], tabH []⟩
abbrev z4E : List IT := []
abbrev zaW : List OT := [⟨.cons (.sl 95 (.cons (.sl 126 (.cons (.int .i64) (.cons (.int .i64) (.cons (.int .i64) (.one (.sl 4 (.one .bool))))))) (.one (.sl 73 (.cons (.int .i64) (.one (.int .i64))))))) (.cons (.sl 5 (.one (.int .u8))) (.cons (.sl 5 (.one (.int .u8))) (.cons (.bool) (.one (.sl 3 (.one (.int .i64))))))), true, []⟩]
set_option maxRecDepth 100000
noncomputable def JH : Option (List (List (Int × Int × Int × List Bool) × List (Int × Int)) × List Int × List Int × Bool × List Int) :=  z6 yP fun y => z6 yD fun y_1 => some (y, [], [], true, y_1)
theorem zfw (x : PI z4E) : JH  = fnE T zcn zco zcm (zt Tryz.f26) z4E zaW x := by kernel_rfl
noncomputable abbrev zcp : GS := zw false z4E zaW fun x => JH 
theorem zfx : GSOK Tryz.prog 26 zcp := zm tok zkX fmo (Ht := zco) (fn := Tryz.f26) (Tryz.func26) (c := zcm) (by kernel_rfl) (by kernel_rfl) (by kernel_rfl) (by decide +kernel) (by decide) zfw
end Go.Proofs.Y
namespace Go.Proofs.Y
open Go.Rb Go.Kx
abbrev Wv := Shf × List Int × List Int × Bool × List Int
def wv (s : Shf) (d : List UInt8 × List UInt8) (up : Bool) (rd : List Int) : Wv := (s, bytB d.1, bytB d.2, up, rd)
def rdE (n : Int) (up : Bool) : List Int → Int
 | [] => 0
 | v :: r => if v < -1 ∨ n < v ∨ (up = false ∧ ¬ v = -1) then 3 else rdE n up r
def chkL (s : Shf) (l : List Rc) (up : Bool) (rd : List Int) : Int :=
 if (zY l).2 = 0 then (if (zY l).1 = s then (if rd.length = 3 then rdE l.length up rd else 4) else 4) else (zY l).2
def chkW (s : Shf) (d : List UInt8 × List UInt8) (up : Bool) (rd : List Int) : Int :=
 if (zA d).2.2 = 0 then (if up = true then (if 0 < d.2.length then 4 else chkL s (zA d).2.1 up rd) else chkL s [] up rd) else (zA d).2.2
theorem zrv (rd : List Int) (n : Int) (up : Bool) (hl : rd.length < 4611686018427387904) :
  zi maxR (fun (x : Int) => ifB (ltI x (lenI rd)) (z6 (atI rd x) fun (y : Int) => ifB (ltI y (-1)) (mapO Sum.inr (some 3)) (ifB (gtI y n) (mapO Sum.inr (some 3)) (ifB (notB up) (ifB (neI y (-1)) (mapO Sum.inr (some 3)) (some (Sum.inl (wadd IntKind.i64 x 1)))) (some (Sum.inl (wadd IntKind.i64 x 1)))))) (mapO Sum.inr (some 0))) 0 = some (rdE n up rd) := by
 refine zS rd (fun j (_ : Unit) => (j : Int)) (G := fun rest _ => some (rdE n up rest)) (P := fun _ _ => True) (s0 := ()) ?_ ?_ trivial (by omega)
 ·rintro j _ hj _ k hk
  have hat := zN hj
  generalize rd.getD j default = v at *
  simp only [za, zx, zd, zo]
  rw [ze, zb, if_pos (by omega), hat, z7, ze, zy, zC, zk, zD (by omega), hk () trivial, rdE]
  cases up with
  | true =>
   rw [Z6]
   by_cases c : v < -1 ∨ n < v ∨ (true = false ∧ ¬ v = -1)
   ·rw [if_pos c]
    by_cases c1 : v < -1
    ·rw [if_pos c1]
    ·rw [if_neg c1, if_pos (by rcases c with c | c | c; exact absurd c c1; exact c; cases c.1)]
   ·rw [if_neg c, if_neg (fun h => c (.inl h)), if_neg (fun h => c (.inr (.inl h)))]
  | false =>
   rw [Zw]
   by_cases c : v < -1 ∨ n < v ∨ (false = false ∧ ¬ v = -1)
   ·rw [if_pos c]
    by_cases c1 : v < -1
    ·rw [if_pos c1]
    ·rw [if_neg c1]
     by_cases c2 : n < v
     ·rw [if_pos c2]
     ·rw [if_neg c2, if_neg (by rcases c with c | c | c; exact absurd c c1; exact absurd c c2; exact c.2)]
   ·rw [if_neg c, if_neg (fun h => c (.inl h)), if_neg (fun h => c (.inr (.inl h))), if_pos (Classical.byContradiction fun h => c (.inr (.inr ⟨rfl, h⟩)))]
 ·rintro _ _ k
  simp only [za, zd]
  rw [ze, zb, if_neg (by omega)]; rfl
theorem zd4 (d : List UInt8 × List UInt8) (h : (zA d).2.2 = 0) : (zA d).2.1.length ≤ 60002 := by
 unfold zA at h ⊢
 split at h
 ·rename_i hc
  rw [if_pos hc]
  have hl := vz hc
  have n1 := zbm 60 d.1
  have n2 := zbm (60 - ((lnP 60 d.1).1.length : Int)) d.2
  simp only [List.length_append, JT]; omega
 ·rename_i hc; exact absurd h hc
theorem zfy (most all : Int) : ∀ (ws : List (List UInt8)) (acc : List Rc), (∀ r ∈ acc, zK r = 0) → ∀ r ∈ (lnW most all ws acc).1, zK r = 0
 | [], acc, h => h
 | w :: ws, acc, h => by
  rw [lnW]
  split
  ·split
   ·exact h
   ·exact h
  ·split
   ·rename_i hp
    split
    ·exact h
    ·exact zfy most all ws _ fun r hr => by
      rcases List.mem_append.1 hr with hr | hr
      ·exact h r hr
      ·rw [List.mem_singleton.1 hr]; exact (zgK hp).1
   ·exact h
theorem zbo (d : List UInt8 × List UInt8) : ∀ r ∈ (zA d).2.1, zK r = 0 := by
 unfold zA
 split
 ·intro r hr
  rcases List.mem_append.1 hr with hr | hr
  ·exact zfy _ _ _ [] (by simp) r hr
  ·exact zfy _ _ _ [] (by simp) r hr
 ·intro r hr; cases hr
theorem z8R (s : Shf) (d : List UInt8 × List UInt8) (up : Bool) (rd : List Int) (h1 : d.1.length < 4611686018427387904) (h2 : d.2.length < 4611686018427387904) (hrd : rd.length < 4611686018427387904) : yW (wv s d up rd) = some (chkW s d up rd) := by
 unfold yW chkW
 simp only [wv]
 rw [z2e d h1 h2, z7]
 simp only
 rw [zk]
 by_cases hr : (zA d).2.2 = 0
 ·have hn := zd4 d hr
  have hok := zbo d
  rw [if_pos hr, if_pos hr]
  have tailL : ∀ l : List Rc, l.length < 4611686018427387904 → (∀ r ∈ l, r.2.2.2.length < 4611686018427387904) → (z6 (ZV l) fun (y_1 : List (List (Int × Int × Int × List Bool) × List (Int × Int)) × Int) =>
    ifB (neI (Prod.snd y_1) 0) (some (Prod.snd y_1)) (z6 (Ya (Prod.fst y_1) s) fun (y_2 : Bool) => ifB (notB y_2) (some 4) (ifB (neI (lenI rd) 3) (some 4)
     (zi maxR (fun (x : Int) => ifB (ltI x (lenI rd)) (z6 (atI rd x) fun (y_3 : Int) => ifB (ltI y_3 (-1)) (mapO Sum.inr (some 3)) (ifB (gtI y_3 (lenI l)) (mapO Sum.inr (some 3)) (ifB (notB up) (ifB (neI y_3 (-1)) (mapO Sum.inr (some 3)) (some (Sum.inl (wadd IntKind.i64 x 1)))) (some (Sum.inl (wadd IntKind.i64 x 1)))))) (mapO Sum.inr (some 0))) 0)))) = some (chkL s l up rd) := by
   intro l hl he
   unfold chkL
   rw [zaq l hl he, z7, zk, zrv rd (lenI l) up hrd]
   by_cases c : (zY l).2 = 0
   ·rw [if_pos c, if_pos c, zjr _ _ (z6n l), z7, zC, zQ, zk, zb, zb]
    by_cases c2 : (zY l).1 = s
    ·rw [if_pos c2, if_pos c2]
     by_cases c3 : rd.length = 3
     ·rw [if_pos (by omega), if_pos c3]
     ·rw [if_neg (by omega), if_neg c3]
    ·rw [if_neg c2, if_neg c2]
   ·rw [if_neg c, if_neg c]
  have t1 := tailL (zA d).2.1 (by omega) fun r hr => z2r (hok r hr)
  have t0 := tailL [] (by decide) (by simp)
  simp only [show lenI ([] : List Rc) = 0 from rfl] at t0
  rw [t1, t0]
  cases up with
  | true =>
   rw [Z6, if_pos rfl, zy, zb, ZW]
   simp only [notB, Bool.not_true]
   rw [Zw]
   by_cases c : 0 < d.2.length
   ·rw [if_pos (by omega), if_pos c]
   ·rw [if_neg (by omega), if_neg c]
  | false =>
   rw [Zw]
   simp only [notB, Bool.not_false]
   rw [Z6, if_neg (by decide)]
 ·rw [if_neg hr, if_neg hr]
theorem zmT (s : Shf) (hc : chkS s = 0) : z2s s = some s := by
 obtain ⟨h4, hr⟩ := chkS_zero.1 hc
 obtain ⟨r0, r1, r2, r3, rfl⟩ := len4 h4
 simp only [List.mem_cons, List.not_mem_nil, or_false, forall_eq_or_imp, forall_eq] at hr
 obtain ⟨a0, a1, a2, a3⟩ := hr
 have b0 := (Zg a0).1; have b1 := (Zg a1).1; have b2 := (Zg a2).1; have b3 := (Zg a3).1
 unfold z2s
 exact zef r0 r1 r2 r3 (y0 a0) (y0 a1) (y0 a2) (y0 a3) b0 b1 b2 b3 (fun y_2 y_4 y_6 y_8 x x_1 x_2 x_3 => some [(Prod.snd x, y_2), (Prod.snd x_1, y_4), (Prod.snd x_2, y_6), (Prod.snd x_3, y_8)])
theorem zoj {a : List Int} (h : a.length ≤ 1000000000) : z7W a = some a := z0m 8 a (by omega) (by omega)
theorem zaX (s : Shf) (d : List UInt8 × List UInt8) (up : Bool) (rd : List Int) (hc : chkS s = 0) (hd : d.1.length + d.2.length ≤ 60000) (hrd : rd.length = 3) : yS (wv s d up rd) = some (wv s d up rd) := by
 unfold yS
 simp only [wv]
 rw [zmT s hc, z7, zoj (by omega), z7, jM _ (by omega), z7, jM _ (by omega)]
 rfl
end Go.Proofs.Y
namespace Go.Proofs.Y
open Go.Rb Go.Kx
noncomputable def zk2 : Code := zj Tryz.f108
noncomputable def zk3 : FuncId → Option GS := tabG [(31, z4l), (32, zeF), (141, zaI), (75, JD), (76, jN), (33, zcl)]
theorem zpE : ΓOK Tryz.prog zk3 := z8 (z5y) (z8 (zhr) (z8 (zez) (z8 (jF) (z8 (Jk) (z8 (zft) (zg))))))
def zk4 : HT := ⟨tabL [], tabH []⟩
noncomputable def zk5 : GS := inl T zk3 zk4 zk2 (zt Tryz.f108) (Tryz.f108.ntmps)
theorem zkY : GSOK Tryz.prog 108 zk5 := yZ tok zpE fmo (Ht := zk4) (fn := Tryz.f108) (Tryz.func108) (c := zk2) (by kernel_rfl) (by kernel_rfl) (by kernel_rfl)
end Go.Proofs.Y
namespace Go.Proofs.Y
open Go.Rb Go.Kx
noncomputable def zgV : Code := zj Tryz.f61
noncomputable def zgW : FuncId → Option GS := tabG [(34, jL), (75, JD), (76, jN), (28, jG), (108, zk5)]
theorem zok : ΓOK Tryz.prog zgW := z8 (Jj) (z8 (jF) (z8 (Jk) (z8 (Ji) (z8 (zkY) (zg)))))
def zgX : HT := ⟨tabL [], tabH []⟩
noncomputable def zgY : GS := inl T zgW zgX zgV (zt Tryz.f61) (Tryz.f61.ntmps)
theorem zk6 : GSOK Tryz.prog 61 zgY := yZ tok zok fmo (Ht := zgX) (fn := Tryz.f61) (Tryz.func61) (c := zgV) (by kernel_rfl) (by kernel_rfl) (by kernel_rfl)
end Go.Proofs.Y
namespace Go.Proofs.Y
open Go.Rb Go.Kx
set_option maxRecDepth 100000
end Go.Proofs.Y
