/-
  What is proved, part by part: what note.Parse comes to. what disk.lines comes to. what disk.Check comes to. what disk.Crash comes to. what note.Print comes to. what disk.Put comes to. what disk.Recover comes to. what slices.Equal[[]byte,byte] comes to. what disk.Same comes to. what disk.Sync comes to. texts as words between one and the same byte; numerals read back. a record as a text, and read back, as plain functions; the one undoes the other. a disk's text as lines of records, as plain functions; whole lines are read back, a torn one is left. records checked, printed, read back by the program: what its functions come to, in plain words. a text read by the program, and the law of notes: what its functions come to, in plain words. disks: what the program's functions come to, in plain words. what a disk keeps: the law's function is always true, in plain words. what world.Check comes to. what shelf.Copy comes to. what slices.Clone[[]int,int] comes to. what world.Copy comes to. what math/bits.Mul32 comes to. what math/bits.Mul64 comes to. what math/bits.Mul comes to. what slices.Repeat[[]int,int] comes to. what world.closed comes to. what world.New comes to. worlds: checked and copied: what the program's functions come to, in plain words. what world.write comes to. what world.happen comes to. what world.Do comes to. Conditions: none.
-/
import Derived.Test.YtnkegapccacndaaGreatDoorKPA
import Derived.Test.YtnkegapccacndaaGreatDoorKPC
import Derived.Test.YtnkegapccacndaaGreatDoorKPB
import Derived.Lib.CountLaws
import Derived.Lib.AtoiAllCases
import Derived.Lib.ParseIntBTie
import Derived.Lib.ItoaMem
import Derived.Lib.ItoaLen
import Derived.Lib.Split
import Derived.Lib.IndexBytes
set_option linter.unusedVariables false
set_option linter.unusedSimpArgs false
set_option linter.unnecessarySimpa false
set_option maxRecDepth 4000
namespace Go.Proofs.Y
open Go.Rb Go.Kx
noncomputable def z9N : Code := zl Tryz.f123
noncomputable def z9O : FuncId → Option GS := tabG [(150, zkP), (119, z4b), (151, ziO), (152, zng), (120, ziP), (79, z0u)]
theorem ziQ : ΓOK Tryz.prog z9O := z8 (zlS) (z8 (z5k) (z8 (zjV) (z8 (znh) (z8 (zfS) (z8 (z0v) (zg))))))
def z9P : HT := ⟨tabL [(7, .it [] (dyn [.a 6 3 (.one (.int .i64)), .t 28 (.int .i64), .c 2 0 (.int .i64), .c 2 1 (.int .i64), .c 2 2 (.int .i64), .c 2 3 (.sl 77 (.cons (.int .i64) (.cons (.int .i64) (.one (.int .i64)))))])), (17, .it [] (dyn [.t 11 (.int .i64), .b 5 3 77 (.cons (.int .i64) (.cons (.int .i64) (.one (.int .i64))))]))], tabH []⟩
abbrev z2r : List IT := [.v (.one .str) false]
abbrev z82 : List OT := [⟨.cons (.int .i64) (.cons (.int .i64) (.cons (.int .i64) (.one (.sl 77 (.cons (.int .i64) (.cons (.int .i64) (.one (.int .i64)))))))), true, []⟩, ⟨.one (.int .i64), false, []⟩]
set_option maxRecDepth 100000
noncomputable def vV : List UInt8 → Option ((Int × Int × Int × List (Int × Int × Int)) × Int) := fun a => ifB (gtI (lenI a) 60000) (some ((0, 0, 0, []), 2)) (z6 (z3s a [32]) fun y => z6 YV fun y_1 => z6 (atI y 0) fun y_2 => z6 (z4c y_1 y_2) fun y_3 => ifB (in1 y 1) (zk maxR (fun (x : Int × Int × Int × Int × List (Int × Int × Int) × List Int) => ifB (ltI x.1 (lenI (yb y 1))) (z6 (atI (yb y 1) x.1) fun y => z6 (z6Q y) fun y_4 => ifB y_4.2 (mapO Sum.inr (some ((0, 0, 0, []), 1))) (z6 (jg y_4.1) fun y_5 => ifB (notB (eqS y_5 y)) (mapO Sum.inr (some ((0, 0, 0, []), 1))) (ifB (ze 8 x.2.2.2.2.2 [y_4.1]) (some (Sum.inl (wadd .i64 x.1 1, x.2.1, x.2.2.1, x.2.2.2.1, x.2.2.2.2.1, cat x.2.2.2.2.2 [y_4.1]))) none))) (mapO Sum.inr (ifB (eqI y_3 1) (ifB (eqI (wrem (lenI x.2.2.2.2.2) 3) 0) (zk maxR (fun (x_1 : Int × List (Int × Int × Int)) => ifB (ltI x_1.1 (lenI x.2.2.2.2.2)) (ifB (ltL x_1.1 x.2.2.2.2.2) (z6 (atN x.2.2.2.2.2 (natI x_1.1)) fun y => ifB (ltL (wadd .i64 x_1.1 1) x.2.2.2.2.2) (z6 (atN x.2.2.2.2.2 (natI (wadd .i64 x_1.1 1))) fun y_4 => ifB (ltL (wadd .i64 x_1.1 2) x.2.2.2.2.2) (z6 (atN x.2.2.2.2.2 (natI (wadd .i64 x_1.1 2))) fun y_5 => ifB (ze 24 x_1.2 [(y, y_4, y_5)]) (some (Sum.inl (wadd .i64 x_1.1 3, cat x_1.2 [(y, y_4, y_5)]))) none) none) none) none) (mapO Sum.inr (z6 (Z7 (y_3, 0, 0, x_1.2)) fun y => ifB (neI y 0) (some ((0, 0, 0, []), y)) (some ((y_3, 0, 0, x_1.2), 0))))) (0, [])) (ifB (eqI y_3 2) (ifB (eqI (lenI x.2.2.2.2.2) 2) (ifB (ltL 0 x.2.2.2.2.2) (z6 (atN x.2.2.2.2.2 (natI 0)) fun y => ifB (ltL 1 x.2.2.2.2.2) (z6 (atN x.2.2.2.2.2 (natI 1)) fun y_4 => z6 (Z7 (y_3, y, y_4, [])) fun y_5 => ifB (neI y_5 0) (some ((0, 0, 0, []), y_5)) (some ((y_3, y, y_4, []), 0))) none) none) (ifB (eqI y_3 4) (ifB (eqI (lenI x.2.2.2.2.2) 1) (ifB (ltL 0 x.2.2.2.2.2) (z6 (atN x.2.2.2.2.2 (natI 0)) fun y => z6 (Z7 (y_3, 0, y, [])) fun y_4 => ifB (neI y_4 0) (some ((0, 0, 0, []), y_4)) (some ((y_3, 0, y, []), 0))) none) (some ((0, 0, 0, []), 1))) (some ((0, 0, 0, []), 1)))) (ifB (eqI y_3 3) (ifB (eqI (lenI x.2.2.2.2.2) 2) (ifB (ltL 0 x.2.2.2.2.2) (z6 (atN x.2.2.2.2.2 (natI 0)) fun y => ifB (ltL 1 x.2.2.2.2.2) (z6 (atN x.2.2.2.2.2 (natI 1)) fun y_4 => z6 (Z7 (y_3, y, y_4, [])) fun y_5 => ifB (neI y_5 0) (some ((0, 0, 0, []), y_5)) (some ((y_3, y, y_4, []), 0))) none) none) (ifB (eqI y_3 4) (ifB (eqI (lenI x.2.2.2.2.2) 1) (ifB (ltL 0 x.2.2.2.2.2) (z6 (atN x.2.2.2.2.2 (natI 0)) fun y => z6 (Z7 (y_3, 0, y, [])) fun y_4 => ifB (neI y_4 0) (some ((0, 0, 0, []), y_4)) (some ((y_3, 0, y, []), 0))) none) (some ((0, 0, 0, []), 1))) (some ((0, 0, 0, []), 1)))) (ifB (eqI y_3 4) (ifB (eqI (lenI x.2.2.2.2.2) 1) (ifB (ltL 0 x.2.2.2.2.2) (z6 (atN x.2.2.2.2.2 (natI 0)) fun y => z6 (Z7 (y_3, 0, y, [])) fun y_4 => ifB (neI y_4 0) (some ((0, 0, 0, []), y_4)) (some ((y_3, 0, y, []), 0))) none) (some ((0, 0, 0, []), 1))) (some ((0, 0, 0, []), 1)))))) (ifB (eqI y_3 2) (ifB (eqI (lenI x.2.2.2.2.2) 2) (ifB (ltL 0 x.2.2.2.2.2) (z6 (atN x.2.2.2.2.2 (natI 0)) fun y => ifB (ltL 1 x.2.2.2.2.2) (z6 (atN x.2.2.2.2.2 (natI 1)) fun y_4 => z6 (Z7 (y_3, y, y_4, [])) fun y_5 => ifB (neI y_5 0) (some ((0, 0, 0, []), y_5)) (some ((y_3, y, y_4, []), 0))) none) none) (ifB (eqI y_3 4) (ifB (eqI (lenI x.2.2.2.2.2) 1) (ifB (ltL 0 x.2.2.2.2.2) (z6 (atN x.2.2.2.2.2 (natI 0)) fun y => z6 (Z7 (y_3, 0, y, [])) fun y_4 => ifB (neI y_4 0) (some ((0, 0, 0, []), y_4)) (some ((y_3, 0, y, []), 0))) none) (some ((0, 0, 0, []), 1))) (some ((0, 0, 0, []), 1)))) (ifB (eqI y_3 3) (ifB (eqI (lenI x.2.2.2.2.2) 2) (ifB (ltL 0 x.2.2.2.2.2) (z6 (atN x.2.2.2.2.2 (natI 0)) fun y => ifB (ltL 1 x.2.2.2.2.2) (z6 (atN x.2.2.2.2.2 (natI 1)) fun y_4 => z6 (Z7 (y_3, y, y_4, [])) fun y_5 => ifB (neI y_5 0) (some ((0, 0, 0, []), y_5)) (some ((y_3, y, y_4, []), 0))) none) none) (ifB (eqI y_3 4) (ifB (eqI (lenI x.2.2.2.2.2) 1) (ifB (ltL 0 x.2.2.2.2.2) (z6 (atN x.2.2.2.2.2 (natI 0)) fun y => z6 (Z7 (y_3, 0, y, [])) fun y_4 => ifB (neI y_4 0) (some ((0, 0, 0, []), y_4)) (some ((y_3, 0, y, []), 0))) none) (some ((0, 0, 0, []), 1))) (some ((0, 0, 0, []), 1)))) (ifB (eqI y_3 4) (ifB (eqI (lenI x.2.2.2.2.2) 1) (ifB (ltL 0 x.2.2.2.2.2) (z6 (atN x.2.2.2.2.2 (natI 0)) fun y => z6 (Z7 (y_3, 0, y, [])) fun y_4 => ifB (neI y_4 0) (some ((0, 0, 0, []), y_4)) (some ((y_3, 0, y, []), 0))) none) (some ((0, 0, 0, []), 1))) (some ((0, 0, 0, []), 1)))))))) (0, 0, 0, 0, [], [])) none)
theorem zdF (x : PI z2r) : vV x = fnE T z9O z9P z9N (zu Tryz.f123) z2r z82 x := by kernel_rfl
noncomputable abbrev z9Q : GS := zt false z2r z82 fun x => vV x
theorem zdG : GSOK Tryz.prog 123 z9Q := zm tok ziQ fmo (Ht := z9P) (fn := Tryz.f123) (Tryz.func123) (c := z9N) (by kernel_rfl) (by kernel_rfl) (by kernel_rfl) (by decide +kernel) (by decide) zdF
end Go.Proofs.Y
namespace Go.Proofs.Y
open Go.Rb Go.Kx
noncomputable def z9R : Code := zl Tryz.f88
noncomputable def z9S : FuncId → Option GS := tabG [(122, zlR), (123, z9Q)]
theorem ziR : ΓOK Tryz.prog z9S := z8 (ziJ) (z8 (zdG) (zg))
def z9T : HT := ⟨tabL [(3, .it [] (dyn [.t 0 (.str), .a 7 52 (.cons (.int .i64) (.cons (.int .i64) (.cons (.int .i64) (.one (.sl 77 (.cons (.int .i64) (.cons (.int .i64) (.one (.int .i64)))))))))]))], tabH []⟩
abbrev z2s : List IT := [.v (.one .str) false, .v (.one (.int .i64)) false]
abbrev z83 : List OT := [⟨.one (.sl 52 (.cons (.int .i64) (.cons (.int .i64) (.cons (.int .i64) (.one (.sl 77 (.cons (.int .i64) (.cons (.int .i64) (.one (.int .i64)))))))))), false, [true]⟩, ⟨.one (.int .i64), false, []⟩, ⟨.one (.int .i64), false, []⟩]
set_option maxRecDepth 100000
noncomputable def YW : List UInt8 → Int → Option (List (Int × Int × Int × List (Int × Int × Int)) × Int × Int) := fun a b => zk maxR (fun (x : List UInt8 × List (Int × Int × Int × List (Int × Int × Int))) => ifB (notB (eqS x.1 [])) (z6 (cutO x.1 [10]) fun y => ifB (notB y.2.2) (mapO Sum.inr (some (x.2, wsub .i64 (lenI a) (lenI x.1), 8))) (z6 (vV y.1) fun y_1 => ifB (neI y_1.2 0) (mapO Sum.inr (some (x.2, wsub .i64 (lenI a) (lenI x.1), y_1.2))) (ifB (eqI (lenI x.2) b) (mapO Sum.inr (some (x.2, wsub .i64 (lenI a) (lenI x.1), 2))) (ifB (ze 48 x.2 [(y_1.1.1, y_1.1.2.1, y_1.1.2.2.1, y_1.1.2.2.2)]) (some (Sum.inl (y.2.1, cat x.2 [(y_1.1.1, y_1.1.2.1, y_1.1.2.2.1, y_1.1.2.2.2)]))) none)))) (mapO Sum.inr (some (x.2, lenI a, 0)))) (a, [])
theorem zdH (x : PI z2s) : YW (x.1) (x.2) = fnE T z9S z9T z9R (zu Tryz.f88) z2s z83 x := by kernel_rfl
noncomputable abbrev z4d : GS := zt false z2s z83 fun x => YW (x.1) (x.2)
theorem z5l : GSOK Tryz.prog 88 z4d := zm tok ziR fmo (Ht := z9T) (fn := Tryz.f88) (Tryz.func88) (c := z9R) (by kernel_rfl) (by kernel_rfl) (by kernel_rfl) (by decide +kernel) (by decide) zdH
end Go.Proofs.Y
namespace Go.Proofs.Y
open Go.Rb Go.Kx
noncomputable def z9U : Code := zl Tryz.f84
noncomputable def z9V : FuncId → Option GS := tabG [(88, z4d)]
theorem ziS : ΓOK Tryz.prog z9V := z8 (z5l) (zg)
def z9W : HT := ⟨tabL [], tabH []⟩
abbrev z2t : List IT := [.v (.cons (.sl 5 (.one (.int .u8))) (.one (.sl 5 (.one (.int .u8))))) true]
abbrev z84 : List OT := [⟨.one (.int .i64), false, []⟩]
set_option maxRecDepth 100000
noncomputable def yL : List Int × List Int → Option Int := fun a => ifB (gtI (lenI a.1) 60000) (some 2) (ifB (gtI (lenI a.2) (wsub .i64 60000 (lenI a.1))) (some 2) (z6 (YW (strB a.1) 60) fun y => some y.2.2))
theorem zdI (x : PI z2t) : yL x = fnE T z9V z9W z9U (zu Tryz.f84) z2t z84 x := by kernel_rfl
noncomputable abbrev j5 : GS := zt false z2t z84 fun x => yL x
theorem VA : GSOK Tryz.prog 84 j5 := zm tok ziS fmo (Ht := z9W) (fn := Tryz.f84) (Tryz.func84) (c := z9U) (by kernel_rfl) (by kernel_rfl) (by kernel_rfl) (by decide +kernel) (by decide) zdI
end Go.Proofs.Y
namespace Go.Proofs.Y
open Go.Rb Go.Kx
noncomputable def z9X : Code := zl Tryz.f141
noncomputable def z9Y : FuncId → Option GS := tabG [(84, j5), (86, z5j)]
theorem ziT : ΓOK Tryz.prog z9Y := z8 (VA) (z8 (z4a) (zg))
def z9Z : HT := ⟨tabL [], tabH []⟩
abbrev z2u : List IT := [.v (.cons (.sl 5 (.one (.int .u8))) (.one (.sl 5 (.one (.int .u8))))) true, .v (.one (.int .i64)) false]
abbrev z86 : List OT := [⟨.cons (.sl 5 (.one (.int .u8))) (.one (.sl 5 (.one (.int .u8)))), true, []⟩, ⟨.one (.int .i64), false, []⟩]
set_option maxRecDepth 100000
noncomputable def YX : List Int × List Int → Int → Option ((List Int × List Int) × Int) := fun a b => z6 (yL (a.1, a.2)) fun y => ifB (neI y 0) (some (([], []), y)) (ifB (ltI b 0) (some (([], []), 3)) (ifB (gtI b (lenI a.2)) (some (([], []), 3)) (z6 (YM a.1) fun y => ifB (in1 a.2 b) (z6 (YM (vc a.2 b)) fun y_1 => some ((y, y_1), 0)) none)))
theorem zdJ (x : PI z2u) : YX (x.1) (x.2) = fnE T z9Y z9Z z9X (zu Tryz.f141) z2u z86 x := by kernel_rfl
noncomputable abbrev za0 : GS := zt false z2u z86 fun x => YX (x.1) (x.2)
theorem zdK : GSOK Tryz.prog 141 za0 := zm tok ziT fmo (Ht := z9Z) (fn := Tryz.f141) (Tryz.func141) (c := z9X) (by kernel_rfl) (by kernel_rfl) (by kernel_rfl) (by decide +kernel) (by decide) zdJ
end Go.Proofs.Y
namespace Go.Proofs.Y
open Go.Rb Go.Kx
noncomputable def za1 : Code := zl Tryz.f85
noncomputable def za2 : FuncId → Option GS := tabG [(79, z0u), (119, z4b), (120, ziP)]
theorem ziU : ΓOK Tryz.prog za2 := z8 (z0v) (z8 (z5k) (z8 (zfS) (zg)))
def za3 : HT := ⟨tabL [(9, .it [] (dyn [.a 5 3 (.one (.int .i64)), .t 28 (.int .i64)])), (17, .it [] (dyn [.t 8 (.str), .t 53 (.int .i64)]))], tabH []⟩
abbrev z2v : List IT := [.v (.cons (.int .i64) (.cons (.int .i64) (.cons (.int .i64) (.one (.sl 77 (.cons (.int .i64) (.cons (.int .i64) (.one (.int .i64))))))))) true]
abbrev z87 : List OT := [⟨.one .str, false, []⟩, ⟨.one (.int .i64), false, []⟩]
set_option maxRecDepth 100000
noncomputable def vW : Int × Int × Int × List (Int × Int × Int) → Option (List UInt8 × Int) := fun a => z6 (Z7 (a.1, a.2.1, a.2.2.1, a.2.2.2)) fun y => ifB (neI y 0) (some ([], y)) (ifB (eqI a.1 1) (zk maxR (fun (x : Int × List Int) => ifB (ltI x.1 (lenI a.2.2.2)) (z6 (atI a.2.2.2 x.1) fun y => ifB (ze 8 x.2 [y.1, y.2.1, y.2.2]) (some (Sum.inl (wadd .i64 x.1 1, cat x.2 [y.1, y.2.1, y.2.2]))) none) (mapO Sum.inr (z6 YV fun y => z6 (atI y a.1) fun y => zk maxR (fun (x_1 : List UInt8 × Int) => ifB (ltI x_1.2 (lenI x.2)) (ifB (ltL x_1.2 x.2) (z6 (atN x.2 (natI x_1.2)) fun y => z6 (jg y) fun y => ifB (Jv [32] y) (ifB (Jv x_1.1 (catS [32] y)) (some (Sum.inl (catS x_1.1 (catS [32] y), wadd .i64 x_1.2 1))) none) none) none) (mapO Sum.inr (some (x_1.1, 0)))) (y, 0)))) (0, [])) (ifB (eqI a.1 4) (ifB (in1 [a.2.1, a.2.2.1] 1) (z6 YV fun y => z6 (atI y a.1) fun y => zk maxR (fun (x : List UInt8 × Int) => ifB (ltI x.2 (intN (ZB (lenN [a.2.1, a.2.2.1]) 1))) (ifB (ltN x.2 (ZB (lenN [a.2.1, a.2.2.1]) 1)) (z6 (atN [a.2.1, a.2.2.1] (addN (addN 0 (natI 1)) (natI x.2))) fun y => z6 (jg y) fun y => ifB (Jv [32] y) (ifB (Jv x.1 (catS [32] y)) (some (Sum.inl (catS x.1 (catS [32] y), wadd .i64 x.2 1))) none) none) none) (mapO Sum.inr (some (x.1, 0)))) (y, 0)) none) (z6 YV fun y => z6 (atI y a.1) fun y => zk maxR (fun (x : List UInt8 × Int) => ifB (ltI x.2 (lenI [a.2.1, a.2.2.1])) (ifB (ltL x.2 [a.2.1, a.2.2.1]) (z6 (atN [a.2.1, a.2.2.1] (natI x.2)) fun y => z6 (jg y) fun y => ifB (Jv [32] y) (ifB (Jv x.1 (catS [32] y)) (some (Sum.inl (catS x.1 (catS [32] y), wadd .i64 x.2 1))) none) none) none) (mapO Sum.inr (some (x.1, 0)))) (y, 0))))
theorem zdL (x : PI z2v) : vW x = fnE T za2 za3 za1 (zu Tryz.f85) z2v z87 x := by kernel_rfl
noncomputable abbrev za4 : GS := zt false z2v z87 fun x => vW x
theorem zdM : GSOK Tryz.prog 85 za4 := zm tok ziU fmo (Ht := za3) (fn := Tryz.f85) (Tryz.func85) (c := za1) (by kernel_rfl) (by kernel_rfl) (by kernel_rfl) (by decide +kernel) (by decide) zdL
end Go.Proofs.Y
namespace Go.Proofs.Y
open Go.Rb Go.Kx
noncomputable def zdN : Code := zl Tryz.f32
noncomputable def zdO : FuncId → Option GS := tabG [(84, j5), (85, za4), (86, z5j)]
theorem zlT : ΓOK Tryz.prog zdO := z8 (VA) (z8 (zdM) (z8 (z4a) (zg)))
def zdP : HT := ⟨tabL [], tabH []⟩
abbrev z5V : List IT := [.v (.cons (.sl 5 (.one (.int .u8))) (.one (.sl 5 (.one (.int .u8))))) true, .v (.cons (.int .i64) (.cons (.int .i64) (.cons (.int .i64) (.one (.sl 77 (.cons (.int .i64) (.cons (.int .i64) (.one (.int .i64))))))))) true]
abbrev zbx : List OT := [⟨.cons (.sl 5 (.one (.int .u8))) (.one (.sl 5 (.one (.int .u8)))), true, []⟩, ⟨.one (.int .i64), false, []⟩]
set_option maxRecDepth 100000
noncomputable def YE : List Int × List Int → Int × Int × Int × List (Int × Int × Int) → Option ((List Int × List Int) × Int) := fun a b => z6 (yL (a.1, a.2)) fun y => ifB (neI y 0) (some (([], []), y)) (z6 (vW (b.1, b.2.1, b.2.2.1, b.2.2.2)) fun y => ifB (neI y.2 0) (some (([], []), y.2)) (ifB (gtI (wadd .i64 (lenI y.1) 1) (wsub .i64 (wsub .i64 60000 (lenI a.1)) (lenI a.2))) (some (([], []), 2)) (z6 (YM a.1) fun y_1 => z6 (YM a.2) fun y_2 => ifB (ze 1 y_2 (bytB y.1)) (ifB (ze 1 (cat y_2 (bytB y.1)) [10]) (some ((y_1, cat (cat y_2 (bytB y.1)) [10]), 0)) none) none)))
theorem zgw (x : PI z5V) : YE (x.1) (x.2) = fnE T zdO zdP zdN (zu Tryz.f32) z5V zbx x := by kernel_rfl
noncomputable abbrev zdQ : GS := zt false z5V zbx fun x => YE (x.1) (x.2)
theorem zgx : GSOK Tryz.prog 32 zdQ := zm tok zlT fmo (Ht := zdP) (fn := Tryz.f32) (Tryz.func32) (c := zdN) (by kernel_rfl) (by kernel_rfl) (by kernel_rfl) (by decide +kernel) (by decide) zgw
end Go.Proofs.Y
namespace Go.Proofs.Y
open Go.Rb Go.Kx
noncomputable def z6D : Code := zl Tryz.f34
noncomputable def z6E : FuncId → Option GS := tabG [(84, j5), (88, z4d), (87, z3g)]
theorem zeF : ΓOK Tryz.prog z6E := z8 (VA) (z8 (z5l) (z8 (z2p) (zg)))
def z6F : HT := ⟨tabL [], tabH []⟩
abbrev z0Z : List IT := [.v (.cons (.sl 5 (.one (.int .u8))) (.one (.sl 5 (.one (.int .u8))))) true]
abbrev z5m : List OT := [⟨.cons (.sl 5 (.one (.int .u8))) (.one (.sl 5 (.one (.int .u8)))), true, []⟩, ⟨.one (.sl 52 (.cons (.int .i64) (.cons (.int .i64) (.cons (.int .i64) (.one (.sl 77 (.cons (.int .i64) (.cons (.int .i64) (.one (.int .i64)))))))))), false, []⟩, ⟨.one (.int .i64), false, []⟩]
set_option maxRecDepth 100000
noncomputable def ZT : List Int × List Int → Option ((List Int × List Int) × List (Int × Int × Int × List (Int × Int × Int)) × Int) := fun a => z6 (yL (a.1, a.2)) fun y => ifB (neI y 0) (some (([], []), [], y)) (z6 (YW (strB a.1) 60) fun y => z6 (YW (strB a.2) (wsub .i64 60 (lenI y.1))) fun y_1 => ifB (in1 a.2 y_1.2.1) (z6 (V8 [a.1, vc a.2 y_1.2.1]) fun y_2 => ifB (ze 48 y.1 y_1.1) (some ((y_2, []), cat y.1 y_1.1, 0)) none) none)
theorem zaG (x : PI z0Z) : ZT x = fnE T z6E z6F z6D (zu Tryz.f34) z0Z z5m x := by kernel_rfl
noncomputable abbrev vX : GS := zt false z0Z z5m fun x => ZT x
theorem vH : GSOK Tryz.prog 34 vX := zm tok zeF fmo (Ht := z6F) (fn := Tryz.f34) (Tryz.func34) (c := z6D) (by kernel_rfl) (by kernel_rfl) (by kernel_rfl) (by decide +kernel) (by decide) zaG
end Go.Proofs.Y
namespace Go.Proofs.Y
open Go.Rb Go.Kx
set_option maxRecDepth 100000
end Go.Proofs.Y
namespace Go.Proofs.Y
open Go.Rb Go.Kx
set_option maxRecDepth 100000
end Go.Proofs.Y
namespace Go.Proofs.Y
open Go.Rb Go.Kx
noncomputable def zby : Code := zl Tryz.f33
noncomputable def zbz : FuncId → Option GS := tabG [(84, j5), (87, z3g)]
theorem zjW : ΓOK Tryz.prog zbz := z8 (VA) (z8 (z2p) (zg))
def zbA : HT := ⟨tabL [], tabH []⟩
abbrev z4e : List IT := [.v (.cons (.sl 5 (.one (.int .u8))) (.one (.sl 5 (.one (.int .u8))))) true]
abbrev za5 : List OT := [⟨.cons (.sl 5 (.one (.int .u8))) (.one (.sl 5 (.one (.int .u8)))), true, []⟩, ⟨.one (.int .i64), false, []⟩]
set_option maxRecDepth 100000
noncomputable def Yl : List Int × List Int → Option ((List Int × List Int) × Int) := fun a => z6 (yL (a.1, a.2)) fun y => ifB (neI y 0) (some (([], []), y)) (z6 (V8 [a.1, a.2]) fun y => z6 (yL (y, [])) fun y_1 => ifB (neI y_1 0) (some (([], []), y_1)) (some ((y, []), 0)))
theorem zeG (x : PI z4e) : Yl x = fnE T zbz zbA zby (zu Tryz.f33) z4e za5 x := by kernel_rfl
noncomputable abbrev zbB : GS := zt false z4e za5 fun x => Yl x
theorem zeH : GSOK Tryz.prog 33 zbB := zm tok zjW fmo (Ht := zbA) (fn := Tryz.f33) (Tryz.func33) (c := zby) (by kernel_rfl) (by kernel_rfl) (by kernel_rfl) (by decide +kernel) (by decide) zeG
end Go.Proofs.Y
namespace Go.Kx
open Go.Rb
def sp (c : UInt8) : List UInt8 → List (List UInt8)
 | [] => [[]]
 | b :: l => if b = c then [] :: sp c l else match sp c l with
  | [] => [[b]]
  | w :: r => (b :: w) :: r
def jn (c : UInt8) : List (List UInt8) → List UInt8
 | [] => []
 | w :: r => w ++ (r.map (c :: ·)).flatten
theorem JB (c : UInt8) : ∀ l, sp c l ≠ []
 | [] => by simp [sp]
 | b :: l => by
  unfold sp
  split
  ·simp
  ·split <;> simp
theorem z1C (c : UInt8) (w : List UInt8) {r : List (List UInt8)} (h : r ≠ []) : jn c (w :: r) = w ++ c :: jn c r := by
 cases r with
 | nil => exact absurd rfl h
 | cons x r => simp [jn]
theorem z5n (c : UInt8) : ∀ l, jn c (sp c l) = l
 | [] => rfl
 | b :: l => by
  have ih := z5n c l
  have hn := JB c l
  unfold sp
  split
  ·rename_i h; subst h
   rw [z1C _ _ hn, ih]; rfl
  ·split
   ·rename_i h1 h2; exact absurd h2 hn
   ·rename_i w r h2; rw [h2] at ih; simp only [jn] at ih ⊢; rw [List.cons_append, ih]
theorem zkQ (c : UInt8) : ∀ w : List UInt8, (∀ x ∈ w, x ≠ c) → sp c w = [w]
 | [], _ => rfl
 | b :: l, h => by
  unfold sp
  rw [if_neg (h b (by simp)), zkQ c l fun x hx => h x (by simp [hx])]
theorem za6 (c : UInt8) : ∀ (w l : List UInt8), (∀ x ∈ w, x ≠ c) → sp c (w ++ c :: l) = w :: sp c l
 | [], l, _ => by simp [sp]
 | b :: w, l, h => by
  have ih := za6 c w l fun x hx => h x (by simp [hx])
  show sp c (b :: (w ++ c :: l)) = _
  rw [sp, if_neg (h b (by simp)), ih]
theorem z7n (c : UInt8) : ∀ l, ∀ w ∈ sp c l, ∀ x ∈ w, x ≠ c
 | [], w, hw, x, hx => by simp [sp] at hw; subst hw; cases hx
 | b :: l, w, hw, x, hx => by
  have ih := z7n c l
  have hn := JB c l
  unfold sp at hw
  split at hw
  ·rcases List.mem_cons.1 hw with rfl | hw
   ·cases hx
   ·exact ih w hw x hx
  ·rename_i hb
   split at hw
   ·rename_i h2; exact absurd h2 hn
   ·rename_i v r h2
    rw [h2] at ih
    rcases List.mem_cons.1 hw with rfl | hw
    ·rcases List.mem_cons.1 hx with rfl | hx
     ·exact hb
     ·exact ih v (by simp) x hx
    ·exact ih w (by simp [hw]) x hx
theorem zdR (c : UInt8) : ∀ l, (sp c l).length ≤ l.length + 1
 | [] => by simp [sp]
 | b :: l => by
  have ih := zdR c l
  have hn := JB c l
  unfold sp
  split
  ·simp; omega
  ·split
   ·rename_i h2; exact absurd h2 hn
   ·rename_i w r h2; rw [h2] at ih; simp at ih ⊢; omega
/-! ### Go's split -/
theorem z1D {c : UInt8} {l : List UInt8} (h : ∀ x ∈ l, x ≠ c) : Lib.index l [c] = -1 := by
 induction l with
 | nil => rfl
 | cons b l ih =>
  have ih := ih fun x hx => h x (by simp [hx])
  have hb := h b (by simp)
  have : [c].isPrefixOf (b :: l) = false := by simp [List.isPrefixOf]; exact fun e => hb e.symm
  unfold Lib.index
  rw [this, ih]; rfl
theorem z2w {c : UInt8} {w l : List UInt8} (h : ∀ x ∈ w, x ≠ c) : Lib.index (w ++ c :: l) [c] = w.length := by
 induction w with
 | nil => unfold Lib.index; simp [List.isPrefixOf]
 | cons b w ih =>
  have ih := ih fun x hx => h x (by simp [hx])
  have hb := h b (by simp)
  have : [c].isPrefixOf (b :: (w ++ c :: l)) = false := by simp [List.isPrefixOf]; exact fun e => hb e.symm
  rw [List.cons_append]
  unfold Lib.index
  rw [this, ih]
  have e : (((w.length : Nat) : Int) == -1) = false := by rw [beq_eq_false_iff_ne]; omega
  simp [e]
theorem zjX (c : UInt8) : ∀ (l : List UInt8), Lib.split l [c] = sp c l := by
 have key : ∀ (ws : List (List UInt8)), ws ≠ [] → (∀ w ∈ ws, ∀ x ∈ w, x ≠ c) → Lib.split (jn c ws) [c] = ws := by
  intro ws
  induction ws with
  | nil => intro h; exact absurd rfl h
  | cons w r ih =>
   intro _ h
   by_cases hr : r = []
   ·subst hr
    simp only [jn, List.map_nil, List.flatten_nil, List.append_nil]
    unfold Lib.split
    rw [Lib.count_miss (z1D (h w (by simp)))]; rfl
   ·rw [z1C _ _ hr]
    have hi : Lib.index (w ++ c :: jn c r) [c] = w.length := z2w (h w (by simp))
    have hd : (w ++ c :: jn c r).drop (w.length + [c].length) = jn c r := by
     rw [List.drop_append]; simp
    have hr2 := ih hr fun w hw => h w (by simp [hw])
    unfold Lib.split at hr2 ⊢
    rw [Lib.count_hit (by simp) hi, hd, Nat.add_comm 1, Lib.splitK, if_neg (by rw [hi]; intro e; have := beq_iff_eq.1 e; omega), hi]
    have e : ((w.length : Nat) : Int).toNat = w.length := by omega
    rw [e, hd, hr2]
    congr 1
    rw [List.take_append]; simp
 intro l
 have h := key (sp c l) (JB c l) (z7n c l)
 rw [z5n] at h
 exact h
/-! ### Numerals -/
end Go.Kx
namespace Go.Kx
open Go.Rb
def kindW : List (List UInt8) := [[], [98, 97, 116, 99, 104], [115, 101, 97, 108], [109, 101, 114, 103, 101], [100, 114, 111, 112]]
def ixW : List (List UInt8) → List UInt8 → Int → Int
 | [], _, _ => -1
 | x :: r, w, i => if w = x then i else ixW r w (i + 1)
def nums : List (List UInt8) → Option (List Int)
 | [] => some []
 | x :: r => match Lib.atoiAll x with
  | .ok v => if Lib.itoa v = x then (nums r).map (v :: ·) else none
  | _ => none
def trip : List Int → List Ent
 | a :: b :: c :: r => (a, b, c) :: trip r
 | _ => []
def Ym : List Ent → List Int
 | [] => []
 | x :: r => x.1 :: x.2.1 :: x.2.2 :: Ym r
def V9 (k : Int) (ns : List Int) : Option Rc :=
 if k = 1 then (if ns.length % 3 = 0 then some (1, 0, 0, trip ns) else none) else
 if k = 2 ∨ k = 3 then (match ns with | [a, b] => some (k, a, b, []) | _ => none) else
 if k = 4 then (match ns with | [a] => some (4, 0, a, []) | _ => none) else none
def YF : Rc := (0, 0, 0, [])
def zdS (w : List UInt8) (xs : List (List UInt8)) : Rc × Int := match nums xs with
 | none => (YF, 1)
 | some ns => match V9 (ixW kindW w 0) ns with
  | none => (YF, 1)
  | some r => if zG r = 0 then (r, 0) else (YF, zG r)
def yM (s : List UInt8) : Rc × Int := if 60000 < s.length then (YF, 2) else zdS ((sp 32 s).headD []) (sp 32 s).tail
def vt (r : Rc) : List Int := if r.1 = 1 then Ym r.2.2.2 else if r.1 = 4 then [r.2.2.1] else [r.2.1, r.2.2.1]
def vI (r : Rc) : List UInt8 := jn 32 (kindW.getD r.1.toNat [] :: (vt r).map Lib.itoa)
def zdT (r : Rc) : List UInt8 × Int := if zG r = 0 then (vI r, 0) else ([], zG r)
theorem zcb : ∀ l : List Ent, (Ym l).length = 3 * l.length
 | [] => rfl
 | x :: r => by rw [Ym]; simp [zcb r]; omega
theorem zfT : ∀ (n : Nat) (l : List Int), l.length = 3 * n → Ym (trip l) = l
 | 0, l, h => by have := List.eq_nil_of_length_eq_zero (show l.length = 0 by omega); subst this; rfl
 | n + 1, l, h => by
  match l, h with
  | a :: b :: c :: r, h => rw [trip, Ym, zfT n r (by simp at h; omega)]
  | [], h => simp at h
  | [_], h => simp at h; omega
  | [_, _], h => simp at h; omega
theorem zfU : ∀ (xs : List (List UInt8)) (ns : List Int), nums xs = some ns → xs = ns.map Lib.itoa ∧ ∀ n ∈ ns, zr3 n
 | [], ns, h => by cases h; exact ⟨rfl, fun _ h => by cases h⟩
 | x :: r, ns, h => by
  rw [nums] at h
  rcases hx : Lib.atoiAll x with v | _ | _
  ·rw [hx] at h
   simp only at h
   split at h
   ·rename_i he
    cases hr : nums r with
    | none => rw [hr] at h; cases h
    | some ms =>
     rw [hr] at h; cases h
     obtain ⟨h1, h2⟩ := zfU r ms hr
     refine ⟨by rw [List.map_cons, he, ← h1], fun n hn => ?_⟩
     rcases List.mem_cons.1 hn with rfl | hn
     ·exact Lib.atoiAll_bounds hx
     ·exact h2 n hn
   ·cases h
  ·rw [hx] at h; cases h
  ·rw [hx] at h; cases h
theorem zqw {l : List Ent} (h : entE l = 0) : ∀ n ∈ Ym l, -1000000 ≤ n ∧ n ≤ 1000000 := by
 induction l with
 | nil => intro n hn; cases hn
 | cons x r ih =>
  rw [entE] at h
  split at h
  ·cases h
  ·rename_i hb
   unfold Jn at hb
   intro n hn
   rw [Ym] at hn
   rcases List.mem_cons.1 hn with rfl | hn
   ·omega
   ·rcases List.mem_cons.1 hn with rfl | hn
    ·omega
    ·rcases List.mem_cons.1 hn with rfl | hn
     ·omega
     ·exact ih h n hn
theorem zkR {r : Rc} (h : zG r = 0) : (vt r).length ≤ 30 ∧ ∀ n ∈ vt r, -1000000 ≤ n ∧ n ≤ 1000000 := by
 obtain ⟨k1, k2, k3, k4⟩ := Jo h
 unfold vt
 split
 ·rename_i h1
  obtain ⟨_, _, a3, a4⟩ := k3 h1
  exact ⟨by rw [zcb]; omega, zqw a4⟩
 ·rename_i h1
  obtain ⟨_, b1, b2, b3, b4, _⟩ := k4 h1
  split
  ·exact ⟨by simp, fun n hn => by simp at hn; omega⟩
  ·exact ⟨by simp, fun n hn => by simp at hn; omega⟩
theorem zlU {k : Int} {ns : List Int} {r : Rc} (h : V9 k ns = some r) : r.1 = k ∧ vt r = ns ∧ 1 ≤ k ∧ k ≤ 4 := by
 unfold V9 at h
 split at h
 ·rename_i h1
  subst h1
  split at h
  ·rename_i h2
   cases h
   refine ⟨rfl, ?_, by omega, by omega⟩
   unfold vt
   simp only [if_pos]
   exact zfT (ns.length / 3) ns (by omega)
  ·cases h
 ·rename_i h1
  split at h
  ·rename_i h2
   split at h
   ·cases h
    refine ⟨rfl, ?_, by omega, by omega⟩
    unfold vt
    simp only [if_neg h1]
    rw [if_neg (by omega)]
   ·cases h
  ·split at h
   ·rename_i h4
    subst h4
    split at h
    ·cases h
     exact ⟨rfl, rfl, by omega, by omega⟩
    ·cases h
   ·cases h
theorem zfV {k : Int} (h1 : 1 ≤ k) (h2 : k ≤ 4) : ixW kindW (kindW.getD k.toNat []) 0 = k ∧ (∀ x ∈ kindW.getD k.toNat [], x ≠ 32) ∧ (kindW.getD k.toNat []).length ≤ 5 := by
 have : k = 1 ∨ k = 2 ∨ k = 3 ∨ k = 4 := by omega
 rcases this with rfl | rfl | rfl | rfl <;> decide
theorem zpM {w : List UInt8} {k : Int} (h : ixW kindW w 0 = k) (h1 : 1 ≤ k) (h2 : k ≤ 4) : kindW.getD k.toNat [] = w := by
 unfold kindW at h
 simp only [ixW] at h
 split at h
 ·omega
 ·split at h
  ·rename_i hw; subst hw; subst h; rfl
  ·split at h
   ·rename_i hw; subst hw; subst h; rfl
   ·split at h
    ·rename_i hw; subst hw; subst h; rfl
    ·split at h
     ·rename_i hw; subst hw; subst h; rfl
     ·omega
theorem zqx (c : UInt8) (w : List UInt8) (xs : List (List UInt8)) (m : Nat) (h : ∀ x ∈ xs, x.length ≤ m) : (jn c (w :: xs)).length ≤ w.length + xs.length * (m + 1) := by
 simp only [jn, List.length_append]
 have : ((xs.map (c :: ·)).flatten).length ≤ xs.length * (m + 1) := by
  induction xs with
  | nil => simp
  | cons x r ih =>
   have := ih fun y hy => h y (by simp [hy])
   have hx := h x (by simp)
   simp only [List.map_cons, List.flatten_cons, List.length_append, List.length_cons, Nat.add_mul]
   omega
 omega
theorem zni {r : Rc} (h : zG r = 0) : (vI r).length ≤ 700 := by
 obtain ⟨k1, k2, _, _⟩ := Jo h
 obtain ⟨h1, h2⟩ := zkR h
 obtain ⟨_, _, h3⟩ := zfV k1 k2
 have := zqx 32 (kindW.getD r.1.toNat []) ((vt r).map Lib.itoa) 21 fun x hx => by
  obtain ⟨n, hn, rfl⟩ := List.mem_map.1 hx
  have := h2 n hn
  exact Lib.itoa_length_le n (by omega) (by omega)
 rw [List.length_map] at this
 unfold vI
 omega
theorem zfW {s : List UInt8} (h : (yM s).2 = 0) : zG (yM s).1 = 0 ∧ vI (yM s).1 = s := by
 unfold yM at h ⊢
 split at h
 ·cases h
 ·rename_i hl
  rw [if_neg hl]
  unfold zdS at h ⊢
  have hj := z5n 32 s
  have hn := JB 32 s
  cases hs : sp 32 s with
  | nil => exact absurd hs hn
  | cons w xs =>
  rw [hs] at h hj
  simp only [List.headD_cons, List.tail_cons] at h ⊢
  cases hx : nums xs with
  | none => rw [hx] at h; cases h
  | some ns =>
   rw [hx] at h
   simp only at h ⊢
   cases hr : V9 (ixW kindW w 0) ns with
   | none => rw [hr] at h; cases h
   | some r =>
    rw [hr] at h
    simp only at h ⊢
    split at h
    ·rename_i hc
     rw [if_pos hc]
     refine ⟨hc, ?_⟩
     obtain ⟨e1, e2, e3, e4⟩ := zlU hr
     unfold vI
     rw [e1, e2, zpM rfl e3 e4, ← (zfU xs ns hx).1]
     exact hj
    ·rename_i hc; exact absurd h hc
end Go.Kx
namespace Go.Kx
open Go.Rb
theorem zaA (c : UInt8) {s : List UInt8} (h : ∀ x ∈ s, x ≠ c) : sp c s = [s] := zkQ c s h
theorem z7o (c : UInt8) : ∀ s : List UInt8, (∀ x ∈ s, x ≠ c) ∨ ∃ w l, s = w ++ c :: l ∧ (∀ x ∈ w, x ≠ c)
 | [] => .inl fun x hx => by cases hx
 | b :: s => by
  by_cases hb : b = c
  ·subst hb; exact .inr ⟨[], s, rfl, fun x hx => by cases hx⟩
  ·rcases z7o c s with h | ⟨w, l, rfl, h⟩
   ·exact .inl fun x hx => by rcases List.mem_cons.1 hx with rfl | hx; exact hb; exact h x hx
   ·exact .inr ⟨b :: w, l, rfl, fun x hx => by rcases List.mem_cons.1 hx with rfl | hx; exact hb; exact h x hx⟩
theorem zcc {c : UInt8} {s : List UInt8} (h : ∀ x ∈ s, x ≠ c) : Lib.cut s [c] = (s, [], false) := by
 unfold Lib.cut
 rw [z1D h, if_neg (by omega)]
theorem zcd {c : UInt8} {w l : List UInt8} (h : ∀ x ∈ w, x ≠ c) : Lib.cut (w ++ c :: l) [c] = (w, l, true) := by
 unfold Lib.cut
 rw [z2w h, if_pos (by omega)]
 have e : ((w.length : Nat) : Int).toNat = w.length := by omega
 rw [e]
 simp [List.take_append, List.drop_append]
def lnW (most all : Int) : List (List UInt8) → List Rc → List Rc × Int × Int
 | [], acc => (acc, all, 0)
 | w :: r, acc => if r = [] then (if w = [] then (acc, all, 0) else (acc, all - w.length, 8)) else
  if (yM w).2 = 0 then (if (acc.length : Int) = most then (acc, all - (jn 10 (w :: r)).length, 2) else lnW most all r (acc ++ [(yM w).1])) else (acc, all - (jn 10 (w :: r)).length, (yM w).2)
def lnP (most : Int) (s : List UInt8) : List Rc × Int × Int := lnW most s.length (sp 10 s) []
theorem zp0 (most all : Int) : ∀ (ws : List (List UInt8)) (acc : List Rc), ((jn 10 ws).length : Int) ≤ all → 0 ≤ (lnW most all ws acc).2.1 ∧ (lnW most all ws acc).2.1 ≤ all
 | [], acc, h => by simp only [lnW]; simp [jn] at h; omega
 | w :: r, acc, h => by
  rw [lnW]
  by_cases hr : r = []
  ·subst hr
   rw [if_pos rfl]
   simp only [jn, List.map_nil, List.flatten_nil, List.append_nil] at h
   split
   ·simp only; omega
   ·simp only; omega
  ·rw [if_neg hr]
   have hj := z1C 10 w hr
   have : (jn 10 r).length ≤ (jn 10 (w :: r)).length := by rw [hj]; simp; omega
   split
   ·split
    ·simp only; omega
    ·exact zp0 most all r _ (by omega)
   ·simp only; omega
theorem zp1 (most : Int) (s : List UInt8) : 0 ≤ (lnP most s).2.1 ∧ (lnP most s).2.1 ≤ s.length := by
 unfold lnP
 exact zp0 most _ _ _ (by rw [z5n]; omega)
theorem zkS (most all : Int) : ∀ (ws : List (List UInt8)) (acc : List Rc), (lnW most all ws acc).1.length ≤ acc.length + ws.length
 | [], acc => by simp [lnW]
 | w :: r, acc => by
  rw [lnW]
  split
  ·split <;> simp
  ·split
   ·split
    ·simp
    ·have := zkS most all r (acc ++ [(yM w).1])
     simp only [List.length_append, List.length_cons, List.length_nil] at this ⊢; omega
   ·simp
theorem zaB (most : Int) (s : List UInt8) : (lnP most s).1.length ≤ s.length + 1 := by
 have := zkS most s.length (sp 10 s) []
 have := zdR 10 s
 unfold lnP
 simp only [List.length_nil] at *
 omega
/-! ### Records as lines -/
def zaC (r : Rc) : List UInt8 := vI r ++ [10]
def vu (rs : List Rc) : List UInt8 := (rs.map zaC).flatten
theorem zlV (r : Rc) (rs : List Rc) (t : List UInt8) : vu (r :: rs) ++ t = vI r ++ 10 :: (vu rs ++ t) := by
 simp [vu, zaC]
theorem znj (a b : List Rc) : vu (a ++ b) = vu a ++ vu b := by simp [vu]
/-! ### Disks -/
def ZE (d : List UInt8 × List UInt8) : Int := if 60000 < d.1.length then 2 else if 60000 - d.1.length < d.2.length then 2 else (lnP 60 d.1).2.2
def dPut (d : List UInt8 × List UInt8) (r : Rc) : (List UInt8 × List UInt8) × Int :=
 if ZE d = 0 then (if zG r = 0 then (if 60000 - (d.1.length : Int) - d.2.length < (vI r).length + 1 then (([], []), 2) else ((d.1, d.2 ++ zaC r), 0)) else (([], []), zG r)) else (([], []), ZE d)
def z3h (d : List UInt8 × List UInt8) : (List UInt8 × List UInt8) × Int :=
 if ZE d = 0 then (if ZE (d.1 ++ d.2, []) = 0 then ((d.1 ++ d.2, []), 0) else (([], []), ZE (d.1 ++ d.2, []))) else (([], []), ZE d)
def z10 (d : List UInt8 × List UInt8) (n : Int) : (List UInt8 × List UInt8) × Int :=
 if ZE d = 0 then (if n < 0 ∨ (d.2.length : Int) < n then (([], []), 3) else ((d.1, d.2.take n.toNat), 0)) else (([], []), ZE d)
def JC (d : List UInt8 × List UInt8) : List Rc × Int × Int := lnP (60 - ((lnP 60 d.1).1.length : Int)) d.2
def zy (d : List UInt8 × List UInt8) : (List UInt8 × List UInt8) × List Rc × Int :=
 if ZE d = 0 then ((d.1 ++ d.2.take (JC d).2.1.toNat, []), (lnP 60 d.1).1 ++ (JC d).1, 0) else (([], []), [], ZE d)
theorem vv {d : List UInt8 × List UInt8} (h : ZE d = 0) : d.1.length + d.2.length ≤ 60000 := by
 unfold ZE at h
 split at h
 ·cases h
 ·split at h
  ·cases h
  ·omega
end Go.Kx
namespace Go.Proofs.Y
open Go.Rb Go.Kx
theorem ziV : YV = some kindW := rfl
theorem zoB (a : List (List UInt8)) (b : List UInt8) (h : a.length < 4611686018427387904) : z4c a b = some (ixW a b 0) := by
 unfold z4c
 refine zR a (fun j (_ : Int) => (j : Int)) (G := fun rest s => some (ixW rest b s)) (P := fun j s => s = (j : Int)) (s0 := (0 : Int)) ?_ ?_ rfl (by omega)
 ·rintro j s hj rfl k hk
  have hat := zK hj
  generalize a.getD j default = x at *
  rw [za, zd, zh, zb, if_pos (by omega), hat, zw, z7, za, zd, zq, Zp, zF (by omega), hk _ rfl, ixW]
  split
  ·rfl
  ·rfl
 ·rintro s rfl k
  rw [za, zd, zh, zb, if_neg (by omega)]; rfl
theorem z7p (f : List UInt8 × Int → Option (Sum (List UInt8 × Int) (List UInt8 × Int))) (l : List Int) (w : List UInt8) (hl : l.length ≤ 30) (hb : ∀ n ∈ l, -1000000 ≤ n ∧ n ≤ 1000000) (hw : w.length ≤ 5)
  (hs : ∀ (j : Nat) (s : List UInt8), j < l.length → f (s, (j : Int)) = z6 (jg (l.getD j default)) fun (y : List UInt8) => ifB (Jv [32] y) (ifB (Jv s (catS [32] y)) (some (Sum.inl (catS s (catS [32] y), wadd IntKind.i64 (j : Int) 1))) none) none)
  (he : ∀ s, f (s, (l.length : Int)) = some (Sum.inr (s, 0))) : zk maxR f (w, 0) = some (jn 32 (w :: l.map Lib.itoa), 0) := by
 have hh : ∀ n ∈ l, jg n = some (Lib.itoa n) ∧ (Lib.itoa n).length ≤ 21 := fun n hn => by
  have := hb n hn
  exact ⟨by unfold jg; rw [if_pos (by omega)], Lib.itoa_length_le n (by omega) (by omega)⟩
 have := zR l (fun j (s : List UInt8) => (s, (j : Int))) (f := f) (G := fun rest s => some (s ++ (rest.map fun n => 32 :: Lib.itoa n).flatten, 0)) (P := fun j s => s.length ≤ 5 + 22 * j) (s0 := w) ?_ ?_ (by omega) (by omega)
 ·rw [show ((0 : Nat) : Int) = 0 from rfl] at this
  rw [this]
  simp only [jn, List.map_map]; rfl
 ·intro j s hj hp k hk
  have hm : l.getD j default ∈ l := by simp [List.getD, List.getElem?_eq_getElem hj]
  obtain ⟨h1, h2⟩ := hh _ hm
  rw [hs j s hj, h1, z7]
  generalize l.getD j default = x at *
  rw [Z4, if_pos (by simp; omega), Z4, if_pos (by simp [catS]; omega), zq, zF (by omega), hk _ (by simp [catS]; omega)]
  simp [catS]
 ·intro s _ k
  rw [he, Z5]; simp
theorem zoC (r : Rc) (hl : r.2.2.2.length < 4611686018427387904) : vW r = some (zdT r) := by
 unfold vW zdT
 have hck : Z7 (Prod.fst r, Prod.fst (Prod.snd r), Prod.fst (Prod.snd (Prod.snd r)), Prod.snd (Prod.snd (Prod.snd r))) = some (zG r) := z3Z r hl
 rw [hck, z7, zi]
 by_cases hc : zG r = 0
 ·rw [if_pos hc, if_pos hc]
  obtain ⟨k1, k2, k3, k4⟩ := Jo hc
  obtain ⟨a1, a2⟩ := zkR hc
  obtain ⟨_, _, hw⟩ := zfV k1 k2
  have hat : atI kindW r.1 = some (kindW.getD r.1.toNat []) := by
   have : r.1 = 1 ∨ r.1 = 2 ∨ r.1 = 3 ∨ r.1 = 4 := by omega
   rcases this with h | h | h | h <;> rw [h] <;> rfl
  rw [ziV, z7]
  simp only [hat, z7]
  rw [zf]
  by_cases h1 : r.1 = 1
  ·rw [if_pos h1]
   have he : vt r = Ym r.2.2.2 := by unfold vt; rw [if_pos h1]
   have ht : vI r = jn 32 (kindW.getD r.1.toNat [] :: (Ym r.2.2.2).map Lib.itoa) := by unfold vI; rw [he]
   rw [he] at a1 a2
   have hll := zcb r.2.2.2
   rw [ht]
   generalize kindW.getD r.1.toNat [] = w at *
   generalize hle : r.2.2.2 = l at *
   refine zR l (fun j (s : List Int) => ((j : Int), s)) (G := fun rest s => if s ++ Ym rest = Ym l then some (jn 32 (w :: (Ym l).map Lib.itoa), 0) else none) (P := fun j s => s.length = 3 * j ∧ s ++ Ym (l.drop j) = Ym l) (s0 := []) ?_ ?_ ⟨rfl, rfl⟩ (by omega) |>.trans (by simp)
   ·rintro j s hj ⟨hp, hq⟩ k hk
    have hat := zK hj
    have hd : l.drop j = l.getD j default :: l.drop (j + 1) := by rw [List.drop_eq_getElem_cons hj]; simp [List.getD, List.getElem?_eq_getElem hj]
    rw [hd] at hq
    generalize l.getD j default = x at *
    rw [za, zd, zh, zb, if_pos (by omega), hat, zw, z7, za, zA, zq, zz, if_pos (by simp; omega), zF (by omega)]
    simp only [zY]
    have hq2 : (s ++ [x.1, x.2.1, x.2.2]) ++ Ym (l.drop (j + 1)) = Ym l := by rw [← hq, Ym]; simp
    rw [hk _ ⟨by simp; omega, hq2⟩, if_pos hq2, if_pos hq]
   ·rintro s ⟨hp, hq⟩ k
    rw [List.drop_length] at hq
    have hq' : s = Ym l := by simpa [Ym] using hq
    subst hq'
    rw [za, zd, zh, zb, if_neg (by omega), if_pos hq]
    refine z7p _ (Ym l) w a1 a2 hw ?_ ?_
    ·intro j s hj
     simp only [zA, zq, Z5, zd, Zu, zw, Zi, Zv, Zq, zh, Zo, zx, zT, zf, zi, zB, Zw, ZF, ZL, zD, Zx, Zr, Zs, Zt, Zj, Z6, zH, ZM, zz, Z3, Z8, Z4, Zp, ZN, Zk, z7, zZ, Zd, Ze, zb, ZG, zY, zS, Z1, ZO, Zl, zM, Zy]
     have hat := yV hj
     rw [if_pos (by omega), if_pos (by omega), show ((j : Int)).toNat = j by omega, hat, z7]
    ·intro s
     simp only [zA, zq, Z5, zd, Zu, zw, Zi, Zv, Zq, zh, Zo, zx, zT, zf, zi, zB, Zw, ZF, ZL, zD, Zx, Zr, Zs, Zt, Zj, Z6, zH, ZM, zz, Z3, Z8, Z4, Zp, ZN, Zk, z7, zZ, Zd, Ze, zb, ZG, zY, zS, Z1, ZO, Zl, zM, Zy]
     rw [if_neg (by omega)]
  ·rw [if_neg h1, zf]
   by_cases h4 : r.1 = 4
   ·rw [if_pos h4]
    have he : vt r = [r.2.2.1] := by unfold vt; rw [if_neg h1, if_pos h4]
    have ht : vI r = jn 32 (kindW.getD r.1.toNat [] :: [r.2.2.1].map Lib.itoa) := by unfold vI; rw [he]
    rw [he] at a1 a2
    rw [ht, zD, if_pos ⟨by omega, by simp⟩]
    refine z7p _ [r.2.2.1] _ a1 a2 hw ?_ ?_
    ·intro j s hj
     have : j = 0 := by simpa using hj
     subst this
     rfl
    ·intro s; rfl
   ·rw [if_neg h4]
    have he : vt r = [r.2.1, r.2.2.1] := by unfold vt; rw [if_neg h1, if_neg h4]
    have ht : vI r = jn 32 (kindW.getD r.1.toNat [] :: [r.2.1, r.2.2.1].map Lib.itoa) := by unfold vI; rw [he]
    rw [he] at a1 a2
    rw [ht]
    refine z7p _ [r.2.1, r.2.2.1] _ a1 a2 hw ?_ ?_
    ·intro j s hj
     have : j = 0 ∨ j = 1 := by simp at hj; omega
     rcases this with rfl | rfl <;> rfl
    ·intro s; rfl
 ·rw [if_neg hc, if_neg hc]
end Go.Proofs.Y
namespace Go.Proofs.Y
open Go.Rb Go.Kx
theorem zeI (c : UInt8) : ∀ l, ∀ w ∈ sp c l, w.length ≤ l.length
 | [], w, hw => by simp [sp] at hw; subst hw; simp
 | b :: l, w, hw => by
  have ih := zeI c l
  have hn := JB c l
  unfold sp at hw
  split at hw
  ·rcases List.mem_cons.1 hw with rfl | hw
   ·simp
   ·have := ih w hw; simp; omega
  ·split at hw
   ·rename_i h2; exact absurd h2 hn
   ·rename_i v r h2
    rw [h2] at ih
    rcases List.mem_cons.1 hw with rfl | hw
    ·have := ih v (by simp); simp; omega
    ·have := ih w (by simp [hw]); simp; omega
def endP (k : Int) (ns : List Int) : Rc × Int := match V9 k ns with
 | none => (YF, 1)
 | some r => if zG r = 0 then (r, 0) else (YF, zG r)
theorem zfX (w : List UInt8) (xs : List (List UInt8)) : zdS w xs = match nums xs with | none => (YF, 1) | some ns => endP (ixW kindW w 0) ns := rfl
theorem ziW : ∀ (n : Nat) (l : List Int), l.length = 3 * n → (trip l).length = n
 | 0, l, h => by have := List.eq_nil_of_length_eq_zero (show l.length = 0 by omega); subst this; rfl
 | n + 1, l, h => by
  match l, h with
  | a :: b :: c :: r, h => rw [trip, List.length_cons, ziW n r (by simp at h; omega)]
  | [], h => simp at h
  | [_], h => simp at h; omega
  | [_, _], h => simp at h; omega
theorem ziX : ∀ (n : Nat) (l : List Int) (j : Nat), l.length = 3 * n → j < n → (trip l).getD j default = (l.getD (3 * j) default, l.getD (3 * j + 1) default, l.getD (3 * j + 2) default)
 | 0, l, j, h, hj => by omega
 | n + 1, l, j, h, hj => by
  match l, h with
  | a :: b :: c :: r, h =>
   rw [trip]
   cases j with
   | zero => rfl
   | succ j =>
    have := ziX n r j (by simp at h; omega) (by omega)
    rw [show 3 * (j + 1) = 3 * j + 3 by omega]
    simpa [List.getD] using this
  | [], h => simp at h
  | [_], h => simp at h; omega
  | [_, _], h => simp at h; omega
theorem zp2 (n : Nat) : wrem (n : Int) 3 = ((n % 3 : Nat) : Int) := by unfold wrem; rw [Int.tmod_eq_emod_of_nonneg (by omega)]; omega
theorem ziY (r : Rc) (hl : r.2.2.2.length < 4611686018427387904) : (z6 (Z7 r) fun (y : Int) => ifB (neI y 0) (some (((0, 0, 0, []) : Rc), y)) (some (r, (0 : Int)))) = some (if zG r = 0 then (r, 0) else (YF, zG r)) := by
 rw [z3Z r hl, z7, zi]
 split
 ·rfl
 ·rfl
theorem zoD (s : List UInt8) : vV s = some (yM s) := by
 unfold vV yM
 rw [zx, zb]
 by_cases hlen : 60000 < s.length
 ·rw [if_pos (by omega), if_pos hlen]; rfl
 ·rw [if_neg (by omega), if_neg hlen]
  have hsp : z3s s [32] = some (sp 32 s) := by unfold z3s; rw [if_pos ⟨by omega, by simp⟩, zjX]
  rw [hsp, z7, ziV, z7]
  have hwl := zeI 32 s
  have hsl := zdR 32 s
  have hne := JB 32 s
  generalize sp 32 s = ws at *
  cases ws with
  | nil => exact absurd rfl hne
  | cons w xs =>
  rw [show atI (w :: xs) 0 = some w from rfl, z7, zoB kindW w (by decide), z7, zfX]
  simp only [List.headD_cons, List.tail_cons]
  generalize ixW kindW w 0 = q
  rw [zD, if_pos ⟨by omega, by simp; omega⟩]
  simp only [show yb (w :: xs) 1 = xs from rfl]
  have hxl : xs.length ≤ 60000 := by simp at hsl; omega
  have hxw : ∀ x ∈ xs, x.length ≤ 60000 := fun x hx => by have := hwl x (by simp [hx]); omega
  refine (zR xs (fun j (a : List Int) => ((j : Int), 0, 0, 0, [], a)) (G := fun rest a => some (match nums rest with | none => (YF, 1) | some ns => endP q (a ++ ns))) (P := fun j a => a.length = j) (s0 := []) ?_ ?_ rfl (by omega)).trans ?_
  ·intro j a hj hp k hk
   have hat := zK hj
   have hm : xs.getD j default ∈ xs := by simp [List.getD, List.getElem?_eq_getElem hj]
   have hx := hxw _ hm
   generalize xs.getD j default = x at *
   rw [za, zh, zb, if_pos (by omega), hat, z7]
   have ha : z6Q x = some (endO (Lib.atoiAll x) (Lib.atoiSat x)) := by unfold z6Q; rw [if_pos (by omega)]
   rw [ha, z7, nums]
   rcases hv : Lib.atoiAll x with v | _ | _
   ·have hb := Lib.atoiAll_bounds hv
    have hi : jg v = some (Lib.itoa v) := by unfold jg; rw [if_pos hb]
    simp only [endO]
    rw [Zv, hi, z7, za, zB, Zp]
    by_cases he : Lib.itoa v = x
    ·rw [if_pos he, if_pos he, za, zz, if_pos (by simp; omega), zq, zF (by omega)]
     simp only [zY]
     rw [hk _ (by simp; omega)]
     cases nums (xs.drop (j + 1)) with
     | none => rfl
     | some ns => simp
    ·rw [if_neg he, if_neg he]; rfl
   ·rfl
   ·rfl
  ·intro a hp k
   have hal : a.length ≤ 60000 := by omega
   clear hp hxw hwl
   rw [za, zd, zh, zb, if_neg (by omega)]
   simp only [nums, List.append_nil]
   rw [zf]
   by_cases h1 : q = 1
   ·subst h1
    rw [if_pos rfl, zf, zb, zp2]
    by_cases h3 : a.length % 3 = 0
    ·rw [if_pos (by omega)]
     have hn : a.length = 3 * (a.length / 3) := by omega
     have htl := ziW _ a hn
     have he : endP 1 a = if zG (1, 0, 0, trip a) = 0 then ((1, 0, 0, trip a), 0) else (YF, zG (1, 0, 0, trip a)) := by unfold endP V9; rw [if_pos rfl, if_pos h3]
     rw [he]
     refine (zR (trip a) (fun j (es : List Ent) => (((3 * j : Nat) : Int), es)) (G := fun rest es => some (if zG (1, 0, 0, es ++ rest) = 0 then (((1, 0, 0, es ++ rest) : Rc), 0) else (YF, zG (1, 0, 0, es ++ rest)))) (P := fun j es => es.length = j) (s0 := []) ?_ ?_ rfl (by omega)).trans (by simp)
     ·intro j es hj hp k hk
      rw [htl] at hj
      have hg := ziX _ a j hn hj
      rw [hg]
      have e0 := yV (show 3 * j < a.length by omega)
      have e1 := yV (show 3 * j + 1 < a.length by omega)
      have e2 := yV (show 3 * j + 2 < a.length by omega)
      generalize a.getD (3 * j) default = x0 at *
      generalize a.getD (3 * j + 1) default = x1 at *
      generalize a.getD (3 * j + 2) default = x2 at *
      have w1 : wadd .i64 ((3 * j : Nat) : Int) 1 = ((3 * j + 1 : Nat) : Int) := by rw [ZP ⟨by omega, by omega⟩]; rfl
      have w2 : wadd .i64 ((3 * j : Nat) : Int) 2 = ((3 * j + 2 : Nat) : Int) := by rw [ZP ⟨by omega, by omega⟩]; rfl
      have w3 : wadd .i64 ((3 * j : Nat) : Int) 3 = ((3 * (j + 1) : Nat) : Int) := by rw [ZP ⟨by omega, by omega⟩]; omega
      rw [za, zh, if_pos (show ((3 * j : Nat) : Int) < a.length by omega)]
      simp only [w1, w2, w3, zM, Int.toNat_natCast]
      rw [za, zH, if_pos (by omega), e0, z7, za, zH, if_pos (by omega), e1, z7, za, zH, if_pos (by omega), e2, z7, za, zz, if_pos (by simp; omega), zq]
      simp only [zY]
      rw [hk _ (by simp; omega)]
      simp
     ·intro es hp k
      rw [za, zd, zh, if_neg (show ¬ ((3 * (trip a).length : Nat) : Int) < a.length by omega), List.append_nil]
      exact ziY (1, 0, 0, es) (by simp; omega)
    ·rw [if_neg (by omega)]
     unfold endP V9
     rw [if_pos rfl, if_neg h3]
     rfl
   ·rw [if_neg h1]
    by_cases h2 : a.length = 2
    ·match a, h2 with
     | [x, y], _ =>
      have c2 := ziY (q, x, y, []) (by simp)
      rw [zf, zf]
      by_cases k2 : q = 2
      ·rw [if_pos k2]
       have : endP q [x, y] = if zG (q, x, y, []) = 0 then ((q, x, y, []), 0) else (YF, zG (q, x, y, [])) := by unfold endP V9; rw [if_neg h1, if_pos (.inl k2)]
       rw [this]
       exact c2
      ·rw [if_neg k2, zf]
       by_cases k3 : q = 3
       ·rw [if_pos k3]
        have : endP q [x, y] = if zG (q, x, y, []) = 0 then ((q, x, y, []), 0) else (YF, zG (q, x, y, [])) := by unfold endP V9; rw [if_neg h1, if_pos (.inr k3)]
        rw [this]
        exact c2
       ·rw [if_neg k3, zf]
        unfold endP V9
        rw [if_neg h1, if_neg (show ¬ (q = 2 ∨ q = 3) by omega)]
        by_cases k4 : q = 4
        ·rw [if_pos k4, if_pos k4]; rfl
        ·rw [if_neg k4, if_neg k4]; rfl
    ·have g2 : ¬ (lenI a = 2) := by rw [zb]; omega
     have r2 : ∀ k : Int, (k = 2 ∨ k = 3) → V9 k a = none := by
      intro k hk
      unfold V9
      rw [if_neg (by omega), if_pos hk]
      match a, h2 with
      | [], _ => rfl
      | [_], _ => rfl
      | _ :: _ :: _ :: _, _ => rfl
     simp only [zf, if_neg g2]
     by_cases k4 : q = 4
     ·subst k4
      by_cases l1 : a.length = 1
      ·match a, l1 with
       | [x], _ => exact ziY (4, 0, x, []) (by simp)
      ·have g1 : ¬ (lenI a = 1) := by rw [zb]; omega
       have : endP 4 a = (YF, 1) := by
        unfold endP V9
        rw [if_neg (by omega), if_neg (by omega), if_pos rfl]
        match a, l1 with
        | [], _ => rfl
        | _ :: _ :: _, _ => rfl
       rw [this]
       simp only [if_neg g1]
       rfl
     ·simp only [if_neg k4]
      have : endP q a = (YF, 1) := by
       unfold endP
       by_cases hk : q = 2 ∨ q = 3
       ·rw [r2 q hk]
       ·unfold V9; rw [if_neg h1, if_neg hk, if_neg k4]
      rw [this]
      split
      ·rfl
      ·split <;> rfl
  ·cases nums xs <;> rfl
end Go.Proofs.Y
namespace Go.Proofs.Y
open Go.Rb Go.Kx
theorem z5o (s : List UInt8) : strB (bytB s) = s := by
 unfold strB bytB
 rw [List.map_map]
 have : ((fun n : Int => UInt8.ofNat n.toNat) ∘ fun b : UInt8 => (b.toNat : Int)) = id := by
  funext b; simp
 rw [this, List.map_id]
theorem ZU (s : List UInt8) : (bytB s).length = s.length := by unfold bytB; rw [List.length_map]
theorem ziZ (s t : List UInt8) : bytB (s ++ t) = bytB s ++ bytB t := by unfold bytB; rw [List.map_append]
theorem za7 (s : List UInt8) (k : Nat) : (bytB s).take k = bytB (s.take k) := by unfold bytB; rw [List.map_take]
def bD (d : List UInt8 × List UInt8) : List Int × List Int := (bytB d.1, bytB d.2)
theorem zce (s : List UInt8) (most : Int) (hl : s.length ≤ 60000) : YW s most = some (lnP most s) := by
 unfold YW
 have key := yB (f := fun (x : List UInt8 × List (Int × Int × Int × List (Int × Int × Int))) =>
   ifB (notB (eqS (Prod.fst x) []))
    (z6 (cutO (Prod.fst x) [10])
     fun (y : List UInt8 × List UInt8 × Bool) =>
     ifB (notB (Prod.snd (Prod.snd y))) (mapO Sum.inr (some (Prod.snd x, wsub IntKind.i64 (lenI s) (lenI (Prod.fst x)), 8)))
      (z6 (vV (Prod.fst y)) fun (y_1 : (Int × Int × Int × List (Int × Int × Int)) × Int) =>
       ifB (neI (Prod.snd y_1) 0) (mapO Sum.inr (some (Prod.snd x, wsub IntKind.i64 (lenI s) (lenI (Prod.fst x)), Prod.snd y_1)))
        (ifB (eqI (lenI (Prod.snd x)) most) (mapO Sum.inr (some (Prod.snd x, wsub IntKind.i64 (lenI s) (lenI (Prod.fst x)), 2)))
         (ifB
          (ze 48 (Prod.snd x)
           [(Prod.fst (Prod.fst y_1), Prod.fst (Prod.snd (Prod.fst y_1)), Prod.fst (Prod.snd (Prod.snd (Prod.fst y_1))),
             Prod.snd (Prod.snd (Prod.snd (Prod.fst y_1))))])
          (some
           (Sum.inl
            (Prod.fst (Prod.snd y),
             cat (Prod.snd x)
              [(Prod.fst (Prod.fst y_1), Prod.fst (Prod.snd (Prod.fst y_1)), Prod.fst (Prod.snd (Prod.snd (Prod.fst y_1))),
                Prod.snd (Prod.snd (Prod.snd (Prod.fst y_1))))])))
          none))))
    (mapO Sum.inr (some (Prod.snd x, lenI s, 0))))
  (G := fun x => some (lnW most s.length (sp 10 x.1) x.2)) (P := fun x => x.1.length + x.2.length ≤ s.length) (μ := fun x => x.1.length) ?_ maxR (s, []) (by simp) (by unfold maxR; simp only; omega)
 ·exact key
 ·rintro ⟨t, acc⟩ hp k hk
  simp only at hp hk ⊢
  have hw : wsub .i64 (lenI s) (lenI t) = (s.length : Int) - t.length := by rw [zb, zb, Zz ⟨by omega, by omega⟩]
  rw [za, zB, Zp]
  by_cases h0 : t = []
  ·subst h0
   rw [if_pos rfl, zd]
   rfl
  ·rw [if_neg h0, hw]
   have hc : cutO t [10] = some (Lib.cut t [10]) := by unfold cutO; rw [if_pos (by omega)]
   rw [hc, z7, za, zd, zB]
   rcases z7o 10 t with hn | ⟨w, l, rfl, hn⟩
   ·rw [zcc hn]
    show some _ = _
    rw [zaA 10 hn, lnW, if_pos rfl, if_neg h0]
   ·rw [zcd hn]
    simp only [Zi]
    rw [zoD, z7, za, zd, zi, za, zd, zf, zb, za6 10 w l hn, lnW, if_neg (JB 10 l), z1C 10 w (JB 10 l), z5n]
    split
    ·split
     ·rfl
     ·simp only [List.length_append, List.length_cons] at hp hk
      rw [za, zq, zz, if_pos (by simp; omega)]
      simp only [zY]
      exact hk _ (by simp; omega) (by simp only; omega)
    ·rfl
theorem j6 (d : List UInt8 × List UInt8) (h1 : d.1.length < 4611686018427387904) (h2 : d.2.length < 4611686018427387904) : yL (bytB d.1, bytB d.2) = some (ZE d) := by
 unfold yL ZE
 simp only [zb, ZU, zx, z5o]
 rw [Zz ⟨by omega, by omega⟩]
 by_cases k1 : 60000 < d.1.length
 ·rw [if_pos (by omega), if_pos k1]
 ·rw [if_neg (by omega), if_neg k1, zce _ _ (by omega), z7]
  by_cases k2 : 60000 - d.1.length < d.2.length
  ·rw [if_pos (by omega), if_pos k2]
  ·rw [if_neg (by omega), if_neg k2]
theorem jw (s : List UInt8) (h : s.length ≤ 60000) : YM (bytB s) = some (bytB s) := by
 unfold YM
 exact z09 1 (bytB s) (by rw [ZU]; omega) (by rw [ZU]; omega)
theorem z5W (s t : List UInt8) (h : s.length + t.length ≤ 60000) : V8 [bytB s, bytB t] = some (bytB (s ++ t)) := by
 unfold V8
 rw [ziZ, ← z1s]
 refine z3b 1 0 [bytB s, bytB t] (by simp) (by omega) ?_ (by omega)
 rw [z1s, List.length_append, ZU, ZU]; omega
theorem zpN (d : List UInt8 × List UInt8) (r : Rc) (h1 : d.1.length < 4611686018427387904) (h2 : d.2.length < 4611686018427387904) (hl : r.2.2.2.length < 4611686018427387904) : YE (bytB d.1, bytB d.2) r = some (bD (dPut d r).1, (dPut d r).2) := by
 unfold YE dPut
 rw [j6 d h1 h2, z7, zi]
 by_cases hc : ZE d = 0
 ·have hlen := vv hc
  rw [if_pos hc, if_pos hc, show vW (Prod.fst r, Prod.fst (Prod.snd r), Prod.fst (Prod.snd (Prod.snd r)), Prod.snd (Prod.snd (Prod.snd r))) = some (zdT r) from zoC r hl, z7, zi]
  unfold zdT
  by_cases hr : zG r = 0
  ·have ht := zni hr
   simp only [if_pos hr, zb, ZU, zx]
   rw [ZP ⟨by omega, by omega⟩, Zz (a := 60000) ⟨by omega, by omega⟩, Zz ⟨by omega, by omega⟩]
   simp only [if_true]
   by_cases hf : 60000 - (d.1.length : Int) - d.2.length < (vI r).length + 1
   ·rw [if_pos hf, if_pos hf]; rfl
   ·rw [if_neg hf, if_neg hf, jw _ (by omega), z7, jw _ (by omega), z7, zz, if_pos (by rw [ZU, ZU]; omega), zz, if_pos (by rw [zY, List.length_append, ZU, ZU]; simp; omega)]
    simp only [zY, bD, zaC, ziZ, List.append_assoc]
    rfl
  ·simp only [if_neg hr]; rfl
 ·rw [if_neg hc, if_neg hc]; rfl
theorem zoE (d : List UInt8 × List UInt8) (h1 : d.1.length < 4611686018427387904) (h2 : d.2.length < 4611686018427387904) : Yl (bytB d.1, bytB d.2) = some (bD (z3h d).1, (z3h d).2) := by
 unfold Yl z3h
 rw [j6 d h1 h2, z7, zi]
 by_cases hc : ZE d = 0
 ·have hlen := vv hc
  rw [if_pos hc, if_pos hc]
  have e2 := j6 (d.1 ++ d.2, []) (by simp; omega) (by simp)
  simp only at e2
  rw [z5W _ _ hlen, z7, show yL (bytB (d.1 ++ d.2), []) = some (ZE (d.1 ++ d.2, [])) from e2, z7, zi]
  split <;> rfl
 ·rw [if_neg hc, if_neg hc]; rfl
theorem znk (d : List UInt8 × List UInt8) (n : Int) (h1 : d.1.length < 4611686018427387904) (h2 : d.2.length < 4611686018427387904) : YX (bytB d.1, bytB d.2) n = some (bD (z10 d n).1, (z10 d n).2) := by
 unfold YX z10
 rw [j6 d h1 h2, z7, zi]
 by_cases hc : ZE d = 0
 ·have hlen := vv hc
  simp only [if_pos hc, zb, ZU, zx, zh]
  by_cases k1 : n < 0
  ·rw [if_pos k1, if_pos (.inl k1)]; rfl
  ·rw [if_neg k1]
   by_cases k2 : (d.2.length : Int) < n
   ·rw [if_pos k2, if_pos (.inr k2)]; rfl
   ·rw [if_neg k2, if_neg (by omega), jw _ (by omega), z7, zD, if_pos ⟨by omega, by rw [ZU]; omega⟩, zS, za7, jw _ (by rw [List.length_take]; omega)]
    rfl
 ·rw [if_neg hc, if_neg hc]; rfl
theorem Jq (d : List UInt8 × List UInt8) (h1 : d.1.length < 4611686018427387904) (h2 : d.2.length < 4611686018427387904) : ZT (bytB d.1, bytB d.2) = some (bD (zy d).1, (zy d).2) := by
 unfold ZT zy
 rw [j6 d h1 h2, z7, zi]
 by_cases hc : ZE d = 0
 ·have hlen := vv hc
  have n1 := zaB 60 d.1
  have hm := zp1 (60 - ((lnP 60 d.1).1.length : Int)) d.2
  have n2 := zaB (60 - ((lnP 60 d.1).1.length : Int)) d.2
  rw [if_pos hc, if_pos hc]
  simp only [z5o]
  rw [zce _ _ (by omega), z7, zb, Zz ⟨by omega, by omega⟩, zce _ _ (by omega), z7, zD, if_pos ⟨hm.1, by rw [ZU]; exact hm.2⟩, zS, za7, z5W _ _ (by rw [List.length_take]; omega), z7, zz, if_pos (by omega)]
  rfl
 ·rw [if_neg hc, if_neg hc]; rfl
theorem at_some (a b : Int) (hb : 0 < b) (hb2 : b ≤ 4611686018427387904) : ∃ n, z44 a b = some n ∧ 0 ≤ n ∧ n < b := by
 unfold z44 wrem
 rw [zf, if_neg (by omega), zh]
 have h1 := Int.tmod_lt_of_pos a hb
 have h2 : -b < a.tmod b := by
  have := Int.tmod_lt_of_pos (-a) hb
  rw [Int.neg_tmod] at this
  omega
 by_cases h : a.tmod b < 0
 ·rw [if_pos h, ZP ⟨by omega, by omega⟩]
  exact ⟨_, rfl, by omega, by omega⟩
 ·rw [if_neg h]
  exact ⟨_, rfl, by omega, h1⟩
end Go.Proofs.Y
namespace Go.Proofs.Y
open Go.Rb Go.Kx
theorem zjY (a b : List Rc) (h : a.length + b.length ≤ 60) : z0Y [a, b] = some (a ++ b) := by
 unfold z0Y
 rw [← z1s]
 refine z3b 48 (0, 0, 0, []) [a, b] (by simp) (by omega) ?_ (by omega)
 rw [z1s, List.length_append]; omega
theorem z22 {r : Rc} (h : zG r = 0) : r.2.2.2.length < 4611686018427387904 := by
 obtain ⟨k1, k2, k3, k4⟩ := Jo h
 by_cases hk : r.1 = 1
 ·have := (k3 hk).2.2.1; omega
 ·rw [(k4 hk).1]; decide
end Go.Proofs.Y
namespace Go.Proofs.Y
open Go.Rb Go.Kx
noncomputable def z88 : Code := zl Tryz.f24
noncomputable def z89 : FuncId → Option GS := tabG [(34, vX), (28, jr), (35, z9v)]
theorem zgy : ΓOK Tryz.prog z89 := z8 (vH) (z8 (J1) (z8 (zdh) (zg)))
def z8a : HT := ⟨tabL [(14, .it [] (dyn [.t 53 (.int .i64)]))], tabH []⟩
abbrev z1E : List IT := [.v (.cons (.sl 95 (.cons (.sl 126 (.cons (.int .i64) (.cons (.int .i64) (.cons (.int .i64) (.one (.sl 4 (.one .bool))))))) (.one (.sl 73 (.cons (.int .i64) (.one (.int .i64))))))) (.cons (.sl 5 (.one (.int .u8))) (.cons (.sl 5 (.one (.int .u8))) (.cons (.bool) (.one (.sl 3 (.one (.int .i64)))))))) true]
abbrev z6G : List OT := [⟨.one (.int .i64), false, []⟩]
set_option maxRecDepth 100000
noncomputable def yR : List (List (Int × Int × Int × List Bool) × List (Int × Int)) × List Int × List Int × Bool × List Int → Option Int := fun a => z6 (ZT (a.2.1, a.2.2.1)) fun y => ifB (neI y.2.2 0) (some y.2.2) (ifB a.2.2.2.1 (ifB (gtI (lenI a.2.2.1) 0) (some 4) (ifB (notB a.2.2.2.1) (z6 (ZS []) fun y => ifB (neI y.2 0) (some y.2) (z6 (Y5 y.1 a.1) fun y => ifB (notB y) (some 4) (ifB (neI (lenI a.2.2.2.2) 3) (some 4) (zk maxR (fun (x : Int) => ifB (ltI x (lenI a.2.2.2.2)) (z6 (atI a.2.2.2.2 x) fun y => ifB (ltI y (-1)) (mapO Sum.inr (some 3)) (ifB (gtI y 0) (mapO Sum.inr (some 3)) (ifB (notB a.2.2.2.1) (ifB (neI y (-1)) (mapO Sum.inr (some 3)) (some (Sum.inl (wadd .i64 x 1)))) (some (Sum.inl (wadd .i64 x 1)))))) (mapO Sum.inr (some 0))) 0)))) (z6 (ZS y.2.1) fun y_1 => ifB (neI y_1.2 0) (some y_1.2) (z6 (Y5 y_1.1 a.1) fun y_2 => ifB (notB y_2) (some 4) (ifB (neI (lenI a.2.2.2.2) 3) (some 4) (zk maxR (fun (x : Int) => ifB (ltI x (lenI a.2.2.2.2)) (z6 (atI a.2.2.2.2 x) fun y_3 => ifB (ltI y_3 (-1)) (mapO Sum.inr (some 3)) (ifB (gtI y_3 (lenI y.2.1)) (mapO Sum.inr (some 3)) (ifB (notB a.2.2.2.1) (ifB (neI y_3 (-1)) (mapO Sum.inr (some 3)) (some (Sum.inl (wadd .i64 x 1)))) (some (Sum.inl (wadd .i64 x 1)))))) (mapO Sum.inr (some 0))) 0)))))) (ifB (notB a.2.2.2.1) (z6 (ZS []) fun y => ifB (neI y.2 0) (some y.2) (z6 (Y5 y.1 a.1) fun y => ifB (notB y) (some 4) (ifB (neI (lenI a.2.2.2.2) 3) (some 4) (zk maxR (fun (x : Int) => ifB (ltI x (lenI a.2.2.2.2)) (z6 (atI a.2.2.2.2 x) fun y => ifB (ltI y (-1)) (mapO Sum.inr (some 3)) (ifB (gtI y 0) (mapO Sum.inr (some 3)) (ifB (notB a.2.2.2.1) (ifB (neI y (-1)) (mapO Sum.inr (some 3)) (some (Sum.inl (wadd .i64 x 1)))) (some (Sum.inl (wadd .i64 x 1)))))) (mapO Sum.inr (some 0))) 0)))) (z6 (ZS y.2.1) fun y_1 => ifB (neI y_1.2 0) (some y_1.2) (z6 (Y5 y_1.1 a.1) fun y_2 => ifB (notB y_2) (some 4) (ifB (neI (lenI a.2.2.2.2) 3) (some 4) (zk maxR (fun (x : Int) => ifB (ltI x (lenI a.2.2.2.2)) (z6 (atI a.2.2.2.2 x) fun y_3 => ifB (ltI y_3 (-1)) (mapO Sum.inr (some 3)) (ifB (gtI y_3 (lenI y.2.1)) (mapO Sum.inr (some 3)) (ifB (notB a.2.2.2.1) (ifB (neI y_3 (-1)) (mapO Sum.inr (some 3)) (some (Sum.inl (wadd .i64 x 1)))) (some (Sum.inl (wadd .i64 x 1)))))) (mapO Sum.inr (some 0))) 0))))))
theorem zcf (x : PI z1E) : yR x = fnE T z89 z8a z88 (zu Tryz.f24) z1E z6G x := by kernel_rfl
noncomputable abbrev JD : GS := zt false z1E z6G fun x => yR x
theorem JH : GSOK Tryz.prog 24 JD := zm tok zgy fmo (Ht := z8a) (fn := Tryz.f24) (Tryz.func24) (c := z88) (by kernel_rfl) (by kernel_rfl) (by kernel_rfl) (by decide +kernel) (by decide) zcf
end Go.Proofs.Y
namespace Go.Proofs.Y
open Go.Rb Go.Kx
noncomputable def zfY : Code := zl Tryz.f107
noncomputable def zfZ : FuncId → Option GS := tabG [(137, JT), (138, z4W), (139, z3I), (140, z3T)]
theorem znl : ΓOK Tryz.prog zfZ := z8 (VO) (z8 (z3K) (z8 (z1K) (z8 (z50) (zg))))
def zg0 : HT := ⟨tabL [(3, .unroll 5), (7, .it [] (dyn [.t 33 (.int .i64), .b 29 0 126 (.cons (.int .i64) (.cons (.int .i64) (.cons (.int .i64) (.one (.sl 4 (.one .bool))))))]))], tabH [(2, [.expl 1 0]), (12, [.frzq 1 0 0, .frzq 1 0 1, .frzq 1 0 2, .frzq 1 0 3, .frzq 1 0 4, .frzq 1 0 5, .frzq 1 0 6, .frzq 1 0 7, .pack 1 0 (.cons (.sl 126 (.cons (.int .i64) (.cons (.int .i64) (.cons (.int .i64) (.one (.sl 4 (.one .bool))))))) (.one (.sl 73 (.cons (.int .i64) (.one (.int .i64))))))])]⟩
abbrev z7q : List IT := [.v (.one (.sl 95 (.cons (.sl 126 (.cons (.int .i64) (.cons (.int .i64) (.cons (.int .i64) (.one (.sl 4 (.one .bool))))))) (.one (.sl 73 (.cons (.int .i64) (.one (.int .i64)))))))) true]
abbrev zdU : List OT := [⟨.one (.sl 95 (.cons (.sl 126 (.cons (.int .i64) (.cons (.int .i64) (.cons (.int .i64) (.one (.sl 4 (.one .bool))))))) (.one (.sl 73 (.cons (.int .i64) (.one (.int .i64))))))), true, []⟩]
set_option maxRecDepth 100000
noncomputable def z23 : List (List (Int × Int × Int × List Bool) × List (Int × Int)) → Option (List (List (Int × Int × Int × List Bool) × List (Int × Int))) := fun a => z6 (Ya a) fun y => z6 (four y) fun (y : (List (Int × Int × Int × List Bool) × List (Int × Int)) × (List (Int × Int × Int × List Bool) × List (Int × Int)) × (List (Int × Int × Int × List Bool) × List (Int × Int)) × List (Int × Int × Int × List Bool) × List (Int × Int)) => z6 (Z2 y.1.1) fun y_1 => z6 (Zf y.1.2) fun y_2 => zk maxR (fun (x : Int × List (Int × Int × Int × List Bool)) => ifB (ltI x.1 (lenI y.1.1)) (z6 (atI y.1.1 x.1) fun y => z6 (zJ (y.1, y.2.1, y.2.2.1, y.2.2.2)) fun y => ifB (ltL x.1 x.2) (z6 (atN x.2 (natI x.1)) fun y_3 => some (Sum.inl (wadd .i64 x.1 1, setN x.2 (natI x.1) (y.1, y.2.1, y.2.2.1, y.2.2.2)))) none) (mapO Sum.inr (z6 (Z2 y.2.1.1) fun y_3 => z6 (Zf y.2.1.2) fun y_4 => zk maxR (fun (x_1 : Int × List (Int × Int × Int × List Bool)) => ifB (ltI x_1.1 (lenI y.2.1.1)) (z6 (atI y.2.1.1 x_1.1) fun y => z6 (zJ (y.1, y.2.1, y.2.2.1, y.2.2.2)) fun y => ifB (ltL x_1.1 x_1.2) (z6 (atN x_1.2 (natI x_1.1)) fun y_5 => some (Sum.inl (wadd .i64 x_1.1 1, setN x_1.2 (natI x_1.1) (y.1, y.2.1, y.2.2.1, y.2.2.2)))) none) (mapO Sum.inr (z6 (Z2 y.2.2.1.1) fun y_5 => z6 (Zf y.2.2.1.2) fun y_6 => zk maxR (fun (x_2 : Int × List (Int × Int × Int × List Bool)) => ifB (ltI x_2.1 (lenI y.2.2.1.1)) (z6 (atI y.2.2.1.1 x_2.1) fun y => z6 (zJ (y.1, y.2.1, y.2.2.1, y.2.2.2)) fun y => ifB (ltL x_2.1 x_2.2) (z6 (atN x_2.2 (natI x_2.1)) fun y_7 => some (Sum.inl (wadd .i64 x_2.1 1, setN x_2.2 (natI x_2.1) (y.1, y.2.1, y.2.2.1, y.2.2.2)))) none) (mapO Sum.inr (z6 (Z2 y.2.2.2.1) fun y_7 => z6 (Zf y.2.2.2.2) fun y_8 => zk maxR (fun (x_3 : Int × List (Int × Int × Int × List Bool)) => ifB (ltI x_3.1 (lenI y.2.2.2.1)) (z6 (atI y.2.2.2.1 x_3.1) fun y => z6 (zJ (y.1, y.2.1, y.2.2.1, y.2.2.2)) fun y => ifB (ltL x_3.1 x_3.2) (z6 (atN x_3.2 (natI x_3.1)) fun y_9 => some (Sum.inl (wadd .i64 x_3.1 1, setN x_3.2 (natI x_3.1) (y.1, y.2.1, y.2.2.1, y.2.2.2)))) none) (mapO Sum.inr (some [(x.2, y_2), (x_1.2, y_4), (x_2.2, y_6), (x_3.2, y_8)]))) (0, y_7)))) (0, y_5)))) (0, y_3)))) (0, y_1)
theorem zj0 (x : PI z7q) : z23 x = fnE T zfZ zg0 zfY (zu Tryz.f107) z7q zdU x := by kernel_rfl
noncomputable abbrev zg1 : GS := zt false z7q zdU fun x => z23 x
theorem zj1 : GSOK Tryz.prog 107 zg1 := zm tok znl fmo (Ht := zg0) (fn := Tryz.f107) (Tryz.func107) (c := zfY) (by kernel_rfl) (by kernel_rfl) (by kernel_rfl) (by decide +kernel) (by decide) zj0
end Go.Proofs.Y
namespace Go.Proofs.Y
open Go.Rb Go.Kx
noncomputable def zj2 : Code := zl Tryz.f69
noncomputable def zj3 : FuncId → Option GS := tabG []
theorem zoF : ΓOK Tryz.prog zj3 := zg
def zj4 : HT := ⟨tabL [], tabH []⟩
abbrev za8 : List IT := [.v (.one (.sl 3 (.one (.int .i64)))) false]
abbrev zg2 : List OT := [⟨.one (.sl 3 (.one (.int .i64))), false, [true]⟩]
set_option maxRecDepth 100000
noncomputable def z7r : List Int → Option (List Int) := fun a => ifB (isE a) (ambO (some []) (ifB (ze 8 [] a) (some (cat [] a)) none)) (ifB (ze 8 [] a) (some (cat [] a)) none)
theorem zjZ (x : PI za8) : z7r x = fnE T zj3 zj4 zj2 (zu Tryz.f69) za8 zg2 x := by kernel_rfl
noncomputable abbrev zj5 : GS := zt false za8 zg2 fun x => z7r x
theorem zk0 : GSOK Tryz.prog 69 zj5 := zm tok zoF fmo (Ht := zj4) (fn := Tryz.f69) (Tryz.func69) (c := zj2) (by kernel_rfl) (by kernel_rfl) (by kernel_rfl) (by decide +kernel) (by decide) zjZ
end Go.Proofs.Y
namespace Go.Proofs.Y
open Go.Rb Go.Kx
noncomputable def za9 : Code := zl Tryz.f60
noncomputable def zaa : FuncId → Option GS := tabG [(107, zg1), (69, zj5), (86, z5j)]
theorem zj6 : ΓOK Tryz.prog zaa := z8 (zj1) (z8 (zk0) (z8 (z4a) (zg)))
def zab : HT := ⟨tabL [], tabH []⟩
abbrev z2x : List IT := [.v (.cons (.sl 95 (.cons (.sl 126 (.cons (.int .i64) (.cons (.int .i64) (.cons (.int .i64) (.one (.sl 4 (.one .bool))))))) (.one (.sl 73 (.cons (.int .i64) (.one (.int .i64))))))) (.cons (.sl 5 (.one (.int .u8))) (.cons (.sl 5 (.one (.int .u8))) (.cons (.bool) (.one (.sl 3 (.one (.int .i64)))))))) true]
abbrev z8b : List OT := [⟨.cons (.sl 95 (.cons (.sl 126 (.cons (.int .i64) (.cons (.int .i64) (.cons (.int .i64) (.one (.sl 4 (.one .bool))))))) (.one (.sl 73 (.cons (.int .i64) (.one (.int .i64))))))) (.cons (.sl 5 (.one (.int .u8))) (.cons (.sl 5 (.one (.int .u8))) (.cons (.bool) (.one (.sl 3 (.one (.int .i64))))))), true, [false, false, false, false, true]⟩]
set_option maxRecDepth 100000
noncomputable def yN : List (List (Int × Int × Int × List Bool) × List (Int × Int)) × List Int × List Int × Bool × List Int → Option (List (List (Int × Int × Int × List Bool) × List (Int × Int)) × List Int × List Int × Bool × List Int) := fun a => z6 (z23 a.1) fun y => z6 (z7r a.2.2.2.2) fun y_1 => z6 (YM a.2.1) fun y_2 => z6 (YM a.2.2.1) fun y_3 => some (y, y_2, y_3, a.2.2.2.1, y_1)
theorem zdV (x : PI z2x) : yN x = fnE T zaa zab za9 (zu Tryz.f60) z2x z8b x := by kernel_rfl
noncomputable abbrev zac : GS := zt false z2x z8b fun x => yN x
theorem zdW : GSOK Tryz.prog 60 zac := zm tok zj6 fmo (Ht := zab) (fn := Tryz.f60) (Tryz.func60) (c := za9) (by kernel_rfl) (by kernel_rfl) (by kernel_rfl) (by decide +kernel) (by decide) zdV
end Go.Proofs.Y
namespace Go.Proofs.Y
open Go.Rb Go.Kx
noncomputable def z2K : Code := zl Tryz.f166
noncomputable def z2L : FuncId → Option GS := tabG []
theorem zaH : ΓOK Tryz.prog z2L := zg
def z2M : HT := ⟨tabL [], tabH []⟩
noncomputable def z2N : GS := inl T z2L z2M z2K (zu Tryz.f166) (Tryz.f166.ntmps)
theorem z7s : GSOK Tryz.prog 166 z2N := Yo tok zaH fmo (Ht := z2M) (fn := Tryz.f166) (Tryz.func166) (c := z2K) (by kernel_rfl) (by kernel_rfl) (by kernel_rfl)
end Go.Proofs.Y
namespace Go.Proofs.Y
open Go.Rb Go.Kx
noncomputable def z2O : Code := zl Tryz.f167
noncomputable def z2P : FuncId → Option GS := tabG []
theorem zaI : ΓOK Tryz.prog z2P := zg
def z2Q : HT := ⟨tabL [], tabH []⟩
noncomputable def z2R : GS := inl T z2P z2Q z2O (zu Tryz.f167) (Tryz.f167.ntmps)
theorem z7t : GSOK Tryz.prog 167 z2R := Yo tok zaI fmo (Ht := z2Q) (fn := Tryz.f167) (Tryz.func167) (c := z2O) (by kernel_rfl) (by kernel_rfl) (by kernel_rfl)
end Go.Proofs.Y
namespace Go.Proofs.Y
open Go.Rb Go.Kx
noncomputable def z5p : Code := zl Tryz.f144
noncomputable def z5q : FuncId → Option GS := tabG [(166, z2N), (167, z2R)]
theorem zdX : ΓOK Tryz.prog z5q := z8 (z7s) (z8 (z7t) (zg))
def z5r : HT := ⟨tabL [], tabH []⟩
noncomputable def z5s : GS := inl T z5q z5r z5p (zu Tryz.f144) (Tryz.f144.ntmps)
theorem zad : GSOK Tryz.prog 144 z5s := Yo tok zdX fmo (Ht := z5r) (fn := Tryz.f144) (Tryz.func144) (c := z5p) (by kernel_rfl) (by kernel_rfl) (by kernel_rfl)
end Go.Proofs.Y
namespace Go.Proofs.Y
open Go.Rb Go.Kx
noncomputable def zg3 : Code := zl Tryz.f113
noncomputable def zg4 : FuncId → Option GS := tabG [(144, z5s)]
theorem znm : ΓOK Tryz.prog zg4 := z8 (zad) (zg)
def zg5 : HT := ⟨tabL [(8, .unroll 4)], tabH []⟩
noncomputable def zg6 : GS := inl T zg4 zg5 zg3 (zu Tryz.f113) (Tryz.f113.ntmps)
theorem zj7 : GSOK Tryz.prog 113 zg6 := Yo tok znm fmo (Ht := zg5) (fn := Tryz.f113) (Tryz.func113) (c := zg3) (by kernel_rfl) (by kernel_rfl) (by kernel_rfl)
end Go.Proofs.Y
namespace Go.Proofs.Y
open Go.Rb Go.Kx
noncomputable def z6H : Code := zl Tryz.f76
noncomputable def z6I : FuncId → Option GS := tabG [(113, zg6)]
theorem zeJ : ΓOK Tryz.prog z6I := z8 (zj7) (zg)
def z6J : HT := ⟨tabL [], tabH []⟩
abbrev z11 : List IT := []
abbrev z5t : List OT := [⟨.one (.sl 3 (.one (.int .i64))), false, [true]⟩]
set_option maxRecDepth 100000
noncomputable def yw : Option (List Int) := some [-1, -1, -1]
theorem zaJ (x : PI z11) : yw  = fnE T z6I z6J z6H (zu Tryz.f76) z11 z5t x := by kernel_rfl
noncomputable abbrev jx : GS := zt false z11 z5t fun x => yw 
theorem J2 : GSOK Tryz.prog 76 jx := zm tok zeJ fmo (Ht := z6J) (fn := Tryz.f76) (Tryz.func76) (c := z6H) (by kernel_rfl) (by kernel_rfl) (by kernel_rfl) (by decide +kernel) (by decide) zaJ
end Go.Proofs.Y
namespace Go.Proofs.Y
open Go.Rb Go.Kx
noncomputable def zbC : Code := zl Tryz.f26
noncomputable def zbD : FuncId → Option GS := tabG [(75, Jm), (76, jx)]
theorem zk1 : ΓOK Tryz.prog zbD := z8 (jq) (z8 (J2) (zg))
def zbE : HT := ⟨tabL [], tabH []⟩
abbrev z4f : List IT := []
abbrev zae : List OT := [⟨.cons (.sl 95 (.cons (.sl 126 (.cons (.int .i64) (.cons (.int .i64) (.cons (.int .i64) (.one (.sl 4 (.one .bool))))))) (.one (.sl 73 (.cons (.int .i64) (.one (.int .i64))))))) (.cons (.sl 5 (.one (.int .u8))) (.cons (.sl 5 (.one (.int .u8))) (.cons (.bool) (.one (.sl 3 (.one (.int .i64))))))), true, []⟩]
set_option maxRecDepth 100000
noncomputable def Jr : Option (List (List (Int × Int × Int × List Bool) × List (Int × Int)) × List Int × List Int × Bool × List Int) :=  z6 yK fun y => z6 yw fun y_1 => some (y, [], [], true, y_1)
theorem zeK (x : PI z4f) : Jr  = fnE T zbD zbE zbC (zu Tryz.f26) z4f zae x := by kernel_rfl
noncomputable abbrev zbF : GS := zt false z4f zae fun x => Jr 
theorem zeL : GSOK Tryz.prog 26 zbF := zm tok zk1 fmo (Ht := zbE) (fn := Tryz.f26) (Tryz.func26) (c := zbC) (by kernel_rfl) (by kernel_rfl) (by kernel_rfl) (by decide +kernel) (by decide) zeK
end Go.Proofs.Y
namespace Go.Proofs.Y
open Go.Rb Go.Kx
abbrev Wv := Shf × List Int × List Int × Bool × List Int
def wv (s : Shf) (d : List UInt8 × List UInt8) (up : Bool) (rd : List Int) : Wv := (s, bytB d.1, bytB d.2, up, rd)
def rdE (n : Int) (up : Bool) : List Int → Int
 | [] => 0
 | v :: r => if v < -1 ∨ n < v ∨ (up = false ∧ ¬ v = -1) then 3 else rdE n up r
def chkL (s : Shf) (l : List Rc) (up : Bool) (rd : List Int) : Int :=
 if (Zg l).2 = 0 then (if (Zg l).1 = s then (if rd.length = 3 then rdE l.length up rd else 4) else 4) else (Zg l).2
def chkW (s : Shf) (d : List UInt8 × List UInt8) (up : Bool) (rd : List Int) : Int :=
 if (zy d).2.2 = 0 then (if up = true then (if 0 < d.2.length then 4 else chkL s (zy d).2.1 up rd) else chkL s [] up rd) else (zy d).2.2
theorem zqy (rd : List Int) (n : Int) (up : Bool) (hl : rd.length < 4611686018427387904) :
  zk maxR (fun (x : Int) => ifB (ltI x (lenI rd)) (z6 (atI rd x) fun (y : Int) => ifB (ltI y (-1)) (mapO Sum.inr (some 3)) (ifB (gtI y n) (mapO Sum.inr (some 3)) (ifB (notB up) (ifB (neI y (-1)) (mapO Sum.inr (some 3)) (some (Sum.inl (wadd IntKind.i64 x 1)))) (some (Sum.inl (wadd IntKind.i64 x 1)))))) (mapO Sum.inr (some 0))) 0 = some (rdE n up rd) := by
 refine zR rd (fun j (_ : Unit) => (j : Int)) (G := fun rest _ => some (rdE n up rest)) (P := fun _ _ => True) (s0 := ()) ?_ ?_ trivial (by omega)
 ·rintro j _ hj _ k hk
  have hat := zK hj
  generalize rd.getD j default = v at *
  simp only [za, zw, zd, zq]
  rw [zh, zb, if_pos (by omega), hat, z7, zh, zx, zB, zi, zF (by omega), hk () trivial, rdE]
  cases up with
  | true =>
   rw [Zi]
   by_cases c : v < -1 ∨ n < v ∨ (true = false ∧ ¬ v = -1)
   ·rw [if_pos c]
    by_cases c1 : v < -1
    ·rw [if_pos c1]
    ·rw [if_neg c1, if_pos (by rcases c with c | c | c; exact absurd c c1; exact c; cases c.1)]
   ·rw [if_neg c, if_neg (fun h => c (.inl h)), if_neg (fun h => c (.inr (.inl h)))]
  | false =>
   rw [Zv]
   by_cases c : v < -1 ∨ n < v ∨ (false = false ∧ ¬ v = -1)
   ·rw [if_pos c]
    by_cases c1 : v < -1
    ·rw [if_pos c1]
    ·rw [if_neg c1]
     by_cases c2 : n < v
     ·rw [if_pos c2]
     ·rw [if_neg c2, if_neg (by rcases c with c | c | c; exact absurd c c1; exact absurd c c2; exact c.2)]
   ·rw [if_neg c, if_neg (fun h => c (.inl h)), if_neg (fun h => c (.inr (.inl h))), if_pos (Classical.byContradiction fun h => c (.inr (.inr ⟨rfl, h⟩)))]
 ·rintro _ _ k
  simp only [za, zd]
  rw [zh, zb, if_neg (by omega)]; rfl
theorem zcg (d : List UInt8 × List UInt8) (h : (zy d).2.2 = 0) : (zy d).2.1.length ≤ 60002 := by
 unfold zy at h ⊢
 split at h
 ·rename_i hc
  rw [if_pos hc]
  have hl := vv hc
  have n1 := zaB 60 d.1
  have n2 := zaB (60 - ((lnP 60 d.1).1.length : Int)) d.2
  simp only [List.length_append, JC]; omega
 ·rename_i hc; exact absurd h hc
theorem zeM (most all : Int) : ∀ (ws : List (List UInt8)) (acc : List Rc), (∀ r ∈ acc, zG r = 0) → ∀ r ∈ (lnW most all ws acc).1, zG r = 0
 | [], acc, h => h
 | w :: ws, acc, h => by
  rw [lnW]
  split
  ·split
   ·exact h
   ·exact h
  ·split
   ·rename_i hp
    split
    ·exact h
    ·exact zeM most all ws _ fun r hr => by
      rcases List.mem_append.1 hr with hr | hr
      ·exact h r hr
      ·rw [List.mem_singleton.1 hr]; exact (zfW hp).1
   ·exact h
theorem zaD (d : List UInt8 × List UInt8) : ∀ r ∈ (zy d).2.1, zG r = 0 := by
 unfold zy
 split
 ·intro r hr
  rcases List.mem_append.1 hr with hr | hr
  ·exact zeM _ _ _ [] (by simp) r hr
  ·exact zeM _ _ _ [] (by simp) r hr
 ·intro r hr; cases hr
theorem z2y (s : Shf) (d : List UInt8 × List UInt8) (up : Bool) (rd : List Int) (h1 : d.1.length < 4611686018427387904) (h2 : d.2.length < 4611686018427387904) (hrd : rd.length < 4611686018427387904) : yR (wv s d up rd) = some (chkW s d up rd) := by
 unfold yR chkW
 simp only [wv]
 rw [Jq d h1 h2, z7]
 simp only
 rw [zi]
 by_cases hr : (zy d).2.2 = 0
 ·have hn := zcg d hr
  have hok := zaD d
  rw [if_pos hr, if_pos hr]
  have tailL : ∀ l : List Rc, l.length < 4611686018427387904 → (∀ r ∈ l, r.2.2.2.length < 4611686018427387904) → (z6 (ZS l) fun (y_1 : List (List (Int × Int × Int × List Bool) × List (Int × Int)) × Int) =>
    ifB (neI (Prod.snd y_1) 0) (some (Prod.snd y_1)) (z6 (Y5 (Prod.fst y_1) s) fun (y_2 : Bool) => ifB (notB y_2) (some 4) (ifB (neI (lenI rd) 3) (some 4)
     (zk maxR (fun (x : Int) => ifB (ltI x (lenI rd)) (z6 (atI rd x) fun (y_3 : Int) => ifB (ltI y_3 (-1)) (mapO Sum.inr (some 3)) (ifB (gtI y_3 (lenI l)) (mapO Sum.inr (some 3)) (ifB (notB up) (ifB (neI y_3 (-1)) (mapO Sum.inr (some 3)) (some (Sum.inl (wadd IntKind.i64 x 1)))) (some (Sum.inl (wadd IntKind.i64 x 1)))))) (mapO Sum.inr (some 0))) 0)))) = some (chkL s l up rd) := by
   intro l hl he
   unfold chkL
   rw [z9I l hl he, z7, zi, zqy rd (lenI l) up hrd]
   by_cases c : (Zg l).2 = 0
   ·rw [if_pos c, if_pos c, zix _ _ (z5S l), z7, zB, zL, zi, zb, zb]
    by_cases c2 : (Zg l).1 = s
    ·rw [if_pos c2, if_pos c2]
     by_cases c3 : rd.length = 3
     ·rw [if_pos (by omega), if_pos c3]
     ·rw [if_neg (by omega), if_neg c3]
    ·rw [if_neg c2, if_neg c2]
   ·rw [if_neg c, if_neg c]
  have t1 := tailL (zy d).2.1 (by omega) fun r hr => z22 (hok r hr)
  have t0 := tailL [] (by decide) (by simp)
  simp only [show lenI ([] : List Rc) = 0 from rfl] at t0
  rw [t1, t0]
  cases up with
  | true =>
   rw [Zi, if_pos rfl, zx, zb, ZU]
   simp only [notB, Bool.not_true]
   rw [Zv]
   by_cases c : 0 < d.2.length
   ·rw [if_pos (by omega), if_pos c]
   ·rw [if_neg (by omega), if_neg c]
  | false =>
   rw [Zv]
   simp only [notB, Bool.not_false]
   rw [Zi, if_neg (by decide)]
 ·rw [if_neg hr, if_neg hr]
theorem zlW (s : Shf) (hc : chkS s = 0) : z23 s = some s := by
 obtain ⟨h4, hr⟩ := chkS_zero.1 hc
 obtain ⟨r0, r1, r2, r3, rfl⟩ := len4 h4
 simp only [List.mem_cons, List.not_mem_nil, or_false, forall_eq_or_imp, forall_eq] at hr
 obtain ⟨a0, a1, a2, a3⟩ := hr
 have b0 := (Z9 a0).1; have b1 := (Z9 a1).1; have b2 := (Z9 a2).1; have b3 := (Z9 a3).1
 unfold z23
 exact zdq r0 r1 r2 r3 (ZY a0) (ZY a1) (ZY a2) (ZY a3) b0 b1 b2 b3 (fun y_2 y_4 y_6 y_8 x x_1 x_2 x_3 => some [(Prod.snd x, y_2), (Prod.snd x_1, y_4), (Prod.snd x_2, y_6), (Prod.snd x_3, y_8)])
theorem znn {a : List Int} (h : a.length ≤ 1000000000) : z7r a = some a := z09 8 a (by omega) (by omega)
theorem zaf (s : Shf) (d : List UInt8 × List UInt8) (up : Bool) (rd : List Int) (hc : chkS s = 0) (hd : d.1.length + d.2.length ≤ 60000) (hrd : rd.length = 3) : yN (wv s d up rd) = some (wv s d up rd) := by
 unfold yN
 simp only [wv]
 rw [zlW s hc, z7, znn (by omega), z7, jw _ (by omega), z7, jw _ (by omega)]
 rfl
end Go.Proofs.Y
namespace Go.Proofs.Y
open Go.Rb Go.Kx
noncomputable def zj8 : Code := zl Tryz.f108
noncomputable def zj9 : FuncId → Option GS := tabG [(31, z3X), (32, zdQ), (141, za0), (75, Jm), (76, jx), (33, zbB)]
theorem zoG : ΓOK Tryz.prog zj9 := z8 (z55) (z8 (zgx) (z8 (zdK) (z8 (jq) (z8 (J2) (z8 (zeH) (zg))))))
def zja : HT := ⟨tabL [], tabH []⟩
noncomputable def zjb : GS := inl T zj9 zja zj8 (zu Tryz.f108) (Tryz.f108.ntmps)
theorem zk2 : GSOK Tryz.prog 108 zjb := Yo tok zoG fmo (Ht := zja) (fn := Tryz.f108) (Tryz.func108) (c := zj8) (by kernel_rfl) (by kernel_rfl) (by kernel_rfl)
end Go.Proofs.Y
namespace Go.Proofs.Y
open Go.Rb Go.Kx
noncomputable def zg7 : Code := zl Tryz.f61
noncomputable def zg8 : FuncId → Option GS := tabG [(34, vX), (75, Jm), (76, jx), (28, jr), (108, zjb)]
theorem zno : ΓOK Tryz.prog zg8 := z8 (vH) (z8 (jq) (z8 (J2) (z8 (J1) (z8 (zk2) (zg)))))
def zg9 : HT := ⟨tabL [], tabH []⟩
noncomputable def zga : GS := inl T zg8 zg9 zg7 (zu Tryz.f61) (Tryz.f61.ntmps)
theorem zjc : GSOK Tryz.prog 61 zga := Yo tok zno fmo (Ht := zg9) (fn := Tryz.f61) (Tryz.func61) (c := zg7) (by kernel_rfl) (by kernel_rfl) (by kernel_rfl)
end Go.Proofs.Y
namespace Go.Proofs.Y
open Go.Rb Go.Kx
set_option maxRecDepth 100000
end Go.Proofs.Y
