/-
  What is proved, part by part: what note.Parse comes to. what disk.lines comes to. what disk.Check comes to. what disk.Crash comes to. what note.Print comes to. what disk.Put comes to. what disk.Recover comes to. what slices.Equal[[]byte,byte] comes to. what disk.Same comes to. what disk.Sync comes to. texts as words between one and the same byte; numerals read back. a record as a text, and read back, as plain functions; the one undoes the other. a disk's text as lines of records, as plain functions; whole lines are read back, a torn one is left. records checked, printed, read back by the program: what its functions come to, in plain words. a text read by the program, and the law of notes: what its functions come to, in plain words. disks: what the program's functions come to, in plain words. what a disk keeps: the law's function is always true, in plain words. what world.Check comes to. what shelf.Copy comes to. what slices.Clone[[]int,int] comes to. what world.Copy comes to. what math/bits.Mul32 comes to. what math/bits.Mul64 comes to. what math/bits.Mul comes to. what slices.Repeat[[]int,int] comes to. what world.closed comes to. what world.New comes to. worlds: checked and copied: what the program's functions come to, in plain words. what world.write comes to. what world.happen comes to. what world.Do comes to. Conditions: none.
-/
import Derived.Test.YtnkegapccacndaaGreatDoorKPA
import Derived.Test.YtnkegapccacndaaGreatDoorKPC
import Derived.Test.YtnkegapccacndaaGreatDoorKPB
import Derived.Lib.CountLaws
import Derived.Lib.AtoiAllCases
import Derived.Lib.ParseIntBTie
import Derived.Lib.ItoaMem
import Derived.Lib.ItoaLen
import Derived.Lib.Split
import Derived.Lib.IndexBytes
set_option linter.unusedVariables false
set_option linter.unusedSimpArgs false
set_option linter.unnecessarySimpa false
set_option maxRecDepth 4000
namespace Go.Proofs.Y
open Go.Rb Go.Kx
noncomputable def zcJ : Code := zg Tryz.f123
noncomputable def zcK : FuncId → Option GS := tabG [(150, zp8), (119, z6l), (151, zmJ), (152, zrJ), (120, zh7), (79, z23)]
theorem zmK : ΓOK Tryz.prog zcK := z8 (zqd) (z8 (z7J) (z8 (zo7) (z8 (zrK) (z8 (zcI) (z8 (z24) (ze))))))
def zcL : HT := ⟨tabL [(7, .it [] (dyn [.a 6 3 (.one (.int .i64)), .t 28 (.int .i64), .c 2 0 (.int .i64), .c 2 1 (.int .i64), .c 2 2 (.int .i64), .c 2 3 (.sl 77 (.cons (.int .i64) (.cons (.int .i64) (.one (.int .i64)))))])), (17, .it [] (dyn [.t 11 (.int .i64), .b 5 3 77 (.cons (.int .i64) (.cons (.int .i64) (.one (.int .i64))))]))], tabH []⟩
abbrev z4s : List IT := [.v (.one .str) false]
abbrev zaR : List OT := [⟨.cons (.int .i64) (.cons (.int .i64) (.cons (.int .i64) (.one (.sl 77 (.cons (.int .i64) (.cons (.int .i64) (.one (.int .i64)))))))), true, []⟩, ⟨.one (.int .i64), false, []⟩]
set_option maxRecDepth 100000
noncomputable def Vt : List UInt8 → Option ((Int × Int × Int × List (Int × Int × Int)) × Int) := fun a => ifB (gtI (lenI a) 60000) (some ((0, 0, 0, []), 2)) (z6 (z5z a [32]) fun y => z6 vz fun y_1 => z6 (atI y 0) fun y_2 => z6 (z6m y_1 y_2) fun y_3 => ifB (in1 y 1) (zk maxR (fun (x : Int × Int × Int × Int × List (Int × Int × Int) × List Int) => ifB (ltI x.1 (lenI (yF y 1))) (z6 (atI (yF y 1) x.1) fun y => z6 (z9w y) fun y_4 => ifB y_4.2 (mapO Sum.inr (some ((0, 0, 0, []), 1))) (z6 (Yo y_4.1) fun y_5 => ifB (notB (eqS y_5 y)) (mapO Sum.inr (some ((0, 0, 0, []), 1))) (ifB (zh 8 x.2.2.2.2.2 [y_4.1]) (some (Sum.inl (wadd .i64 x.1 1, x.2.1, x.2.2.1, x.2.2.2.1, x.2.2.2.2.1, cat x.2.2.2.2.2 [y_4.1]))) none))) (mapO Sum.inr (ifB (eqI y_3 1) (ifB (eqI (wrem (lenI x.2.2.2.2.2) 3) 0) (zk maxR (fun (x_1 : Int × List (Int × Int × Int)) => ifB (ltI x_1.1 (lenI x.2.2.2.2.2)) (ifB (ltL x_1.1 x.2.2.2.2.2) (z6 (atN x.2.2.2.2.2 (natI x_1.1)) fun y => ifB (ltL (wadd .i64 x_1.1 1) x.2.2.2.2.2) (z6 (atN x.2.2.2.2.2 (natI (wadd .i64 x_1.1 1))) fun y_4 => ifB (ltL (wadd .i64 x_1.1 2) x.2.2.2.2.2) (z6 (atN x.2.2.2.2.2 (natI (wadd .i64 x_1.1 2))) fun y_5 => ifB (zh 24 x_1.2 [(y, y_4, y_5)]) (some (Sum.inl (wadd .i64 x_1.1 3, cat x_1.2 [(y, y_4, y_5)]))) none) none) none) none) (mapO Sum.inr (z6 (Zl (y_3, 0, 0, x_1.2)) fun y => ifB (neI y 0) (some ((0, 0, 0, []), y)) (some ((y_3, 0, 0, x_1.2), 0))))) (0, [])) (ifB (eqI y_3 2) (ifB (eqI (lenI x.2.2.2.2.2) 2) (ifB (ltL 0 x.2.2.2.2.2) (z6 (atN x.2.2.2.2.2 (natI 0)) fun y => ifB (ltL 1 x.2.2.2.2.2) (z6 (atN x.2.2.2.2.2 (natI 1)) fun y_4 => z6 (Zl (y_3, y, y_4, [])) fun y_5 => ifB (neI y_5 0) (some ((0, 0, 0, []), y_5)) (some ((y_3, y, y_4, []), 0))) none) none) (ifB (eqI y_3 4) (ifB (eqI (lenI x.2.2.2.2.2) 1) (ifB (ltL 0 x.2.2.2.2.2) (z6 (atN x.2.2.2.2.2 (natI 0)) fun y => z6 (Zl (y_3, 0, y, [])) fun y_4 => ifB (neI y_4 0) (some ((0, 0, 0, []), y_4)) (some ((y_3, 0, y, []), 0))) none) (some ((0, 0, 0, []), 1))) (some ((0, 0, 0, []), 1)))) (ifB (eqI y_3 3) (ifB (eqI (lenI x.2.2.2.2.2) 2) (ifB (ltL 0 x.2.2.2.2.2) (z6 (atN x.2.2.2.2.2 (natI 0)) fun y => ifB (ltL 1 x.2.2.2.2.2) (z6 (atN x.2.2.2.2.2 (natI 1)) fun y_4 => z6 (Zl (y_3, y, y_4, [])) fun y_5 => ifB (neI y_5 0) (some ((0, 0, 0, []), y_5)) (some ((y_3, y, y_4, []), 0))) none) none) (ifB (eqI y_3 4) (ifB (eqI (lenI x.2.2.2.2.2) 1) (ifB (ltL 0 x.2.2.2.2.2) (z6 (atN x.2.2.2.2.2 (natI 0)) fun y => z6 (Zl (y_3, 0, y, [])) fun y_4 => ifB (neI y_4 0) (some ((0, 0, 0, []), y_4)) (some ((y_3, 0, y, []), 0))) none) (some ((0, 0, 0, []), 1))) (some ((0, 0, 0, []), 1)))) (ifB (eqI y_3 4) (ifB (eqI (lenI x.2.2.2.2.2) 1) (ifB (ltL 0 x.2.2.2.2.2) (z6 (atN x.2.2.2.2.2 (natI 0)) fun y => z6 (Zl (y_3, 0, y, [])) fun y_4 => ifB (neI y_4 0) (some ((0, 0, 0, []), y_4)) (some ((y_3, 0, y, []), 0))) none) (some ((0, 0, 0, []), 1))) (some ((0, 0, 0, []), 1)))))) (ifB (eqI y_3 2) (ifB (eqI (lenI x.2.2.2.2.2) 2) (ifB (ltL 0 x.2.2.2.2.2) (z6 (atN x.2.2.2.2.2 (natI 0)) fun y => ifB (ltL 1 x.2.2.2.2.2) (z6 (atN x.2.2.2.2.2 (natI 1)) fun y_4 => z6 (Zl (y_3, y, y_4, [])) fun y_5 => ifB (neI y_5 0) (some ((0, 0, 0, []), y_5)) (some ((y_3, y, y_4, []), 0))) none) none) (ifB (eqI y_3 4) (ifB (eqI (lenI x.2.2.2.2.2) 1) (ifB (ltL 0 x.2.2.2.2.2) (z6 (atN x.2.2.2.2.2 (natI 0)) fun y => z6 (Zl (y_3, 0, y, [])) fun y_4 => ifB (neI y_4 0) (some ((0, 0, 0, []), y_4)) (some ((y_3, 0, y, []), 0))) none) (some ((0, 0, 0, []), 1))) (some ((0, 0, 0, []), 1)))) (ifB (eqI y_3 3) (ifB (eqI (lenI x.2.2.2.2.2) 2) (ifB (ltL 0 x.2.2.2.2.2) (z6 (atN x.2.2.2.2.2 (natI 0)) fun y => ifB (ltL 1 x.2.2.2.2.2) (z6 (atN x.2.2.2.2.2 (natI 1)) fun y_4 => z6 (Zl (y_3, y, y_4, [])) fun y_5 => ifB (neI y_5 0) (some ((0, 0, 0, []), y_5)) (some ((y_3, y, y_4, []), 0))) none) none) (ifB (eqI y_3 4) (ifB (eqI (lenI x.2.2.2.2.2) 1) (ifB (ltL 0 x.2.2.2.2.2) (z6 (atN x.2.2.2.2.2 (natI 0)) fun y => z6 (Zl (y_3, 0, y, [])) fun y_4 => ifB (neI y_4 0) (some ((0, 0, 0, []), y_4)) (some ((y_3, 0, y, []), 0))) none) (some ((0, 0, 0, []), 1))) (some ((0, 0, 0, []), 1)))) (ifB (eqI y_3 4) (ifB (eqI (lenI x.2.2.2.2.2) 1) (ifB (ltL 0 x.2.2.2.2.2) (z6 (atN x.2.2.2.2.2 (natI 0)) fun y => z6 (Zl (y_3, 0, y, [])) fun y_4 => ifB (neI y_4 0) (some ((0, 0, 0, []), y_4)) (some ((y_3, 0, y, []), 0))) none) (some ((0, 0, 0, []), 1))) (some ((0, 0, 0, []), 1)))))))) (0, 0, 0, 0, [], [])) none)
theorem zh8 (x : PI z4s) : Vt x = fnE T zcK zcL zcJ (zo Tryz.f123) z4s zaR x := by kernel_rfl
noncomputable abbrev zcM : GS := zp false z4s zaR fun x => Vt x
theorem zh9 : GSOK Tryz.prog 123 zcM := zm tok zmK fmo (Ht := zcL) (fn := Tryz.f123) (Tryz.func123) (c := zcJ) (by kernel_rfl) (by kernel_rfl) (by kernel_rfl) (by decide +kernel) (by decide) zh8
end Go.Proofs.Y
namespace Go.Proofs.Y
open Go.Rb Go.Kx
noncomputable def zcN : Code := zg Tryz.f88
noncomputable def zcO : FuncId → Option GS := tabG [(122, zqc), (123, zcM)]
theorem zmL : ΓOK Tryz.prog zcO := z8 (zmE) (z8 (zh9) (ze))
def zcP : HT := ⟨tabL [(3, .it [] (dyn [.t 0 (.str), .a 7 52 (.cons (.int .i64) (.cons (.int .i64) (.cons (.int .i64) (.one (.sl 77 (.cons (.int .i64) (.cons (.int .i64) (.one (.int .i64)))))))))]))], tabH []⟩
abbrev z4t : List IT := [.v (.one .str) false, .v (.one (.int .i64)) false]
abbrev zaS : List OT := [⟨.one (.sl 52 (.cons (.int .i64) (.cons (.int .i64) (.cons (.int .i64) (.one (.sl 77 (.cons (.int .i64) (.cons (.int .i64) (.one (.int .i64)))))))))), false, [true]⟩, ⟨.one (.int .i64), false, []⟩, ⟨.one (.int .i64), false, []⟩]
set_option maxRecDepth 100000
noncomputable def vA : List UInt8 → Int → Option (List (Int × Int × Int × List (Int × Int × Int)) × Int × Int) := fun a b => zk maxR (fun (x : List UInt8 × List (Int × Int × Int × List (Int × Int × Int))) => ifB (notB (eqS x.1 [])) (z6 (cutO x.1 [10]) fun y => ifB (notB y.2.2) (mapO Sum.inr (some (x.2, wsub .i64 (lenI a) (lenI x.1), 8))) (z6 (Vt y.1) fun y_1 => ifB (neI y_1.2 0) (mapO Sum.inr (some (x.2, wsub .i64 (lenI a) (lenI x.1), y_1.2))) (ifB (eqI (lenI x.2) b) (mapO Sum.inr (some (x.2, wsub .i64 (lenI a) (lenI x.1), 2))) (ifB (zh 48 x.2 [(y_1.1.1, y_1.1.2.1, y_1.1.2.2.1, y_1.1.2.2.2)]) (some (Sum.inl (y.2.1, cat x.2 [(y_1.1.1, y_1.1.2.1, y_1.1.2.2.1, y_1.1.2.2.2)]))) none)))) (mapO Sum.inr (some (x.2, lenI a, 0)))) (a, [])
theorem zha (x : PI z4t) : vA (x.1) (x.2) = fnE T zcO zcP zcN (zo Tryz.f88) z4t zaS x := by kernel_rfl
noncomputable abbrev z6n : GS := zp false z4t zaS fun x => vA (x.1) (x.2)
theorem z7K : GSOK Tryz.prog 88 z6n := zm tok zmL fmo (Ht := zcP) (fn := Tryz.f88) (Tryz.func88) (c := zcN) (by kernel_rfl) (by kernel_rfl) (by kernel_rfl) (by decide +kernel) (by decide) zha
end Go.Proofs.Y
namespace Go.Proofs.Y
open Go.Rb Go.Kx
noncomputable def zcQ : Code := zg Tryz.f84
noncomputable def zcR : FuncId → Option GS := tabG [(88, z6n)]
theorem zmM : ΓOK Tryz.prog zcR := z8 (z7K) (ze)
def zcS : HT := ⟨tabL [], tabH []⟩
abbrev z4u : List IT := [.v (.cons (.sl 5 (.one (.int .u8))) (.one (.sl 5 (.one (.int .u8))))) true]
abbrev zaT : List OT := [⟨.one (.int .i64), false, []⟩]
set_option maxRecDepth 100000
noncomputable def Y8 : List Int × List Int → Option Int := fun a => ifB (gtI (lenI a.1) 60000) (some 2) (ifB (gtI (lenI a.2) (wsub .i64 60000 (lenI a.1))) (some 2) (z6 (vA (strB a.1) 60) fun y => some y.2.2))
theorem zhb (x : PI z4u) : Y8 x = fnE T zcR zcS zcQ (zo Tryz.f84) z4u zaT x := by kernel_rfl
noncomputable abbrev J5 : GS := zp false z4u zaT fun x => Y8 x
theorem jv : GSOK Tryz.prog 84 J5 := zm tok zmM fmo (Ht := zcS) (fn := Tryz.f84) (Tryz.func84) (c := zcQ) (by kernel_rfl) (by kernel_rfl) (by kernel_rfl) (by decide +kernel) (by decide) zhb
end Go.Proofs.Y
namespace Go.Proofs.Y
open Go.Rb Go.Kx
noncomputable def zcT : Code := zg Tryz.f141
noncomputable def zcU : FuncId → Option GS := tabG [(84, J5), (86, z7I)]
theorem zmN : ΓOK Tryz.prog zcU := z8 (jv) (z8 (z6k) (ze))
def zcV : HT := ⟨tabL [], tabH []⟩
abbrev z4v : List IT := [.v (.cons (.sl 5 (.one (.int .u8))) (.one (.sl 5 (.one (.int .u8))))) true, .v (.one (.int .i64)) false]
abbrev zaU : List OT := [⟨.cons (.sl 5 (.one (.int .u8))) (.one (.sl 5 (.one (.int .u8)))), true, []⟩, ⟨.one (.int .i64), false, []⟩]
set_option maxRecDepth 100000
noncomputable def Yw : List Int × List Int → Int → Option ((List Int × List Int) × Int) := fun a b => z6 (Y8 (a.1, a.2)) fun y => ifB (neI y 0) (some (([], []), y)) (ifB (ltI b 0) (some (([], []), 3)) (ifB (gtI b (lenI a.2)) (some (([], []), 3)) (z6 (vp a.1) fun y => ifB (in1 a.2 b) (z6 (vp (YE a.2 b)) fun y_1 => some ((y, y_1), 0)) none)))
theorem zhc (x : PI z4v) : Yw (x.1) (x.2) = fnE T zcU zcV zcT (zo Tryz.f141) z4v zaU x := by kernel_rfl
noncomputable abbrev zcW : GS := zp false z4v zaU fun x => Yw (x.1) (x.2)
theorem zhd : GSOK Tryz.prog 141 zcW := zm tok zmN fmo (Ht := zcV) (fn := Tryz.f141) (Tryz.func141) (c := zcT) (by kernel_rfl) (by kernel_rfl) (by kernel_rfl) (by decide +kernel) (by decide) zhc
end Go.Proofs.Y
namespace Go.Proofs.Y
open Go.Rb Go.Kx
noncomputable def zcX : Code := zg Tryz.f85
noncomputable def zcY : FuncId → Option GS := tabG [(79, z23), (119, z6l), (120, zh7)]
theorem zmO : ΓOK Tryz.prog zcY := z8 (z24) (z8 (z7J) (z8 (zcI) (ze)))
def zcZ : HT := ⟨tabL [(9, .it [] (dyn [.a 5 3 (.one (.int .i64)), .t 28 (.int .i64)])), (17, .it [] (dyn [.t 8 (.str), .t 53 (.int .i64)]))], tabH []⟩
abbrev z4w : List IT := [.v (.cons (.int .i64) (.cons (.int .i64) (.cons (.int .i64) (.one (.sl 77 (.cons (.int .i64) (.cons (.int .i64) (.one (.int .i64))))))))) true]
abbrev zaV : List OT := [⟨.one .str, false, []⟩, ⟨.one (.int .i64), false, []⟩]
set_option maxRecDepth 100000
noncomputable def Vu : Int × Int × Int × List (Int × Int × Int) → Option (List UInt8 × Int) := fun a => z6 (Zl (a.1, a.2.1, a.2.2.1, a.2.2.2)) fun y => ifB (neI y 0) (some ([], y)) (ifB (eqI a.1 1) (zk maxR (fun (x : Int × List Int) => ifB (ltI x.1 (lenI a.2.2.2)) (z6 (atI a.2.2.2 x.1) fun y => ifB (zh 8 x.2 [y.1, y.2.1, y.2.2]) (some (Sum.inl (wadd .i64 x.1 1, cat x.2 [y.1, y.2.1, y.2.2]))) none) (mapO Sum.inr (z6 vz fun y => z6 (atI y a.1) fun y => zk maxR (fun (x_1 : List UInt8 × Int) => ifB (ltI x_1.2 (lenI x.2)) (ifB (ltL x_1.2 x.2) (z6 (atN x.2 (natI x_1.2)) fun y => z6 (Yo y) fun y => ifB (Jl [32] y) (ifB (Jl x_1.1 (catS [32] y)) (some (Sum.inl (catS x_1.1 (catS [32] y), wadd .i64 x_1.2 1))) none) none) none) (mapO Sum.inr (some (x_1.1, 0)))) (y, 0)))) (0, [])) (ifB (eqI a.1 4) (ifB (in1 [a.2.1, a.2.2.1] 1) (z6 vz fun y => z6 (atI y a.1) fun y => zk maxR (fun (x : List UInt8 × Int) => ifB (ltI x.2 (intN (Zh (lenN [a.2.1, a.2.2.1]) 1))) (ifB (ltN x.2 (Zh (lenN [a.2.1, a.2.2.1]) 1)) (z6 (atN [a.2.1, a.2.2.1] (addN (addN 0 (natI 1)) (natI x.2))) fun y => z6 (Yo y) fun y => ifB (Jl [32] y) (ifB (Jl x.1 (catS [32] y)) (some (Sum.inl (catS x.1 (catS [32] y), wadd .i64 x.2 1))) none) none) none) (mapO Sum.inr (some (x.1, 0)))) (y, 0)) none) (z6 vz fun y => z6 (atI y a.1) fun y => zk maxR (fun (x : List UInt8 × Int) => ifB (ltI x.2 (lenI [a.2.1, a.2.2.1])) (ifB (ltL x.2 [a.2.1, a.2.2.1]) (z6 (atN [a.2.1, a.2.2.1] (natI x.2)) fun y => z6 (Yo y) fun y => ifB (Jl [32] y) (ifB (Jl x.1 (catS [32] y)) (some (Sum.inl (catS x.1 (catS [32] y), wadd .i64 x.2 1))) none) none) none) (mapO Sum.inr (some (x.1, 0)))) (y, 0))))
theorem zhe (x : PI z4w) : Vu x = fnE T zcY zcZ zcX (zo Tryz.f85) z4w zaV x := by kernel_rfl
noncomputable abbrev zd0 : GS := zp false z4w zaV fun x => Vu x
theorem zhf : GSOK Tryz.prog 85 zd0 := zm tok zmO fmo (Ht := zcZ) (fn := Tryz.f85) (Tryz.func85) (c := zcX) (by kernel_rfl) (by kernel_rfl) (by kernel_rfl) (by decide +kernel) (by decide) zhe
end Go.Proofs.Y
namespace Go.Proofs.Y
open Go.Rb Go.Kx
noncomputable def zhg : Code := zg Tryz.f32
noncomputable def zhh : FuncId → Option GS := tabG [(84, J5), (85, zd0), (86, z7I)]
theorem zqe : ΓOK Tryz.prog zhh := z8 (jv) (z8 (zhf) (z8 (z6k) (ze)))
def zhi : HT := ⟨tabL [], tabH []⟩
abbrev z8o : List IT := [.v (.cons (.sl 5 (.one (.int .u8))) (.one (.sl 5 (.one (.int .u8))))) true, .v (.cons (.int .i64) (.cons (.int .i64) (.cons (.int .i64) (.one (.sl 77 (.cons (.int .i64) (.cons (.int .i64) (.one (.int .i64))))))))) true]
abbrev zeI : List OT := [⟨.cons (.sl 5 (.one (.int .u8))) (.one (.sl 5 (.one (.int .u8)))), true, []⟩, ⟨.one (.int .i64), false, []⟩]
set_option maxRecDepth 100000
noncomputable def yU : List Int × List Int → Int × Int × Int × List (Int × Int × Int) → Option ((List Int × List Int) × Int) := fun a b => z6 (Y8 (a.1, a.2)) fun y => ifB (neI y 0) (some (([], []), y)) (z6 (Vu (b.1, b.2.1, b.2.2.1, b.2.2.2)) fun y => ifB (neI y.2 0) (some (([], []), y.2)) (ifB (gtI (wadd .i64 (lenI y.1) 1) (wsub .i64 (wsub .i64 60000 (lenI a.1)) (lenI a.2))) (some (([], []), 2)) (z6 (vp a.1) fun y_1 => z6 (vp a.2) fun y_2 => ifB (zh 1 y_2 (bytB y.1)) (ifB (zh 1 (cat y_2 (bytB y.1)) [10]) (some ((y_1, cat (cat y_2 (bytB y.1)) [10]), 0)) none) none)))
theorem zkr (x : PI z8o) : yU (x.1) (x.2) = fnE T zhh zhi zhg (zo Tryz.f32) z8o zeI x := by kernel_rfl
noncomputable abbrev zhj : GS := zp false z8o zeI fun x => yU (x.1) (x.2)
theorem zks : GSOK Tryz.prog 32 zhj := zm tok zqe fmo (Ht := zhi) (fn := Tryz.f32) (Tryz.func32) (c := zhg) (by kernel_rfl) (by kernel_rfl) (by kernel_rfl) (by decide +kernel) (by decide) zkr
end Go.Proofs.Y
namespace Go.Proofs.Y
open Go.Rb Go.Kx
noncomputable def z9f : Code := zg Tryz.f34
noncomputable def z9g : FuncId → Option GS := tabG [(84, J5), (88, z6n), (87, JB)]
theorem zig : ΓOK Tryz.prog z9g := z8 (jv) (z8 (z7K) (z8 (VX) (ze)))
def z9h : HT := ⟨tabL [], tabH []⟩
abbrev z2C : List IT := [.v (.cons (.sl 5 (.one (.int .u8))) (.one (.sl 5 (.one (.int .u8))))) true]
abbrev z7L : List OT := [⟨.cons (.sl 5 (.one (.int .u8))) (.one (.sl 5 (.one (.int .u8)))), true, []⟩, ⟨.one (.sl 52 (.cons (.int .i64) (.cons (.int .i64) (.cons (.int .i64) (.one (.sl 77 (.cons (.int .i64) (.cons (.int .i64) (.one (.int .i64)))))))))), false, []⟩, ⟨.one (.int .i64), false, []⟩]
set_option maxRecDepth 100000
noncomputable def ZO : List Int × List Int → Option ((List Int × List Int) × List (Int × Int × Int × List (Int × Int × Int)) × Int) := fun a => z6 (Y8 (a.1, a.2)) fun y => ifB (neI y 0) (some (([], []), [], y)) (z6 (vA (strB a.1) 60) fun y => z6 (vA (strB a.2) (wsub .i64 60 (lenI y.1))) fun y_1 => ifB (in1 a.2 y_1.2.1) (z6 (YN [a.1, YE a.2 y_1.2.1]) fun y_2 => ifB (zh 48 y.1 y_1.1) (some ((y_2, []), cat y.1 y_1.1, 0)) none) none)
theorem zdT (x : PI z2C) : ZO x = fnE T z9g z9h z9f (zo Tryz.f34) z2C z7L x := by kernel_rfl
noncomputable abbrev JC : GS := zp false z2C z7L fun x => ZO x
theorem z0j : GSOK Tryz.prog 34 JC := zm tok zig fmo (Ht := z9h) (fn := Tryz.f34) (Tryz.func34) (c := z9f) (by kernel_rfl) (by kernel_rfl) (by kernel_rfl) (by decide +kernel) (by decide) zdT
end Go.Proofs.Y
namespace Go.Proofs.Y
open Go.Rb Go.Kx
noncomputable def zjx : Code := zg Tryz.f99
noncomputable def zjy : FuncId → Option GS := tabG []
theorem zrL : ΓOK Tryz.prog zjy := ze
def zjz : HT := ⟨tabL [(4, .it [] (dyn [.t 13 (.int .i64)]))], tabH []⟩
abbrev za2 : List IT := [.v (.one (.sl 5 (.one (.int .u8)))) false, .v (.one (.sl 5 (.one (.int .u8)))) false]
abbrev zhk : List OT := [⟨.one .bool, false, []⟩]
set_option maxRecDepth 100000
noncomputable def Vz : List Int → List Int → Option Bool := fun a b => ifB (neI (lenI a) (lenI b)) (some false) (zk maxR (fun (x : Int) => ifB (ltI x (lenI a)) (z6 (atI a x) fun y => z6 (atI b x) fun y_1 => ifB (neI y y_1) (mapO Sum.inr (some false)) (some (Sum.inl (wadd .i64 x 1)))) (mapO Sum.inr (some true))) 0)
theorem zmP (x : PI za2) : Vz (x.1) (x.2) = fnE T zjy zjz zjx (zo Tryz.f99) za2 zhk x := by kernel_rfl
noncomputable abbrev zd1 : GS := zp false za2 zhk fun x => Vz (x.1) (x.2)
theorem zd2 : GSOK Tryz.prog 99 zd1 := zm tok zrL fmo (Ht := zjz) (fn := Tryz.f99) (Tryz.func99) (c := zjx) (by kernel_rfl) (by kernel_rfl) (by kernel_rfl) (by decide +kernel) (by decide) zmP
end Go.Proofs.Y
namespace Go.Proofs.Y
open Go.Rb Go.Kx
noncomputable def zeJ : Code := zg Tryz.f52
noncomputable def zeK : FuncId → Option GS := tabG [(99, zd1)]
theorem zo8 : ΓOK Tryz.prog zeK := z8 (zd2) (ze)
def zeL : HT := ⟨tabL [], tabH []⟩
abbrev z6o : List IT := [.v (.cons (.sl 5 (.one (.int .u8))) (.one (.sl 5 (.one (.int .u8))))) true, .v (.cons (.sl 5 (.one (.int .u8))) (.one (.sl 5 (.one (.int .u8))))) true]
abbrev zd3 : List OT := [⟨.one .bool, false, []⟩]
set_option maxRecDepth 100000
noncomputable def jb : List Int × List Int → List Int × List Int → Option Bool := fun a b => z6 (Vz a.1 b.1) fun y => ifB y (z6 (Vz a.2 b.2) fun y => some y) (some false)
theorem zih (x : PI z6o) : jb (x.1) (x.2) = fnE T zeK zeL zeJ (zo Tryz.f52) z6o zd3 x := by kernel_rfl
noncomputable abbrev zeM : GS := zp false z6o zd3 fun x => jb (x.1) (x.2)
theorem zii : GSOK Tryz.prog 52 zeM := zm tok zo8 fmo (Ht := zeL) (fn := Tryz.f52) (Tryz.func52) (c := zeJ) (by kernel_rfl) (by kernel_rfl) (by kernel_rfl) (by decide +kernel) (by decide) zih
end Go.Proofs.Y
namespace Go.Proofs.Y
open Go.Rb Go.Kx
noncomputable def zeN : Code := zg Tryz.f33
noncomputable def zeO : FuncId → Option GS := tabG [(84, J5), (87, JB)]
theorem zo9 : ΓOK Tryz.prog zeO := z8 (jv) (z8 (VX) (ze))
def zeP : HT := ⟨tabL [], tabH []⟩
abbrev z6p : List IT := [.v (.cons (.sl 5 (.one (.int .u8))) (.one (.sl 5 (.one (.int .u8))))) true]
abbrev zd4 : List OT := [⟨.cons (.sl 5 (.one (.int .u8))) (.one (.sl 5 (.one (.int .u8)))), true, []⟩, ⟨.one (.int .i64), false, []⟩]
set_option maxRecDepth 100000
noncomputable def yC : List Int × List Int → Option ((List Int × List Int) × Int) := fun a => z6 (Y8 (a.1, a.2)) fun y => ifB (neI y 0) (some (([], []), y)) (z6 (YN [a.1, a.2]) fun y => z6 (Y8 (y, [])) fun y_1 => ifB (neI y_1 0) (some (([], []), y_1)) (some ((y, []), 0)))
theorem zij (x : PI z6p) : yC x = fnE T zeO zeP zeN (zo Tryz.f33) z6p zd4 x := by kernel_rfl
noncomputable abbrev zeQ : GS := zp false z6p zd4 fun x => yC x
theorem zik : GSOK Tryz.prog 33 zeQ := zm tok zo9 fmo (Ht := zeP) (fn := Tryz.f33) (Tryz.func33) (c := zeN) (by kernel_rfl) (by kernel_rfl) (by kernel_rfl) (by decide +kernel) (by decide) zij
end Go.Proofs.Y
namespace Go.Kx
open Go.Rb
def sp (c : UInt8) : List UInt8 → List (List UInt8)
 | [] => [[]]
 | b :: l => if b = c then [] :: sp c l else match sp c l with
  | [] => [[b]]
  | w :: r => (b :: w) :: r
def jn (c : UInt8) : List (List UInt8) → List UInt8
 | [] => []
 | w :: r => w ++ (r.map (c :: ·)).flatten
theorem jw (c : UInt8) : ∀ l, sp c l ≠ []
 | [] => by simp [sp]
 | b :: l => by
  unfold sp
  split
  ·simp
  ·split <;> simp
theorem z1w (c : UInt8) (w : List UInt8) {r : List (List UInt8)} (h : r ≠ []) : jn c (w :: r) = w ++ c :: jn c r := by
 cases r with
 | nil => exact absurd rfl h
 | cons x r => simp [jn]
theorem z7M (c : UInt8) : ∀ l, jn c (sp c l) = l
 | [] => rfl
 | b :: l => by
  have ih := z7M c l
  have hn := jw c l
  unfold sp
  split
  ·rename_i h; subst h
   rw [z1w _ _ hn, ih]; rfl
  ·split
   ·rename_i h1 h2; exact absurd h2 hn
   ·rename_i w r h2; rw [h2] at ih; simp only [jn] at ih ⊢; rw [List.cons_append, ih]
theorem zil (c : UInt8) : ∀ w : List UInt8, (∀ x ∈ w, x ≠ c) → sp c w = [w]
 | [], _ => rfl
 | b :: l, h => by
  unfold sp
  rw [if_neg (h b (by simp)), zil c l fun x hx => h x (by simp [hx])]
theorem z43 (c : UInt8) : ∀ (w l : List UInt8), (∀ x ∈ w, x ≠ c) → sp c (w ++ c :: l) = w :: sp c l
 | [], l, _ => by simp [sp]
 | b :: w, l, h => by
  have ih := z43 c w l fun x hx => h x (by simp [hx])
  show sp c (b :: (w ++ c :: l)) = _
  rw [sp, if_neg (h b (by simp)), ih]
theorem ztN (c : UInt8) : ∀ ws : List (List UInt8), ws ≠ [] → (∀ w ∈ ws, ∀ x ∈ w, x ≠ c) → sp c (jn c ws) = ws
 | [], h, _ => absurd rfl h
 | [w], _, h => by simp only [jn, List.map_nil, List.flatten_nil, List.append_nil]; exact zil c w (h w (by simp))
 | w :: v :: r, _, h => by
  rw [z1w _ _ (by simp), z43 c w _ (h w (by simp)), ztN c (v :: r) (by simp) fun w hw => h w (by simp [hw])]
theorem za3 (c : UInt8) : ∀ l, ∀ w ∈ sp c l, ∀ x ∈ w, x ≠ c
 | [], w, hw, x, hx => by simp [sp] at hw; subst hw; cases hx
 | b :: l, w, hw, x, hx => by
  have ih := za3 c l
  have hn := jw c l
  unfold sp at hw
  split at hw
  ·rcases List.mem_cons.1 hw with rfl | hw
   ·cases hx
   ·exact ih w hw x hx
  ·rename_i hb
   split at hw
   ·rename_i h2; exact absurd h2 hn
   ·rename_i v r h2
    rw [h2] at ih
    rcases List.mem_cons.1 hw with rfl | hw
    ·rcases List.mem_cons.1 hx with rfl | hx
     ·exact hb
     ·exact ih v (by simp) x hx
    ·exact ih w (by simp [hw]) x hx
theorem zhl (c : UInt8) : ∀ l, (sp c l).length ≤ l.length + 1
 | [] => by simp [sp]
 | b :: l => by
  have ih := zhl c l
  have hn := jw c l
  unfold sp
  split
  ·simp; omega
  ·split
   ·rename_i h2; exact absurd h2 hn
   ·rename_i w r h2; rw [h2] at ih; simp at ih ⊢; omega
/-! ### Go's split -/
theorem z3w {c : UInt8} {l : List UInt8} (h : ∀ x ∈ l, x ≠ c) : Lib.index l [c] = -1 := by
 induction l with
 | nil => rfl
 | cons b l ih =>
  have ih := ih fun x hx => h x (by simp [hx])
  have hb := h b (by simp)
  have : [c].isPrefixOf (b :: l) = false := by simp [List.isPrefixOf]; exact fun e => hb e.symm
  unfold Lib.index
  rw [this, ih]; rfl
theorem z4x {c : UInt8} {w l : List UInt8} (h : ∀ x ∈ w, x ≠ c) : Lib.index (w ++ c :: l) [c] = w.length := by
 induction w with
 | nil => unfold Lib.index; simp [List.isPrefixOf]
 | cons b w ih =>
  have ih := ih fun x hx => h x (by simp [hx])
  have hb := h b (by simp)
  have : [c].isPrefixOf (b :: (w ++ c :: l)) = false := by simp [List.isPrefixOf]; exact fun e => hb e.symm
  rw [List.cons_append]
  unfold Lib.index
  rw [this, ih]
  have e : (((w.length : Nat) : Int) == -1) = false := by rw [beq_eq_false_iff_ne]; omega
  simp [e]
theorem zoa (c : UInt8) : ∀ (l : List UInt8), Lib.split l [c] = sp c l := by
 have key : ∀ (ws : List (List UInt8)), ws ≠ [] → (∀ w ∈ ws, ∀ x ∈ w, x ≠ c) → Lib.split (jn c ws) [c] = ws := by
  intro ws
  induction ws with
  | nil => intro h; exact absurd rfl h
  | cons w r ih =>
   intro _ h
   by_cases hr : r = []
   ·subst hr
    simp only [jn, List.map_nil, List.flatten_nil, List.append_nil]
    unfold Lib.split
    rw [Lib.count_miss (z3w (h w (by simp)))]; rfl
   ·rw [z1w _ _ hr]
    have hi : Lib.index (w ++ c :: jn c r) [c] = w.length := z4x (h w (by simp))
    have hd : (w ++ c :: jn c r).drop (w.length + [c].length) = jn c r := by
     rw [List.drop_append]; simp
    have hr2 := ih hr fun w hw => h w (by simp [hw])
    unfold Lib.split at hr2 ⊢
    rw [Lib.count_hit (by simp) hi, hd, Nat.add_comm 1, Lib.splitK, if_neg (by rw [hi]; intro e; have := beq_iff_eq.1 e; omega), hi]
    have e : ((w.length : Nat) : Int).toNat = w.length := by omega
    rw [e, hd, hr2]
    congr 1
    rw [List.take_append]; simp
 intro l
 have h := key (sp c l) (jw c l) (za3 c l)
 rw [z7M] at h
 exact h
/-! ### Numerals -/
theorem za4 {n : Nat} (h : n < 10) : (UInt8.ofNat (48 + n)).toNat = 48 + n := by
 rw [UInt8.toNat_ofNat']; omega
theorem z2D (u : Nat) : ∀ b ∈ Lib.decDigits u, 48 ≤ b.toNat ∧ b.toNat ≤ 57 := by
 induction u using Nat.strongRecOn with
 | _ u ih =>
  intro b hb
  rw [Lib.decDigits] at hb
  split at hb
  ·rename_i h
   rw [List.mem_singleton] at hb; subst hb
   rw [za4 h]; omega
  ·rename_i h
   rcases List.mem_append.1 hb with hb | hb
   ·exact ih (u / 10) (by omega) b hb
   ·rw [List.mem_singleton] at hb; subst hb
    rw [za4 (by omega)]; omega
theorem zd5 (u : Nat) : Lib.decDigits u ≠ [] := by
 rw [Lib.decDigits]; split <;> simp
theorem zjA (n : Int) : ∀ b ∈ Lib.itoa n, b.toNat = 45 ∨ (48 ≤ b.toNat ∧ b.toNat ≤ 57) := by
 intro b hb
 unfold Lib.itoa at hb
 split at hb
 ·rcases List.mem_cons.1 hb with rfl | hb
  ·exact .inl rfl
  ·exact .inr (z2D _ b hb)
 ·exact .inr (z2D _ b hb)
theorem zqf (n : Int) : ∀ b ∈ Lib.itoa n, b ≠ 32 := by
 intro b hb e
 subst e
 rcases zjA n _ hb with h | h
 ·revert h; decide
 ·revert h; decide
theorem zjB : ∀ (l r : List UInt8) (a u : Nat), Lib.parseUint10 a l = .ok u → Lib.parseUint10 a (l ++ r) = Lib.parseUint10 u r
 | [], r, a, u, h => by simp only [Lib.parseUint10] at h; cases h; rfl
 | c :: l, r, a, u, h => by
  rw [List.cons_append]
  simp only [Lib.parseUint10] at h ⊢
  split at h
  ·rename_i h1
   rw [if_pos h1]
   split at h
   ·cases h
   ·rename_i h2
    rw [if_neg h2]
    split at h
    ·cases h
    ·rename_i h3
     rw [if_neg h3]
     exact zjB l r _ u h
  ·cases h
theorem zmQ (u : Nat) (hu : u < 18446744073709551616) : Lib.parseUint10 0 (Lib.decDigits u) = .ok u := by
 induction u using Nat.strongRecOn with
 | _ u ih =>
  rw [Lib.decDigits]
  split
  ·rename_i h
   simp only [Lib.parseUint10, za4 h]
   rw [if_pos (by omega), if_neg (by omega), if_neg (by omega)]
   congr 1; omega
  ·rename_i h
   rw [zjB _ _ _ _ (ih (u / 10) (by omega) (by omega))]
   simp only [Lib.parseUint10, za4 (show u % 10 < 10 by omega)]
   rw [if_pos (by omega), if_neg (by omega), if_neg (by omega)]
   congr 1; omega
theorem z7N (u : Nat) (hu : u < 18446744073709551616) : Lib.parseMag (Lib.decDigits u) = .ok u := by
 unfold Lib.parseMag
 rw [if_neg (zd5 u), zmQ u hu]
theorem zrM (n : Int) (h0 : -9223372036854775808 ≤ n) (h1 : n ≤ 9223372036854775807) : Lib.atoiAll (Lib.itoa n) = .ok n := by
 unfold Lib.itoa
 split
 ·rename_i h
  rw [Lib.atoiAll_minus, z7N _ (by omega)]
  simp only [Lib.signed]
  rw [if_neg (by omega)]
  congr 1; omega
 ·rename_i h
  have hd := z2D n.toNat
  have hm := z7N n.toNat (by omega)
  have hne := zd5 n.toNat
  cases hl : Lib.decDigits n.toNat with
  | nil => exact absurd hl hne
  | cons c r =>
   rw [hl] at hd hm
   have := hd c (by simp)
   rw [Lib.atoiAll_plain c r (by omega) (by omega), hm]
   simp only [Lib.signless]
   rw [if_neg (by omega)]
   congr 1; omega
end Go.Kx
namespace Go.Kx
open Go.Rb
def kindW : List (List UInt8) := [[], [98, 97, 116, 99, 104], [115, 101, 97, 108], [109, 101, 114, 103, 101], [100, 114, 111, 112]]
def ixW : List (List UInt8) → List UInt8 → Int → Int
 | [], _, _ => -1
 | x :: r, w, i => if w = x then i else ixW r w (i + 1)
def nums : List (List UInt8) → Option (List Int)
 | [] => some []
 | x :: r => match Lib.atoiAll x with
  | .ok v => if Lib.itoa v = x then (nums r).map (v :: ·) else none
  | _ => none
def trip : List Int → List Ent
 | a :: b :: c :: r => (a, b, c) :: trip r
 | _ => []
def yA : List Ent → List Int
 | [] => []
 | x :: r => x.1 :: x.2.1 :: x.2.2 :: yA r
def V2 (k : Int) (ns : List Int) : Option Rc :=
 if k = 1 then (if ns.length % 3 = 0 then some (1, 0, 0, trip ns) else none) else
 if k = 2 ∨ k = 3 then (match ns with | [a, b] => some (k, a, b, []) | _ => none) else
 if k = 4 then (match ns with | [a] => some (4, 0, a, []) | _ => none) else none
def vi : Rc := (0, 0, 0, [])
def zd6 (w : List UInt8) (xs : List (List UInt8)) : Rc × Int := match nums xs with
 | none => (vi, 1)
 | some ns => match V2 (ixW kindW w 0) ns with
  | none => (vi, 1)
  | some r => if zA r = 0 then (r, 0) else (vi, zA r)
def yN (s : List UInt8) : Rc × Int := if 60000 < s.length then (vi, 2) else zd6 ((sp 32 s).headD []) (sp 32 s).tail
def Yx (r : Rc) : List Int := if r.1 = 1 then yA r.2.2.2 else if r.1 = 4 then [r.2.2.1] else [r.2.1, r.2.2.1]
def yx (r : Rc) : List UInt8 := jn 32 (kindW.getD r.1.toNat [] :: (Yx r).map Lib.itoa)
def z6q (r : Rc) : List UInt8 × Int := if zA r = 0 then (yx r, 0) else ([], zA r)
theorem zjC : ∀ l : List Ent, trip (yA l) = l
 | [] => rfl
 | x :: r => by rw [yA, trip, zjC r]
theorem z6r : ∀ l : List Ent, (yA l).length = 3 * l.length
 | [] => rfl
 | x :: r => by rw [yA]; simp [z6r r]; omega
theorem zjD : ∀ (n : Nat) (l : List Int), l.length = 3 * n → yA (trip l) = l
 | 0, l, h => by have := List.eq_nil_of_length_eq_zero (show l.length = 0 by omega); subst this; rfl
 | n + 1, l, h => by
  match l, h with
  | a :: b :: c :: r, h => rw [trip, yA, zjD n r (by simp at h; omega)]
  | [], h => simp at h
  | [_], h => simp at h; omega
  | [_, _], h => simp at h; omega
theorem zjE : ∀ ns : List Int, (∀ n ∈ ns, z9V n) → nums (ns.map Lib.itoa) = some ns
 | [], _ => rfl
 | n :: r, h => by
  rw [List.map_cons, nums, zrM n (h n (by simp)).1 (h n (by simp)).2]
  simp only [if_pos]
  rw [zjE r fun m hm => h m (by simp [hm])]; rfl
theorem zjF : ∀ (xs : List (List UInt8)) (ns : List Int), nums xs = some ns → xs = ns.map Lib.itoa ∧ ∀ n ∈ ns, z9V n
 | [], ns, h => by cases h; exact ⟨rfl, fun _ h => by cases h⟩
 | x :: r, ns, h => by
  rw [nums] at h
  rcases hx : Lib.atoiAll x with v | _ | _
  ·rw [hx] at h
   simp only at h
   split at h
   ·rename_i he
    cases hr : nums r with
    | none => rw [hr] at h; cases h
    | some ms =>
     rw [hr] at h; cases h
     obtain ⟨h1, h2⟩ := zjF r ms hr
     refine ⟨by rw [List.map_cons, he, ← h1], fun n hn => ?_⟩
     rcases List.mem_cons.1 hn with rfl | hn
     ·exact Lib.atoiAll_bounds hx
     ·exact h2 n hn
   ·cases h
  ·rw [hx] at h; cases h
  ·rw [hx] at h; cases h
theorem zvm {l : List Ent} (h : entE l = 0) : ∀ n ∈ yA l, -1000000 ≤ n ∧ n ≤ 1000000 := by
 induction l with
 | nil => intro n hn; cases hn
 | cons x r ih =>
  rw [entE] at h
  split at h
  ·cases h
  ·rename_i hb
   unfold z0E at hb
   intro n hn
   rw [yA] at hn
   rcases List.mem_cons.1 hn with rfl | hn
   ·omega
   ·rcases List.mem_cons.1 hn with rfl | hn
    ·omega
    ·rcases List.mem_cons.1 hn with rfl | hn
     ·omega
     ·exact ih h n hn
theorem zdM {r : Rc} (h : zA r = 0) : (Yx r).length ≤ 30 ∧ ∀ n ∈ Yx r, -1000000 ≤ n ∧ n ≤ 1000000 := by
 obtain ⟨k1, k2, k3, k4⟩ := Ym h
 unfold Yx
 split
 ·rename_i h1
  obtain ⟨_, _, a3, a4⟩ := k3 h1
  exact ⟨by rw [z6r]; omega, zvm a4⟩
 ·rename_i h1
  obtain ⟨_, b1, b2, b3, b4, _⟩ := k4 h1
  split
  ·exact ⟨by simp, fun n hn => by simp at hn; omega⟩
  ·exact ⟨by simp, fun n hn => by simp at hn; omega⟩
theorem zqg {r : Rc} (h : zA r = 0) : V2 r.1 (Yx r) = some r := by
 obtain ⟨k1, k2, k3, k4⟩ := Ym h
 obtain ⟨k, a, b, l⟩ := r
 simp only at k1 k2 k3 k4
 unfold V2 Yx
 by_cases h1 : k = 1
 ·obtain ⟨rfl, rfl, a3, a4⟩ := k3 h1
  subst h1
  simp only [if_pos]
  rw [if_pos (by rw [z6r]; omega), zjC]
 ·obtain ⟨rfl, b1, b2, b3, b4, b5⟩ := k4 h1
  rw [if_neg h1]
  by_cases h4 : k = 4
  ·subst h4
   have := b5 rfl
   subst this
   simp
  ·simp only [if_neg h1, if_neg h4]
   rw [if_pos (by omega)]
theorem zqh {k : Int} {ns : List Int} {r : Rc} (h : V2 k ns = some r) : r.1 = k ∧ Yx r = ns ∧ 1 ≤ k ∧ k ≤ 4 := by
 unfold V2 at h
 split at h
 ·rename_i h1
  subst h1
  split at h
  ·rename_i h2
   cases h
   refine ⟨rfl, ?_, by omega, by omega⟩
   unfold Yx
   simp only [if_pos]
   exact zjD (ns.length / 3) ns (by omega)
  ·cases h
 ·rename_i h1
  split at h
  ·rename_i h2
   split at h
   ·cases h
    refine ⟨rfl, ?_, by omega, by omega⟩
    unfold Yx
    simp only [if_neg h1]
    rw [if_neg (by omega)]
   ·cases h
  ·split at h
   ·rename_i h4
    subst h4
    split at h
    ·cases h
     exact ⟨rfl, rfl, by omega, by omega⟩
    ·cases h
   ·cases h
theorem z7O {k : Int} (h1 : 1 ≤ k) (h2 : k ≤ 4) : ixW kindW (kindW.getD k.toNat []) 0 = k ∧ (∀ x ∈ kindW.getD k.toNat [], x ≠ 32) ∧ (kindW.getD k.toNat []).length ≤ 5 := by
 have : k = 1 ∨ k = 2 ∨ k = 3 ∨ k = 4 := by omega
 rcases this with rfl | rfl | rfl | rfl <;> decide
theorem zuy {w : List UInt8} {k : Int} (h : ixW kindW w 0 = k) (h1 : 1 ≤ k) (h2 : k ≤ 4) : kindW.getD k.toNat [] = w := by
 unfold kindW at h
 simp only [ixW] at h
 split at h
 ·omega
 ·split at h
  ·rename_i hw; subst hw; subst h; rfl
  ·split at h
   ·rename_i hw; subst hw; subst h; rfl
   ·split at h
    ·rename_i hw; subst hw; subst h; rfl
    ·split at h
     ·rename_i hw; subst hw; subst h; rfl
     ·omega
theorem zvn (c : UInt8) (w : List UInt8) (xs : List (List UInt8)) (m : Nat) (h : ∀ x ∈ xs, x.length ≤ m) : (jn c (w :: xs)).length ≤ w.length + xs.length * (m + 1) := by
 simp only [jn, List.length_append]
 have : ((xs.map (c :: ·)).flatten).length ≤ xs.length * (m + 1) := by
  induction xs with
  | nil => simp
  | cons x r ih =>
   have := ih fun y hy => h y (by simp [hy])
   have hx := h x (by simp)
   simp only [List.map_cons, List.flatten_cons, List.length_append, List.length_cons, Nat.add_mul]
   omega
 omega
theorem z44 {r : Rc} (h : zA r = 0) : (yx r).length ≤ 700 := by
 obtain ⟨k1, k2, _, _⟩ := Ym h
 obtain ⟨h1, h2⟩ := zdM h
 obtain ⟨_, _, h3⟩ := z7O k1 k2
 have := zvn 32 (kindW.getD r.1.toNat []) ((Yx r).map Lib.itoa) 21 fun x hx => by
  obtain ⟨n, hn, rfl⟩ := List.mem_map.1 hx
  have := h2 n hn
  exact Lib.itoa_length_le n (by omega) (by omega)
 rw [List.length_map] at this
 unfold yx
 omega
theorem zob {r : Rc} (h : zA r = 0) : sp 32 (yx r) = kindW.getD r.1.toNat [] :: (Yx r).map Lib.itoa := by
 obtain ⟨k1, k2, _, _⟩ := Ym h
 unfold yx
 refine ztN 32 _ (by simp) fun w hw x hx => ?_
 rcases List.mem_cons.1 hw with rfl | hw
 ·exact (z7O k1 k2).2.1 x hx
 ·obtain ⟨n, _, rfl⟩ := List.mem_map.1 hw
  exact zqf n x hx
theorem zeR {r : Rc} (h : zA r = 0) : yN (yx r) = (r, 0) := by
 obtain ⟨k1, k2, _, _⟩ := Ym h
 obtain ⟨_, h2⟩ := zdM h
 have hl := z44 h
 unfold yN zd6
 rw [if_neg (by omega), zob h]
 simp only [List.headD_cons, List.tail_cons]
 rw [zjE _ fun n hn => by have := h2 n hn; exact ⟨by omega, by omega⟩]
 simp only
 rw [(z7O k1 k2).1, zqg h]
 simp only [if_pos h]
theorem zjG {s : List UInt8} (h : (yN s).2 = 0) : zA (yN s).1 = 0 ∧ yx (yN s).1 = s := by
 unfold yN at h ⊢
 split at h
 ·cases h
 ·rename_i hl
  rw [if_neg hl]
  unfold zd6 at h ⊢
  have hj := z7M 32 s
  have hn := jw 32 s
  cases hs : sp 32 s with
  | nil => exact absurd hs hn
  | cons w xs =>
  rw [hs] at h hj
  simp only [List.headD_cons, List.tail_cons] at h ⊢
  cases hx : nums xs with
  | none => rw [hx] at h; cases h
  | some ns =>
   rw [hx] at h
   simp only at h ⊢
   cases hr : V2 (ixW kindW w 0) ns with
   | none => rw [hr] at h; cases h
   | some r =>
    rw [hr] at h
    simp only at h ⊢
    split at h
    ·rename_i hc
     rw [if_pos hc]
     refine ⟨hc, ?_⟩
     obtain ⟨e1, e2, e3, e4⟩ := zqh hr
     unfold yx
     rw [e1, e2, zuy rfl e3 e4, ← (zjF xs ns hx).1]
     exact hj
    ·rename_i hc; exact absurd h hc
end Go.Kx
namespace Go.Kx
open Go.Rb
theorem z9i (c : UInt8) {s : List UInt8} (h : ∀ x ∈ s, x ≠ c) : sp c s = [s] := zil c s h
theorem za5 (c : UInt8) : ∀ s : List UInt8, (∀ x ∈ s, x ≠ c) ∨ ∃ w l, s = w ++ c :: l ∧ (∀ x ∈ w, x ≠ c)
 | [] => .inl fun x hx => by cases hx
 | b :: s => by
  by_cases hb : b = c
  ·subst hb; exact .inr ⟨[], s, rfl, fun x hx => by cases hx⟩
  ·rcases za5 c s with h | ⟨w, l, rfl, h⟩
   ·exact .inl fun x hx => by rcases List.mem_cons.1 hx with rfl | hx; exact hb; exact h x hx
   ·exact .inr ⟨b :: w, l, rfl, fun x hx => by rcases List.mem_cons.1 hx with rfl | hx; exact hb; exact h x hx⟩
theorem zfx {c : UInt8} {s : List UInt8} (h : ∀ x ∈ s, x ≠ c) : Lib.cut s [c] = (s, [], false) := by
 unfold Lib.cut
 rw [z3w h, if_neg (by omega)]
theorem zfy {c : UInt8} {w l : List UInt8} (h : ∀ x ∈ w, x ≠ c) : Lib.cut (w ++ c :: l) [c] = (w, l, true) := by
 unfold Lib.cut
 rw [z4x h, if_pos (by omega)]
 have e : ((w.length : Nat) : Int).toNat = w.length := by omega
 rw [e]
 simp [List.take_append, List.drop_append]
def lnW (most all : Int) : List (List UInt8) → List Rc → List Rc × Int × Int
 | [], acc => (acc, all, 0)
 | w :: r, acc => if r = [] then (if w = [] then (acc, all, 0) else (acc, all - w.length, 8)) else
  if (yN w).2 = 0 then (if (acc.length : Int) = most then (acc, all - (jn 10 (w :: r)).length, 2) else lnW most all r (acc ++ [(yN w).1])) else (acc, all - (jn 10 (w :: r)).length, (yN w).2)
def lnP (most : Int) (s : List UInt8) : List Rc × Int × Int := lnW most s.length (sp 10 s) []
theorem ztO (most all : Int) : ∀ (ws : List (List UInt8)) (acc : List Rc), ((jn 10 ws).length : Int) ≤ all → 0 ≤ (lnW most all ws acc).2.1 ∧ (lnW most all ws acc).2.1 ≤ all
 | [], acc, h => by simp only [lnW]; simp [jn] at h; omega
 | w :: r, acc, h => by
  rw [lnW]
  by_cases hr : r = []
  ·subst hr
   rw [if_pos rfl]
   simp only [jn, List.map_nil, List.flatten_nil, List.append_nil] at h
   split
   ·simp only; omega
   ·simp only; omega
  ·rw [if_neg hr]
   have hj := z1w 10 w hr
   have : (jn 10 r).length ≤ (jn 10 (w :: r)).length := by rw [hj]; simp; omega
   split
   ·split
    ·simp only; omega
    ·exact ztO most all r _ (by omega)
   ·simp only; omega
theorem ztP (most : Int) (s : List UInt8) : 0 ≤ (lnP most s).2.1 ∧ (lnP most s).2.1 ≤ s.length := by
 unfold lnP
 exact ztO most _ _ _ (by rw [z7M]; omega)
theorem zp9 (most all : Int) : ∀ (ws : List (List UInt8)) (acc : List Rc), (lnW most all ws acc).1.length ≤ acc.length + ws.length
 | [], acc => by simp [lnW]
 | w :: r, acc => by
  rw [lnW]
  split
  ·split <;> simp
  ·split
   ·split
    ·simp
    ·have := zp9 most all r (acc ++ [(yN w).1])
     simp only [List.length_append, List.length_cons, List.length_nil] at this ⊢; omega
   ·simp
theorem zdN (most : Int) (s : List UInt8) : (lnP most s).1.length ≤ s.length + 1 := by
 have := zp9 most s.length (sp 10 s) []
 have := zhl 10 s
 unfold lnP
 simp only [List.length_nil] at *
 omega
/-! ### Records as lines -/
def Yy (r : Rc) : List UInt8 := yx r ++ [10]
def zD (rs : List Rc) : List UInt8 := (rs.map Yy).flatten
theorem zrN (n : Int) : ∀ b ∈ Lib.itoa n, b ≠ 10 := by
 intro b hb e
 subst e
 rcases zjA n _ hb with h | h
 ·revert h; decide
 ·revert h; decide
theorem zrO {k : Int} (h1 : 1 ≤ k) (h2 : k ≤ 4) : ∀ x ∈ kindW.getD k.toNat [], x ≠ 10 := by
 have : k = 1 ∨ k = 2 ∨ k = 3 ∨ k = 4 := by omega
 rcases this with rfl | rfl | rfl | rfl <;> decide
theorem zhm {r : Rc} (h : zA r = 0) : ∀ x ∈ yx r, x ≠ 10 := by
 obtain ⟨k1, k2, _, _⟩ := Ym h
 intro x hx
 unfold yx at hx
 simp only [jn] at hx
 rcases List.mem_append.1 hx with hx | hx
 ·exact zrO k1 k2 x hx
 ·rw [List.mem_flatten] at hx
  obtain ⟨l, hl, hx⟩ := hx
  rw [List.map_map, List.mem_map] at hl
  obtain ⟨n, _, rfl⟩ := hl
  rcases List.mem_cons.1 hx with rfl | hx
  ·decide
  ·exact zrN n x hx
theorem zhn (r : Rc) (rs : List Rc) (t : List UInt8) : zD (r :: rs) ++ t = yx r ++ 10 :: (zD rs ++ t) := by
 simp [zD, Yy]
theorem zd7 (a b : List Rc) : zD (a ++ b) = zD a ++ zD b := by simp [zD]
theorem zfz (most all : Int) : ∀ (rs : List Rc) (t : List UInt8) (acc : List Rc), (∀ r ∈ rs, zA r = 0) → ((acc.length + rs.length : Nat) : Int) ≤ most → lnW most all (sp 10 (zD rs ++ t)) acc = lnW most all (sp 10 t) (acc ++ rs)
 | [], t, acc, _, _ => by simp [zD]
 | r :: rs, t, acc, h, hl => by
  have hr := h r (by simp)
  simp only [List.length_cons] at hl
  rw [zhn, z43 10 _ _ (zhm hr), lnW, if_neg (jw 10 _), zeR hr, if_pos rfl, if_neg (by omega), zfz most all rs t (acc ++ [r]) (fun q hq => h q (by simp [hq])) (by simp; omega)]
  simp
theorem zmR {most : Int} {rs : List Rc} {t : List UInt8} (h : ∀ r ∈ rs, zA r = 0) (hl : (rs.length : Int) ≤ most) (ht : ∀ x ∈ t, x ≠ 10) : lnP most (zD rs ++ t) = (rs, ((zD rs).length : Int), if t = [] then 0 else 8) := by
 unfold lnP
 rw [zfz most _ rs t [] h (by simpa using hl), z9i 10 ht, lnW, if_pos rfl, List.nil_append, List.length_append]
 by_cases e : t = []
 ·subst e; simp
 ·rw [if_neg e, if_neg e]; simp only [Prod.mk.injEq, true_and, and_true]; omega
theorem zjH {most : Int} {rs : List Rc} (h : ∀ r ∈ rs, zA r = 0) (hl : (rs.length : Int) ≤ most) : lnP most (zD rs) = (rs, ((zD rs).length : Int), 0) := by
 have := zmR (t := []) h hl (by simp)
 simpa using this
/-! ### Disks -/
def zM (d : List UInt8 × List UInt8) : Int := if 60000 < d.1.length then 2 else if 60000 - d.1.length < d.2.length then 2 else (lnP 60 d.1).2.2
def dPut (d : List UInt8 × List UInt8) (r : Rc) : (List UInt8 × List UInt8) × Int :=
 if zM d = 0 then (if zA r = 0 then (if 60000 - (d.1.length : Int) - d.2.length < (yx r).length + 1 then (([], []), 2) else ((d.1, d.2 ++ Yy r), 0)) else (([], []), zA r)) else (([], []), zM d)
def vJ (d : List UInt8 × List UInt8) : (List UInt8 × List UInt8) × Int :=
 if zM d = 0 then (if zM (d.1 ++ d.2, []) = 0 then ((d.1 ++ d.2, []), 0) else (([], []), zM (d.1 ++ d.2, []))) else (([], []), zM d)
def vB (d : List UInt8 × List UInt8) (n : Int) : (List UInt8 × List UInt8) × Int :=
 if zM d = 0 then (if n < 0 ∨ (d.2.length : Int) < n then (([], []), 3) else ((d.1, d.2.take n.toNat), 0)) else (([], []), zM d)
def JD (d : List UInt8 × List UInt8) : List Rc × Int × Int := lnP (60 - ((lnP 60 d.1).1.length : Int)) d.2
def zq (d : List UInt8 × List UInt8) : (List UInt8 × List UInt8) × List Rc × Int :=
 if zM d = 0 then ((d.1 ++ d.2.take (JD d).2.1.toNat, []), (lnP 60 d.1).1 ++ (JD d).1, 0) else (([], []), [], zM d)
theorem Yz {d : List UInt8 × List UInt8} (h : zM d = 0) : d.1.length + d.2.length ≤ 60000 := by
 unfold zM at h
 split at h
 ·cases h
 ·split at h
  ·cases h
  ·omega
theorem zeS {a : List Rc} {w : List UInt8} (h : ∀ r ∈ a, zA r = 0) (ha : a.length ≤ 60) (hl : (zD a).length + w.length ≤ 60000) : zM (zD a, w) = 0 := by
 unfold zM
 rw [if_neg (by simp only; omega), if_neg (by simp only; omega), zjH h (by omega)]
end Go.Kx
namespace Go.Proofs.Y
open Go.Rb Go.Kx
theorem zmS : vz = some kindW := rfl
theorem zth (a : List (List UInt8)) (b : List UInt8) (h : a.length < 4611686018427387904) : z6m a b = some (ixW a b 0) := by
 unfold z6m
 refine zQ a (fun j (_ : Int) => (j : Int)) (G := fun rest s => some (ixW rest b s)) (P := fun j s => s = (j : Int)) (s0 := (0 : Int)) ?_ ?_ rfl (by omega)
 ·rintro j s hj rfl k hk
  have hat := zN hj
  generalize a.getD j default = x at *
  rw [za, zd, zi, zb, if_pos (by omega), hat, zx, z7, za, zd, zu, Zz, zF (by omega), hk _ rfl, ixW]
  split
  ·rfl
  ·rfl
 ·rintro s rfl k
  rw [za, zd, zi, zb, if_neg (by omega)]; rfl
theorem za6 (f : List UInt8 × Int → Option (Sum (List UInt8 × Int) (List UInt8 × Int))) (l : List Int) (w : List UInt8) (hl : l.length ≤ 30) (hb : ∀ n ∈ l, -1000000 ≤ n ∧ n ≤ 1000000) (hw : w.length ≤ 5)
  (hs : ∀ (j : Nat) (s : List UInt8), j < l.length → f (s, (j : Int)) = z6 (Yo (l.getD j default)) fun (y : List UInt8) => ifB (Jl [32] y) (ifB (Jl s (catS [32] y)) (some (Sum.inl (catS s (catS [32] y), wadd IntKind.i64 (j : Int) 1))) none) none)
  (he : ∀ s, f (s, (l.length : Int)) = some (Sum.inr (s, 0))) : zk maxR f (w, 0) = some (jn 32 (w :: l.map Lib.itoa), 0) := by
 have hh : ∀ n ∈ l, Yo n = some (Lib.itoa n) ∧ (Lib.itoa n).length ≤ 21 := fun n hn => by
  have := hb n hn
  exact ⟨by unfold Yo; rw [if_pos (by omega)], Lib.itoa_length_le n (by omega) (by omega)⟩
 have := zQ l (fun j (s : List UInt8) => (s, (j : Int))) (f := f) (G := fun rest s => some (s ++ (rest.map fun n => 32 :: Lib.itoa n).flatten, 0)) (P := fun j s => s.length ≤ 5 + 22 * j) (s0 := w) ?_ ?_ (by omega) (by omega)
 ·rw [show ((0 : Nat) : Int) = 0 from rfl] at this
  rw [this]
  simp only [jn, List.map_map]; rfl
 ·intro j s hj hp k hk
  have hm : l.getD j default ∈ l := by simp [List.getD, List.getElem?_eq_getElem hj]
  obtain ⟨h1, h2⟩ := hh _ hm
  rw [hs j s hj, h1, z7]
  generalize l.getD j default = x at *
  rw [Z3, if_pos (by simp; omega), Z3, if_pos (by simp [catS]; omega), zu, zF (by omega), hk _ (by simp [catS]; omega)]
  simp [catS]
 ·intro s _ k
  rw [he, Z7]; simp
theorem zti (r : Rc) (hl : r.2.2.2.length < 4611686018427387904) : Vu r = some (z6q r) := by
 unfold Vu z6q
 have hck : Zl (Prod.fst r, Prod.fst (Prod.snd r), Prod.fst (Prod.snd (Prod.snd r)), Prod.snd (Prod.snd (Prod.snd r))) = some (zA r) := z67 r hl
 rw [hck, z7, zj]
 by_cases hc : zA r = 0
 ·rw [if_pos hc, if_pos hc]
  obtain ⟨k1, k2, k3, k4⟩ := Ym hc
  obtain ⟨a1, a2⟩ := zdM hc
  obtain ⟨_, _, hw⟩ := z7O k1 k2
  have hat : atI kindW r.1 = some (kindW.getD r.1.toNat []) := by
   have : r.1 = 1 ∨ r.1 = 2 ∨ r.1 = 3 ∨ r.1 = 4 := by omega
   rcases this with h | h | h | h <;> rw [h] <;> rfl
  rw [zmS, z7]
  simp only [hat, z7]
  rw [zf]
  by_cases h1 : r.1 = 1
  ·rw [if_pos h1]
   have he : Yx r = yA r.2.2.2 := by unfold Yx; rw [if_pos h1]
   have ht : yx r = jn 32 (kindW.getD r.1.toNat [] :: (yA r.2.2.2).map Lib.itoa) := by unfold yx; rw [he]
   rw [he] at a1 a2
   have hll := z6r r.2.2.2
   rw [ht]
   generalize kindW.getD r.1.toNat [] = w at *
   generalize hle : r.2.2.2 = l at *
   refine zQ l (fun j (s : List Int) => ((j : Int), s)) (G := fun rest s => if s ++ yA rest = yA l then some (jn 32 (w :: (yA l).map Lib.itoa), 0) else none) (P := fun j s => s.length = 3 * j ∧ s ++ yA (l.drop j) = yA l) (s0 := []) ?_ ?_ ⟨rfl, rfl⟩ (by omega) |>.trans (by simp)
   ·rintro j s hj ⟨hp, hq⟩ k hk
    have hat := zN hj
    have hd : l.drop j = l.getD j default :: l.drop (j + 1) := by rw [List.drop_eq_getElem_cons hj]; simp [List.getD, List.getElem?_eq_getElem hj]
    rw [hd] at hq
    generalize l.getD j default = x at *
    rw [za, zd, zi, zb, if_pos (by omega), hat, zx, z7, za, zB, zu, zz, if_pos (by simp; omega), zF (by omega)]
    simp only [zY]
    have hq2 : (s ++ [x.1, x.2.1, x.2.2]) ++ yA (l.drop (j + 1)) = yA l := by rw [← hq, yA]; simp
    rw [hk _ ⟨by simp; omega, hq2⟩, if_pos hq2, if_pos hq]
   ·rintro s ⟨hp, hq⟩ k
    rw [List.drop_length] at hq
    have hq' : s = yA l := by simpa [yA] using hq
    subst hq'
    rw [za, zd, zi, zb, if_neg (by omega), if_pos hq]
    refine za6 _ (yA l) w a1 a2 hw ?_ ?_
    ·intro j s hj
     simp only [zB, zu, Z7, zd, Zx, zx, Z0, ZA, Zt, zi, Zy, zy, zP, zf, zj, zC, ZD, ZK, ZQ, zI, ZE, Zu, Zv, Zw, Zr, Za, zH, ZR, zz, Z2, Zc, Z3, Zz, ZS, Zs, z7, Z1, Zf, Zg, zb, ZL, zY, zU, Z6, ZT, Zi, zL, ZF]
     have hat := yw hj
     rw [if_pos (by omega), if_pos (by omega), show ((j : Int)).toNat = j by omega, hat, z7]
    ·intro s
     simp only [zB, zu, Z7, zd, Zx, zx, Z0, ZA, Zt, zi, Zy, zy, zP, zf, zj, zC, ZD, ZK, ZQ, zI, ZE, Zu, Zv, Zw, Zr, Za, zH, ZR, zz, Z2, Zc, Z3, Zz, ZS, Zs, z7, Z1, Zf, Zg, zb, ZL, zY, zU, Z6, ZT, Zi, zL, ZF]
     rw [if_neg (by omega)]
  ·rw [if_neg h1, zf]
   by_cases h4 : r.1 = 4
   ·rw [if_pos h4]
    have he : Yx r = [r.2.2.1] := by unfold Yx; rw [if_neg h1, if_pos h4]
    have ht : yx r = jn 32 (kindW.getD r.1.toNat [] :: [r.2.2.1].map Lib.itoa) := by unfold yx; rw [he]
    rw [he] at a1 a2
    rw [ht, zI, if_pos ⟨by omega, by simp⟩]
    refine za6 _ [r.2.2.1] _ a1 a2 hw ?_ ?_
    ·intro j s hj
     have : j = 0 := by simpa using hj
     subst this
     rfl
    ·intro s; rfl
   ·rw [if_neg h4]
    have he : Yx r = [r.2.1, r.2.2.1] := by unfold Yx; rw [if_neg h1, if_neg h4]
    have ht : yx r = jn 32 (kindW.getD r.1.toNat [] :: [r.2.1, r.2.2.1].map Lib.itoa) := by unfold yx; rw [he]
    rw [he] at a1 a2
    rw [ht]
    refine za6 _ [r.2.1, r.2.2.1] _ a1 a2 hw ?_ ?_
    ·intro j s hj
     have : j = 0 ∨ j = 1 := by simp at hj; omega
     rcases this with rfl | rfl <;> rfl
    ·intro s; rfl
 ·rw [if_neg hc, if_neg hc]
end Go.Proofs.Y
namespace Go.Proofs.Y
open Go.Rb Go.Kx
theorem zim (c : UInt8) : ∀ l, ∀ w ∈ sp c l, w.length ≤ l.length
 | [], w, hw => by simp [sp] at hw; subst hw; simp
 | b :: l, w, hw => by
  have ih := zim c l
  have hn := jw c l
  unfold sp at hw
  split at hw
  ·rcases List.mem_cons.1 hw with rfl | hw
   ·simp
   ·have := ih w hw; simp; omega
  ·split at hw
   ·rename_i h2; exact absurd h2 hn
   ·rename_i v r h2
    rw [h2] at ih
    rcases List.mem_cons.1 hw with rfl | hw
    ·have := ih v (by simp); simp; omega
    ·have := ih w (by simp [hw]); simp; omega
def endP (k : Int) (ns : List Int) : Rc × Int := match V2 k ns with
 | none => (vi, 1)
 | some r => if zA r = 0 then (r, 0) else (vi, zA r)
theorem zjI (w : List UInt8) (xs : List (List UInt8)) : zd6 w xs = match nums xs with | none => (vi, 1) | some ns => endP (ixW kindW w 0) ns := rfl
theorem zmT : ∀ (n : Nat) (l : List Int), l.length = 3 * n → (trip l).length = n
 | 0, l, h => by have := List.eq_nil_of_length_eq_zero (show l.length = 0 by omega); subst this; rfl
 | n + 1, l, h => by
  match l, h with
  | a :: b :: c :: r, h => rw [trip, List.length_cons, zmT n r (by simp at h; omega)]
  | [], h => simp at h
  | [_], h => simp at h; omega
  | [_, _], h => simp at h; omega
theorem zmU : ∀ (n : Nat) (l : List Int) (j : Nat), l.length = 3 * n → j < n → (trip l).getD j default = (l.getD (3 * j) default, l.getD (3 * j + 1) default, l.getD (3 * j + 2) default)
 | 0, l, j, h, hj => by omega
 | n + 1, l, j, h, hj => by
  match l, h with
  | a :: b :: c :: r, h =>
   rw [trip]
   cases j with
   | zero => rfl
   | succ j =>
    have := zmU n r j (by simp at h; omega) (by omega)
    rw [show 3 * (j + 1) = 3 * j + 3 by omega]
    simpa [List.getD] using this
  | [], h => simp at h
  | [_], h => simp at h; omega
  | [_, _], h => simp at h; omega
theorem ztQ (n : Nat) : wrem (n : Int) 3 = ((n % 3 : Nat) : Int) := by unfold wrem; rw [Int.tmod_eq_emod_of_nonneg (by omega)]; omega
theorem zmV (r : Rc) (hl : r.2.2.2.length < 4611686018427387904) : (z6 (Zl r) fun (y : Int) => ifB (neI y 0) (some (((0, 0, 0, []) : Rc), y)) (some (r, (0 : Int)))) = some (if zA r = 0 then (r, 0) else (vi, zA r)) := by
 rw [z67 r hl, z7, zj]
 split
 ·rfl
 ·rfl
theorem ztj (s : List UInt8) : Vt s = some (yN s) := by
 unfold Vt yN
 rw [zy, zb]
 by_cases hlen : 60000 < s.length
 ·rw [if_pos (by omega), if_pos hlen]; rfl
 ·rw [if_neg (by omega), if_neg hlen]
  have hsp : z5z s [32] = some (sp 32 s) := by unfold z5z; rw [if_pos ⟨by omega, by simp⟩, zoa]
  rw [hsp, z7, zmS, z7]
  have hwl := zim 32 s
  have hsl := zhl 32 s
  have hne := jw 32 s
  generalize sp 32 s = ws at *
  cases ws with
  | nil => exact absurd rfl hne
  | cons w xs =>
  rw [show atI (w :: xs) 0 = some w from rfl, z7, zth kindW w (by decide), z7, zjI]
  simp only [List.headD_cons, List.tail_cons]
  generalize ixW kindW w 0 = q
  rw [zI, if_pos ⟨by omega, by simp; omega⟩]
  simp only [show yF (w :: xs) 1 = xs from rfl]
  have hxl : xs.length ≤ 60000 := by simp at hsl; omega
  have hxw : ∀ x ∈ xs, x.length ≤ 60000 := fun x hx => by have := hwl x (by simp [hx]); omega
  refine (zQ xs (fun j (a : List Int) => ((j : Int), 0, 0, 0, [], a)) (G := fun rest a => some (match nums rest with | none => (vi, 1) | some ns => endP q (a ++ ns))) (P := fun j a => a.length = j) (s0 := []) ?_ ?_ rfl (by omega)).trans ?_
  ·intro j a hj hp k hk
   have hat := zN hj
   have hm : xs.getD j default ∈ xs := by simp [List.getD, List.getElem?_eq_getElem hj]
   have hx := hxw _ hm
   generalize xs.getD j default = x at *
   rw [za, zi, zb, if_pos (by omega), hat, z7]
   have ha : z9w x = some (endO (Lib.atoiAll x) (Lib.atoiSat x)) := by unfold z9w; rw [if_pos (by omega)]
   rw [ha, z7, nums]
   rcases hv : Lib.atoiAll x with v | _ | _
   ·have hb := Lib.atoiAll_bounds hv
    have hi : Yo v = some (Lib.itoa v) := by unfold Yo; rw [if_pos hb]
    simp only [endO]
    rw [ZA, hi, z7, za, zC, Zz]
    by_cases he : Lib.itoa v = x
    ·rw [if_pos he, if_pos he, za, zz, if_pos (by simp; omega), zu, zF (by omega)]
     simp only [zY]
     rw [hk _ (by simp; omega)]
     cases nums (xs.drop (j + 1)) with
     | none => rfl
     | some ns => simp
    ·rw [if_neg he, if_neg he]; rfl
   ·rfl
   ·rfl
  ·intro a hp k
   have hal : a.length ≤ 60000 := by omega
   clear hp hxw hwl
   rw [za, zd, zi, zb, if_neg (by omega)]
   simp only [nums, List.append_nil]
   rw [zf]
   by_cases h1 : q = 1
   ·subst h1
    rw [if_pos rfl, zf, zb, ztQ]
    by_cases h3 : a.length % 3 = 0
    ·rw [if_pos (by omega)]
     have hn : a.length = 3 * (a.length / 3) := by omega
     have htl := zmT _ a hn
     have he : endP 1 a = if zA (1, 0, 0, trip a) = 0 then ((1, 0, 0, trip a), 0) else (vi, zA (1, 0, 0, trip a)) := by unfold endP V2; rw [if_pos rfl, if_pos h3]
     rw [he]
     refine (zQ (trip a) (fun j (es : List Ent) => (((3 * j : Nat) : Int), es)) (G := fun rest es => some (if zA (1, 0, 0, es ++ rest) = 0 then (((1, 0, 0, es ++ rest) : Rc), 0) else (vi, zA (1, 0, 0, es ++ rest)))) (P := fun j es => es.length = j) (s0 := []) ?_ ?_ rfl (by omega)).trans (by simp)
     ·intro j es hj hp k hk
      rw [htl] at hj
      have hg := zmU _ a j hn hj
      rw [hg]
      have e0 := yw (show 3 * j < a.length by omega)
      have e1 := yw (show 3 * j + 1 < a.length by omega)
      have e2 := yw (show 3 * j + 2 < a.length by omega)
      generalize a.getD (3 * j) default = x0 at *
      generalize a.getD (3 * j + 1) default = x1 at *
      generalize a.getD (3 * j + 2) default = x2 at *
      have w1 : wadd .i64 ((3 * j : Nat) : Int) 1 = ((3 * j + 1 : Nat) : Int) := by rw [ZM ⟨by omega, by omega⟩]; rfl
      have w2 : wadd .i64 ((3 * j : Nat) : Int) 2 = ((3 * j + 2 : Nat) : Int) := by rw [ZM ⟨by omega, by omega⟩]; rfl
      have w3 : wadd .i64 ((3 * j : Nat) : Int) 3 = ((3 * (j + 1) : Nat) : Int) := by rw [ZM ⟨by omega, by omega⟩]; omega
      rw [za, zi, if_pos (show ((3 * j : Nat) : Int) < a.length by omega)]
      simp only [w1, w2, w3, zL, Int.toNat_natCast]
      rw [za, zH, if_pos (by omega), e0, z7, za, zH, if_pos (by omega), e1, z7, za, zH, if_pos (by omega), e2, z7, za, zz, if_pos (by simp; omega), zu]
      simp only [zY]
      rw [hk _ (by simp; omega)]
      simp
     ·intro es hp k
      rw [za, zd, zi, if_neg (show ¬ ((3 * (trip a).length : Nat) : Int) < a.length by omega), List.append_nil]
      exact zmV (1, 0, 0, es) (by simp; omega)
    ·rw [if_neg (by omega)]
     unfold endP V2
     rw [if_pos rfl, if_neg h3]
     rfl
   ·rw [if_neg h1]
    by_cases h2 : a.length = 2
    ·match a, h2 with
     | [x, y], _ =>
      have c2 := zmV (q, x, y, []) (by simp)
      rw [zf, zf]
      by_cases k2 : q = 2
      ·rw [if_pos k2]
       have : endP q [x, y] = if zA (q, x, y, []) = 0 then ((q, x, y, []), 0) else (vi, zA (q, x, y, [])) := by unfold endP V2; rw [if_neg h1, if_pos (.inl k2)]
       rw [this]
       exact c2
      ·rw [if_neg k2, zf]
       by_cases k3 : q = 3
       ·rw [if_pos k3]
        have : endP q [x, y] = if zA (q, x, y, []) = 0 then ((q, x, y, []), 0) else (vi, zA (q, x, y, [])) := by unfold endP V2; rw [if_neg h1, if_pos (.inr k3)]
        rw [this]
        exact c2
       ·rw [if_neg k3, zf]
        unfold endP V2
        rw [if_neg h1, if_neg (show ¬ (q = 2 ∨ q = 3) by omega)]
        by_cases k4 : q = 4
        ·rw [if_pos k4, if_pos k4]; rfl
        ·rw [if_neg k4, if_neg k4]; rfl
    ·have g2 : ¬ (lenI a = 2) := by rw [zb]; omega
     have r2 : ∀ k : Int, (k = 2 ∨ k = 3) → V2 k a = none := by
      intro k hk
      unfold V2
      rw [if_neg (by omega), if_pos hk]
      match a, h2 with
      | [], _ => rfl
      | [_], _ => rfl
      | _ :: _ :: _ :: _, _ => rfl
     simp only [zf, if_neg g2]
     by_cases k4 : q = 4
     ·subst k4
      by_cases l1 : a.length = 1
      ·match a, l1 with
       | [x], _ => exact zmV (4, 0, x, []) (by simp)
      ·have g1 : ¬ (lenI a = 1) := by rw [zb]; omega
       have : endP 4 a = (vi, 1) := by
        unfold endP V2
        rw [if_neg (by omega), if_neg (by omega), if_pos rfl]
        match a, l1 with
        | [], _ => rfl
        | _ :: _ :: _, _ => rfl
       rw [this]
       simp only [if_neg g1]
       rfl
     ·simp only [if_neg k4]
      have : endP q a = (vi, 1) := by
       unfold endP
       by_cases hk : q = 2 ∨ q = 3
       ·rw [r2 q hk]
       ·unfold V2; rw [if_neg h1, if_neg hk, if_neg k4]
      rw [this]
      split
      ·rfl
      ·split <;> rfl
  ·cases nums xs <;> rfl
end Go.Proofs.Y
namespace Go.Proofs.Y
open Go.Rb Go.Kx
theorem z1x (s : List UInt8) : strB (bytB s) = s := by
 unfold strB bytB
 rw [List.map_map]
 have : ((fun n : Int => UInt8.ofNat n.toNat) ∘ fun b : UInt8 => (b.toNat : Int)) = id := by
  funext b; simp
 rw [this, List.map_id]
theorem ZC (s : List UInt8) : (bytB s).length = s.length := by unfold bytB; rw [List.length_map]
theorem zmW (s t : List UInt8) : bytB (s ++ t) = bytB s ++ bytB t := by unfold bytB; rw [List.map_append]
theorem z7P (s : List UInt8) (k : Nat) : (bytB s).take k = bytB (s.take k) := by unfold bytB; rw [List.map_take]
theorem ztl {s t : List UInt8} : bytB s = bytB t ↔ s = t := ⟨fun h => by rw [← z1x s, h, z1x], fun h => by rw [h]⟩
def bD (d : List UInt8 × List UInt8) : List Int × List Int := (bytB d.1, bytB d.2)
theorem zfA (s : List UInt8) (most : Int) (hl : s.length ≤ 60000) : vA s most = some (lnP most s) := by
 unfold vA
 have key := yD (f := fun (x : List UInt8 × List (Int × Int × Int × List (Int × Int × Int))) =>
   ifB (notB (eqS (Prod.fst x) []))
    (z6 (cutO (Prod.fst x) [10])
     fun (y : List UInt8 × List UInt8 × Bool) =>
     ifB (notB (Prod.snd (Prod.snd y))) (mapO Sum.inr (some (Prod.snd x, wsub IntKind.i64 (lenI s) (lenI (Prod.fst x)), 8)))
      (z6 (Vt (Prod.fst y)) fun (y_1 : (Int × Int × Int × List (Int × Int × Int)) × Int) =>
       ifB (neI (Prod.snd y_1) 0) (mapO Sum.inr (some (Prod.snd x, wsub IntKind.i64 (lenI s) (lenI (Prod.fst x)), Prod.snd y_1)))
        (ifB (eqI (lenI (Prod.snd x)) most) (mapO Sum.inr (some (Prod.snd x, wsub IntKind.i64 (lenI s) (lenI (Prod.fst x)), 2)))
         (ifB
          (zh 48 (Prod.snd x)
           [(Prod.fst (Prod.fst y_1), Prod.fst (Prod.snd (Prod.fst y_1)), Prod.fst (Prod.snd (Prod.snd (Prod.fst y_1))),
             Prod.snd (Prod.snd (Prod.snd (Prod.fst y_1))))])
          (some
           (Sum.inl
            (Prod.fst (Prod.snd y),
             cat (Prod.snd x)
              [(Prod.fst (Prod.fst y_1), Prod.fst (Prod.snd (Prod.fst y_1)), Prod.fst (Prod.snd (Prod.snd (Prod.fst y_1))),
                Prod.snd (Prod.snd (Prod.snd (Prod.fst y_1))))])))
          none))))
    (mapO Sum.inr (some (Prod.snd x, lenI s, 0))))
  (G := fun x => some (lnW most s.length (sp 10 x.1) x.2)) (P := fun x => x.1.length + x.2.length ≤ s.length) (μ := fun x => x.1.length) ?_ maxR (s, []) (by simp) (by unfold maxR; simp only; omega)
 ·exact key
 ·rintro ⟨t, acc⟩ hp k hk
  simp only at hp hk ⊢
  have hw : wsub .i64 (lenI s) (lenI t) = (s.length : Int) - t.length := by rw [zb, zb, ZU ⟨by omega, by omega⟩]
  rw [za, zC, Zz]
  by_cases h0 : t = []
  ·subst h0
   rw [if_pos rfl, zd]
   rfl
  ·rw [if_neg h0, hw]
   have hc : cutO t [10] = some (Lib.cut t [10]) := by unfold cutO; rw [if_pos (by omega)]
   rw [hc, z7, za, zd, zC]
   rcases za5 10 t with hn | ⟨w, l, rfl, hn⟩
   ·rw [zfx hn]
    show some _ = _
    rw [z9i 10 hn, lnW, if_pos rfl, if_neg h0]
   ·rw [zfy hn]
    simp only [Z0]
    rw [ztj, z7, za, zd, zj, za, zd, zf, zb, z43 10 w l hn, lnW, if_neg (jw 10 l), z1w 10 w (jw 10 l), z7M]
    split
    ·split
     ·rfl
     ·simp only [List.length_append, List.length_cons] at hp hk
      rw [za, zu, zz, if_pos (by simp; omega)]
      simp only [zY]
      exact hk _ (by simp; omega) (by simp only; omega)
    ·rfl
theorem J6 (d : List UInt8 × List UInt8) (h1 : d.1.length < 4611686018427387904) (h2 : d.2.length < 4611686018427387904) : Y8 (bytB d.1, bytB d.2) = some (zM d) := by
 unfold Y8 zM
 simp only [zb, ZC, zy, z1x]
 rw [ZU ⟨by omega, by omega⟩]
 by_cases k1 : 60000 < d.1.length
 ·rw [if_pos (by omega), if_pos k1]
 ·rw [if_neg (by omega), if_neg k1, zfA _ _ (by omega), z7]
  by_cases k2 : 60000 - d.1.length < d.2.length
  ·rw [if_pos (by omega), if_pos k2]
  ·rw [if_neg (by omega), if_neg k2]
theorem JE (s : List UInt8) (h : s.length ≤ 60000) : vp (bytB s) = some (bytB s) := by
 unfold vp
 exact z1s 1 (bytB s) (by rw [ZC]; omega) (by rw [ZC]; omega)
theorem z0G (s t : List UInt8) (h : s.length + t.length ≤ 60000) : YN [bytB s, bytB t] = some (bytB (s ++ t)) := by
 unfold YN
 rw [zmW, ← z3l]
 refine z5d 1 0 [bytB s, bytB t] (by simp) (by omega) ?_ (by omega)
 rw [z3l, List.length_append, ZC, ZC]; omega
theorem zho (s t : List UInt8) (h : s.length < 4611686018427387904) : Vz (bytB s) (bytB t) = some (decide (s = t)) := by
 unfold Vz
 have := z3Z (fun x y : Int => !(neI x y)) (fun x y => by by_cases h : x = y <;> simp [neI, h]) (bytB s) (bytB t) (by rw [ZC]; exact h)
 simp only [notB, Bool.not_not] at this
 rw [this]
 congr 1
 exact decide_eq_decide.2 ztl
theorem zmX (a b : List UInt8 × List UInt8) (h1 : a.1.length < 4611686018427387904) (h2 : a.2.length < 4611686018427387904) : jb (bytB a.1, bytB a.2) (bytB b.1, bytB b.2) = some (decide (a = b)) := by
 unfold jb
 rw [zho _ _ h1, z7, zho _ _ h2, z7]
 obtain ⟨a1, a2⟩ := a
 obtain ⟨b1, b2⟩ := b
 by_cases e1 : a1 = b1
 ·by_cases e2 : a2 = b2
  ·simp [e1, e2, Z0]
  ·simp [e1, e2, Z0]
 ·simp [e1, ZA]
theorem zuz (d : List UInt8 × List UInt8) (r : Rc) (h1 : d.1.length < 4611686018427387904) (h2 : d.2.length < 4611686018427387904) (hl : r.2.2.2.length < 4611686018427387904) : yU (bytB d.1, bytB d.2) r = some (bD (dPut d r).1, (dPut d r).2) := by
 unfold yU dPut
 rw [J6 d h1 h2, z7, zj]
 by_cases hc : zM d = 0
 ·have hlen := Yz hc
  rw [if_pos hc, if_pos hc, show Vu (Prod.fst r, Prod.fst (Prod.snd r), Prod.fst (Prod.snd (Prod.snd r)), Prod.snd (Prod.snd (Prod.snd r))) = some (z6q r) from zti r hl, z7, zj]
  unfold z6q
  by_cases hr : zA r = 0
  ·have ht := z44 hr
   simp only [if_pos hr, zb, ZC, zy]
   rw [ZM ⟨by omega, by omega⟩, ZU (a := 60000) ⟨by omega, by omega⟩, ZU ⟨by omega, by omega⟩]
   simp only [if_true]
   by_cases hf : 60000 - (d.1.length : Int) - d.2.length < (yx r).length + 1
   ·rw [if_pos hf, if_pos hf]; rfl
   ·rw [if_neg hf, if_neg hf, JE _ (by omega), z7, JE _ (by omega), z7, zz, if_pos (by rw [ZC, ZC]; omega), zz, if_pos (by rw [zY, List.length_append, ZC, ZC]; simp; omega)]
    simp only [zY, bD, Yy, zmW, List.append_assoc]
    rfl
  ·simp only [if_neg hr]; rfl
 ·rw [if_neg hc, if_neg hc]; rfl
theorem ztm (d : List UInt8 × List UInt8) (h1 : d.1.length < 4611686018427387904) (h2 : d.2.length < 4611686018427387904) : yC (bytB d.1, bytB d.2) = some (bD (vJ d).1, (vJ d).2) := by
 unfold yC vJ
 rw [J6 d h1 h2, z7, zj]
 by_cases hc : zM d = 0
 ·have hlen := Yz hc
  rw [if_pos hc, if_pos hc]
  have e2 := J6 (d.1 ++ d.2, []) (by simp; omega) (by simp)
  simp only at e2
  rw [z0G _ _ hlen, z7, show Y8 (bytB (d.1 ++ d.2), []) = some (zM (d.1 ++ d.2, [])) from e2, z7, zj]
  split <;> rfl
 ·rw [if_neg hc, if_neg hc]; rfl
theorem zrP (d : List UInt8 × List UInt8) (n : Int) (h1 : d.1.length < 4611686018427387904) (h2 : d.2.length < 4611686018427387904) : Yw (bytB d.1, bytB d.2) n = some (bD (vB d n).1, (vB d n).2) := by
 unfold Yw vB
 rw [J6 d h1 h2, z7, zj]
 by_cases hc : zM d = 0
 ·have hlen := Yz hc
  simp only [if_pos hc, zb, ZC, zy, zi]
  by_cases k1 : n < 0
  ·rw [if_pos k1, if_pos (.inl k1)]; rfl
  ·rw [if_neg k1]
   by_cases k2 : (d.2.length : Int) < n
   ·rw [if_pos k2, if_pos (.inr k2)]; rfl
   ·rw [if_neg k2, if_neg (by omega), JE _ (by omega), z7, zI, if_pos ⟨by omega, by rw [ZC]; omega⟩, zU, z7P, JE _ (by rw [List.length_take]; omega)]
    rfl
 ·rw [if_neg hc, if_neg hc]; rfl
theorem z3L (d : List UInt8 × List UInt8) (h1 : d.1.length < 4611686018427387904) (h2 : d.2.length < 4611686018427387904) : ZO (bytB d.1, bytB d.2) = some (bD (zq d).1, (zq d).2) := by
 unfold ZO zq
 rw [J6 d h1 h2, z7, zj]
 by_cases hc : zM d = 0
 ·have hlen := Yz hc
  have n1 := zdN 60 d.1
  have hm := ztP (60 - ((lnP 60 d.1).1.length : Int)) d.2
  have n2 := zdN (60 - ((lnP 60 d.1).1.length : Int)) d.2
  rw [if_pos hc, if_pos hc]
  simp only [z1x]
  rw [zfA _ _ (by omega), z7, zb, ZU ⟨by omega, by omega⟩, zfA _ _ (by omega), z7, zI, if_pos ⟨hm.1, by rw [ZC]; exact hm.2⟩, zU, z7P, z0G _ _ (by rw [List.length_take]; omega), z7, zz, if_pos (by omega)]
  rfl
 ·rw [if_neg hc, if_neg hc]; rfl
theorem at_some (a b : Int) (hb : 0 < b) (hb2 : b ≤ 4611686018427387904) : ∃ n, z6d a b = some n ∧ 0 ≤ n ∧ n < b := by
 unfold z6d wrem
 rw [zf, if_neg (by omega), zi]
 have h1 := Int.tmod_lt_of_pos a hb
 have h2 : -b < a.tmod b := by
  have := Int.tmod_lt_of_pos (-a) hb
  rw [Int.neg_tmod] at this
  omega
 by_cases h : a.tmod b < 0
 ·rw [if_pos h, ZM ⟨by omega, by omega⟩]
  exact ⟨_, rfl, by omega, by omega⟩
 ·rw [if_neg h]
  exact ⟨_, rfl, by omega, h1⟩
end Go.Proofs.Y
namespace Go.Proofs.Y
open Go.Rb Go.Kx
theorem zkt {L M : List Rc} {t : List UInt8} (hL : ∀ r ∈ L, zA r = 0) (hM : ∀ r ∈ M, zA r = 0) (ht : ∀ x ∈ t, x ≠ 10) (hn : L.length + M.length ≤ 60) (hl : (zD L).length + (zD M ++ t).length ≤ 60000) : zq (zD L, zD M ++ t) = ((zD (L ++ M), []), L ++ M, 0) := by
 have hc := zeS (w := zD M ++ t) hL (by omega) hl
 have h1 := zjH (most := 60) hL (by omega)
 have h2 := zmR (most := 60 - (L.length : Int)) (t := t) hM (by omega) ht
 unfold zq JD
 rw [if_pos hc]
 simp only [h1, h2, Int.toNat_natCast, List.take_left, zd7]
theorem zoc (a b : List Rc) (h : a.length + b.length ≤ 60) : z2B [a, b] = some (a ++ b) := by
 unfold z2B
 rw [← z3l]
 refine z5d 48 (0, 0, 0, []) [a, b] (by simp) (by omega) ?_ (by omega)
 rw [z3l, List.length_append]; omega
theorem z45 {r : Rc} (h : zA r = 0) : r.2.2.2.length < 4611686018427387904 := by
 obtain ⟨k1, k2, k3, k4⟩ := Ym h
 by_cases hk : r.1 = 1
 ·have := (k3 hk).2.2.1; omega
 ·rw [(k4 hk).1]; decide
end Go.Proofs.Y
namespace Go.Proofs.Y
open Go.Rb Go.Kx
noncomputable def zaW : Code := zg Tryz.f24
noncomputable def zaX : FuncId → Option GS := tabG [(34, JC), (28, Jv), (35, z6c)]
theorem zku : ΓOK Tryz.prog zaX := z8 (z0j) (z8 (z0i) (z8 (z7y) (ze)))
def zaY : HT := ⟨tabL [(14, .it [] (dyn [.t 53 (.int .i64)]))], tabH []⟩
abbrev z3x : List IT := [.v (.cons (.sl 95 (.cons (.sl 126 (.cons (.int .i64) (.cons (.int .i64) (.cons (.int .i64) (.one (.sl 4 (.one .bool))))))) (.one (.sl 73 (.cons (.int .i64) (.one (.int .i64))))))) (.cons (.sl 5 (.one (.int .u8))) (.cons (.sl 5 (.one (.int .u8))) (.cons (.bool) (.one (.sl 3 (.one (.int .i64)))))))) true]
abbrev z9j : List OT := [⟨.one (.int .i64), false, []⟩]
set_option maxRecDepth 100000
noncomputable def yd : List (List (Int × Int × Int × List Bool) × List (Int × Int)) × List Int × List Int × Bool × List Int → Option Int := fun a => z6 (ZO (a.2.1, a.2.2.1)) fun y => ifB (neI y.2.2 0) (some y.2.2) (ifB a.2.2.2.1 (ifB (gtI (lenI a.2.2.1) 0) (some 4) (ifB (notB a.2.2.2.1) (z6 (y0 []) fun y => ifB (neI y.2 0) (some y.2) (z6 (yz y.1 a.1) fun y => ifB (notB y) (some 4) (ifB (neI (lenI a.2.2.2.2) 3) (some 4) (zk maxR (fun (x : Int) => ifB (ltI x (lenI a.2.2.2.2)) (z6 (atI a.2.2.2.2 x) fun y => ifB (ltI y (-1)) (mapO Sum.inr (some 3)) (ifB (gtI y 0) (mapO Sum.inr (some 3)) (ifB (notB a.2.2.2.1) (ifB (neI y (-1)) (mapO Sum.inr (some 3)) (some (Sum.inl (wadd .i64 x 1)))) (some (Sum.inl (wadd .i64 x 1)))))) (mapO Sum.inr (some 0))) 0)))) (z6 (y0 y.2.1) fun y_1 => ifB (neI y_1.2 0) (some y_1.2) (z6 (yz y_1.1 a.1) fun y_2 => ifB (notB y_2) (some 4) (ifB (neI (lenI a.2.2.2.2) 3) (some 4) (zk maxR (fun (x : Int) => ifB (ltI x (lenI a.2.2.2.2)) (z6 (atI a.2.2.2.2 x) fun y_3 => ifB (ltI y_3 (-1)) (mapO Sum.inr (some 3)) (ifB (gtI y_3 (lenI y.2.1)) (mapO Sum.inr (some 3)) (ifB (notB a.2.2.2.1) (ifB (neI y_3 (-1)) (mapO Sum.inr (some 3)) (some (Sum.inl (wadd .i64 x 1)))) (some (Sum.inl (wadd .i64 x 1)))))) (mapO Sum.inr (some 0))) 0)))))) (ifB (notB a.2.2.2.1) (z6 (y0 []) fun y => ifB (neI y.2 0) (some y.2) (z6 (yz y.1 a.1) fun y => ifB (notB y) (some 4) (ifB (neI (lenI a.2.2.2.2) 3) (some 4) (zk maxR (fun (x : Int) => ifB (ltI x (lenI a.2.2.2.2)) (z6 (atI a.2.2.2.2 x) fun y => ifB (ltI y (-1)) (mapO Sum.inr (some 3)) (ifB (gtI y 0) (mapO Sum.inr (some 3)) (ifB (notB a.2.2.2.1) (ifB (neI y (-1)) (mapO Sum.inr (some 3)) (some (Sum.inl (wadd .i64 x 1)))) (some (Sum.inl (wadd .i64 x 1)))))) (mapO Sum.inr (some 0))) 0)))) (z6 (y0 y.2.1) fun y_1 => ifB (neI y_1.2 0) (some y_1.2) (z6 (yz y_1.1 a.1) fun y_2 => ifB (notB y_2) (some 4) (ifB (neI (lenI a.2.2.2.2) 3) (some 4) (zk maxR (fun (x : Int) => ifB (ltI x (lenI a.2.2.2.2)) (z6 (atI a.2.2.2.2 x) fun y_3 => ifB (ltI y_3 (-1)) (mapO Sum.inr (some 3)) (ifB (gtI y_3 (lenI y.2.1)) (mapO Sum.inr (some 3)) (ifB (notB a.2.2.2.1) (ifB (neI y_3 (-1)) (mapO Sum.inr (some 3)) (some (Sum.inl (wadd .i64 x 1)))) (some (Sum.inl (wadd .i64 x 1)))))) (mapO Sum.inr (some 0))) 0))))))
theorem zfB (x : PI z3x) : yd x = fnE T zaX zaY zaW (zo Tryz.f24) z3x z9j x := by kernel_rfl
noncomputable abbrev VY : GS := zp false z3x z9j fun x => yd x
theorem VJ : GSOK Tryz.prog 24 VY := zm tok zku fmo (Ht := zaY) (fn := Tryz.f24) (Tryz.func24) (c := zaW) (by kernel_rfl) (by kernel_rfl) (by kernel_rfl) (by decide +kernel) (by decide) zfB
end Go.Proofs.Y
namespace Go.Proofs.Y
open Go.Rb Go.Kx
noncomputable def zjJ : Code := zg Tryz.f107
noncomputable def zjK : FuncId → Option GS := tabG [(137, z1b), (138, z7l), (139, z5Q), (140, z61)]
theorem zrQ : ΓOK Tryz.prog zjK := z8 (jP) (z8 (z5S) (z8 (z3H) (z8 (z7p) (ze))))
def zjL : HT := ⟨tabL [(3, .unroll 5), (7, .it [] (dyn [.t 33 (.int .i64), .b 29 0 126 (.cons (.int .i64) (.cons (.int .i64) (.cons (.int .i64) (.one (.sl 4 (.one .bool))))))]))], tabH [(2, [.expl 1 0]), (12, [.frzq 1 0 0, .frzq 1 0 1, .frzq 1 0 2, .frzq 1 0 3, .frzq 1 0 4, .frzq 1 0 5, .frzq 1 0 6, .frzq 1 0 7, .pack 1 0 (.cons (.sl 126 (.cons (.int .i64) (.cons (.int .i64) (.cons (.int .i64) (.one (.sl 4 (.one .bool))))))) (.one (.sl 73 (.cons (.int .i64) (.one (.int .i64))))))])]⟩
abbrev za7 : List IT := [.v (.one (.sl 95 (.cons (.sl 126 (.cons (.int .i64) (.cons (.int .i64) (.cons (.int .i64) (.one (.sl 4 (.one .bool))))))) (.one (.sl 73 (.cons (.int .i64) (.one (.int .i64)))))))) true]
abbrev zhp : List OT := [⟨.one (.sl 95 (.cons (.sl 126 (.cons (.int .i64) (.cons (.int .i64) (.cons (.int .i64) (.one (.sl 4 (.one .bool))))))) (.one (.sl 73 (.cons (.int .i64) (.one (.int .i64))))))), true, []⟩]
set_option maxRecDepth 100000
noncomputable def z47 : List (List (Int × Int × Int × List Bool) × List (Int × Int)) → Option (List (List (Int × Int × Int × List Bool) × List (Int × Int))) := fun a => z6 (YC a) fun y => z6 (four y) fun (y : (List (Int × Int × Int × List Bool) × List (Int × Int)) × (List (Int × Int × Int × List Bool) × List (Int × Int)) × (List (Int × Int × Int × List Bool) × List (Int × Int)) × List (Int × Int × Int × List Bool) × List (Int × Int)) => z6 (Ze y.1.1) fun y_1 => z6 (Zq y.1.2) fun y_2 => zk maxR (fun (x : Int × List (Int × Int × Int × List Bool)) => ifB (ltI x.1 (lenI y.1.1)) (z6 (atI y.1.1 x.1) fun y => z6 (zS (y.1, y.2.1, y.2.2.1, y.2.2.2)) fun y => ifB (ltL x.1 x.2) (z6 (atN x.2 (natI x.1)) fun y_3 => some (Sum.inl (wadd .i64 x.1 1, setN x.2 (natI x.1) (y.1, y.2.1, y.2.2.1, y.2.2.2)))) none) (mapO Sum.inr (z6 (Ze y.2.1.1) fun y_3 => z6 (Zq y.2.1.2) fun y_4 => zk maxR (fun (x_1 : Int × List (Int × Int × Int × List Bool)) => ifB (ltI x_1.1 (lenI y.2.1.1)) (z6 (atI y.2.1.1 x_1.1) fun y => z6 (zS (y.1, y.2.1, y.2.2.1, y.2.2.2)) fun y => ifB (ltL x_1.1 x_1.2) (z6 (atN x_1.2 (natI x_1.1)) fun y_5 => some (Sum.inl (wadd .i64 x_1.1 1, setN x_1.2 (natI x_1.1) (y.1, y.2.1, y.2.2.1, y.2.2.2)))) none) (mapO Sum.inr (z6 (Ze y.2.2.1.1) fun y_5 => z6 (Zq y.2.2.1.2) fun y_6 => zk maxR (fun (x_2 : Int × List (Int × Int × Int × List Bool)) => ifB (ltI x_2.1 (lenI y.2.2.1.1)) (z6 (atI y.2.2.1.1 x_2.1) fun y => z6 (zS (y.1, y.2.1, y.2.2.1, y.2.2.2)) fun y => ifB (ltL x_2.1 x_2.2) (z6 (atN x_2.2 (natI x_2.1)) fun y_7 => some (Sum.inl (wadd .i64 x_2.1 1, setN x_2.2 (natI x_2.1) (y.1, y.2.1, y.2.2.1, y.2.2.2)))) none) (mapO Sum.inr (z6 (Ze y.2.2.2.1) fun y_7 => z6 (Zq y.2.2.2.2) fun y_8 => zk maxR (fun (x_3 : Int × List (Int × Int × Int × List Bool)) => ifB (ltI x_3.1 (lenI y.2.2.2.1)) (z6 (atI y.2.2.2.1 x_3.1) fun y => z6 (zS (y.1, y.2.1, y.2.2.1, y.2.2.2)) fun y => ifB (ltL x_3.1 x_3.2) (z6 (atN x_3.2 (natI x_3.1)) fun y_9 => some (Sum.inl (wadd .i64 x_3.1 1, setN x_3.2 (natI x_3.1) (y.1, y.2.1, y.2.2.1, y.2.2.2)))) none) (mapO Sum.inr (some [(x.2, y_2), (x_1.2, y_4), (x_2.2, y_6), (x_3.2, y_8)]))) (0, y_7)))) (0, y_5)))) (0, y_3)))) (0, y_1)
theorem zmY (x : PI za7) : z47 x = fnE T zjK zjL zjJ (zo Tryz.f107) za7 zhp x := by kernel_rfl
noncomputable abbrev zjM : GS := zp false za7 zhp fun x => z47 x
theorem zmZ : GSOK Tryz.prog 107 zjM := zm tok zrQ fmo (Ht := zjL) (fn := Tryz.f107) (Tryz.func107) (c := zjJ) (by kernel_rfl) (by kernel_rfl) (by kernel_rfl) (by decide +kernel) (by decide) zmY
end Go.Proofs.Y
namespace Go.Proofs.Y
open Go.Rb Go.Kx
noncomputable def zn0 : Code := zg Tryz.f69
noncomputable def zn1 : FuncId → Option GS := tabG []
theorem ztn : ΓOK Tryz.prog zn1 := ze
def zn2 : HT := ⟨tabL [], tabH []⟩
abbrev zd8 : List IT := [.v (.one (.sl 3 (.one (.int .i64)))) false]
abbrev zjN : List OT := [⟨.one (.sl 3 (.one (.int .i64))), false, [true]⟩]
set_option maxRecDepth 100000
noncomputable def z3y : List Int → Option (List Int) := fun a => ifB (isE a) (ambO (some []) (ifB (zh 8 [] a) (some (cat [] a)) none)) (ifB (zh 8 [] a) (some (cat [] a)) none)
theorem zod (x : PI zd8) : z3y x = fnE T zn1 zn2 zn0 (zo Tryz.f69) zd8 zjN x := by kernel_rfl
noncomputable abbrev zfC : GS := zp false zd8 zjN fun x => z3y x
theorem zeT : GSOK Tryz.prog 69 zfC := zm tok ztn fmo (Ht := zn2) (fn := Tryz.f69) (Tryz.func69) (c := zn0) (by kernel_rfl) (by kernel_rfl) (by kernel_rfl) (by decide +kernel) (by decide) zod
end Go.Proofs.Y
namespace Go.Proofs.Y
open Go.Rb Go.Kx
noncomputable def zd9 : Code := zg Tryz.f60
noncomputable def zda : FuncId → Option GS := tabG [(107, zjM), (69, zfC), (86, z7I)]
theorem zn3 : ΓOK Tryz.prog zda := z8 (zmZ) (z8 (zeT) (z8 (z6k) (ze)))
def zdb : HT := ⟨tabL [], tabH []⟩
abbrev z4y : List IT := [.v (.cons (.sl 95 (.cons (.sl 126 (.cons (.int .i64) (.cons (.int .i64) (.cons (.int .i64) (.one (.sl 4 (.one .bool))))))) (.one (.sl 73 (.cons (.int .i64) (.one (.int .i64))))))) (.cons (.sl 5 (.one (.int .u8))) (.cons (.sl 5 (.one (.int .u8))) (.cons (.bool) (.one (.sl 3 (.one (.int .i64)))))))) true]
abbrev zaZ : List OT := [⟨.cons (.sl 95 (.cons (.sl 126 (.cons (.int .i64) (.cons (.int .i64) (.cons (.int .i64) (.one (.sl 4 (.one .bool))))))) (.one (.sl 73 (.cons (.int .i64) (.one (.int .i64))))))) (.cons (.sl 5 (.one (.int .u8))) (.cons (.sl 5 (.one (.int .u8))) (.cons (.bool) (.one (.sl 3 (.one (.int .i64))))))), true, [false, false, false, false, true]⟩]
set_option maxRecDepth 100000
noncomputable def yp : List (List (Int × Int × Int × List Bool) × List (Int × Int)) × List Int × List Int × Bool × List Int → Option (List (List (Int × Int × Int × List Bool) × List (Int × Int)) × List Int × List Int × Bool × List Int) := fun a => z6 (z47 a.1) fun y => z6 (z3y a.2.2.2.2) fun y_1 => z6 (vp a.2.1) fun y_2 => z6 (vp a.2.2.1) fun y_3 => some (y, y_2, y_3, a.2.2.2.1, y_1)
theorem zhq (x : PI z4y) : yp x = fnE T zda zdb zd9 (zo Tryz.f60) z4y zaZ x := by kernel_rfl
noncomputable abbrev z6s : GS := zp false z4y zaZ fun x => yp x
theorem z7Q : GSOK Tryz.prog 60 z6s := zm tok zn3 fmo (Ht := zdb) (fn := Tryz.f60) (Tryz.func60) (c := zd9) (by kernel_rfl) (by kernel_rfl) (by kernel_rfl) (by decide +kernel) (by decide) zhq
end Go.Proofs.Y
namespace Go.Proofs.Y
open Go.Rb Go.Kx
noncomputable def z4N : Code := zg Tryz.f166
noncomputable def z4O : FuncId → Option GS := tabG []
theorem zdU : ΓOK Tryz.prog z4O := ze
def z4P : HT := ⟨tabL [], tabH []⟩
noncomputable def z4Q : GS := inl T z4O z4P z4N (zo Tryz.f166) (Tryz.f166.ntmps)
theorem za8 : GSOK Tryz.prog 166 z4Q := yV tok zdU fmo (Ht := z4P) (fn := Tryz.f166) (Tryz.func166) (c := z4N) (by kernel_rfl) (by kernel_rfl) (by kernel_rfl)
end Go.Proofs.Y
namespace Go.Proofs.Y
open Go.Rb Go.Kx
noncomputable def z4R : Code := zg Tryz.f167
noncomputable def z4S : FuncId → Option GS := tabG []
theorem zdV : ΓOK Tryz.prog z4S := ze
def z4T : HT := ⟨tabL [], tabH []⟩
noncomputable def z4U : GS := inl T z4S z4T z4R (zo Tryz.f167) (Tryz.f167.ntmps)
theorem za9 : GSOK Tryz.prog 167 z4U := yV tok zdV fmo (Ht := z4T) (fn := Tryz.f167) (Tryz.func167) (c := z4R) (by kernel_rfl) (by kernel_rfl) (by kernel_rfl)
end Go.Proofs.Y
namespace Go.Proofs.Y
open Go.Rb Go.Kx
noncomputable def z7R : Code := zg Tryz.f144
noncomputable def z7S : FuncId → Option GS := tabG [(166, z4Q), (167, z4U)]
theorem zhr : ΓOK Tryz.prog z7S := z8 (za8) (z8 (za9) (ze))
def z7T : HT := ⟨tabL [], tabH []⟩
noncomputable def z7U : GS := inl T z7S z7T z7R (zo Tryz.f144) (Tryz.f144.ntmps)
theorem zdc : GSOK Tryz.prog 144 z7U := yV tok zhr fmo (Ht := z7T) (fn := Tryz.f144) (Tryz.func144) (c := z7R) (by kernel_rfl) (by kernel_rfl) (by kernel_rfl)
end Go.Proofs.Y
namespace Go.Proofs.Y
open Go.Rb Go.Kx
noncomputable def zjO : Code := zg Tryz.f113
noncomputable def zjP : FuncId → Option GS := tabG [(144, z7U)]
theorem zrR : ΓOK Tryz.prog zjP := z8 (zdc) (ze)
def zjQ : HT := ⟨tabL [(8, .unroll 4)], tabH []⟩
noncomputable def zjR : GS := inl T zjP zjQ zjO (zo Tryz.f113) (Tryz.f113.ntmps)
theorem zn4 : GSOK Tryz.prog 113 zjR := yV tok zrR fmo (Ht := zjQ) (fn := Tryz.f113) (Tryz.func113) (c := zjO) (by kernel_rfl) (by kernel_rfl) (by kernel_rfl)
end Go.Proofs.Y
namespace Go.Proofs.Y
open Go.Rb Go.Kx
noncomputable def z9k : Code := zg Tryz.f76
noncomputable def z9l : FuncId → Option GS := tabG [(113, zjR)]
theorem zin : ΓOK Tryz.prog z9l := z8 (zn4) (ze)
def z9m : HT := ⟨tabL [], tabH []⟩
abbrev z2E : List IT := []
abbrev z7V : List OT := [⟨.one (.sl 3 (.one (.int .i64))), false, [true]⟩]
set_option maxRecDepth 100000
noncomputable def ye : Option (List Int) := some [-1, -1, -1]
theorem zdW (x : PI z2E) : ye  = fnE T z9l z9m z9k (zo Tryz.f76) z2E z7V x := by kernel_rfl
noncomputable abbrev JF : GS := zp false z2E z7V fun x => ye 
theorem z0k : GSOK Tryz.prog 76 JF := zm tok zin fmo (Ht := z9m) (fn := Tryz.f76) (Tryz.func76) (c := z9k) (by kernel_rfl) (by kernel_rfl) (by kernel_rfl) (by decide +kernel) (by decide) zdW
end Go.Proofs.Y
namespace Go.Proofs.Y
open Go.Rb Go.Kx
noncomputable def zeU : Code := zg Tryz.f26
noncomputable def zeV : FuncId → Option GS := tabG [(75, z0D), (76, JF)]
theorem zoe : ΓOK Tryz.prog zeV := z8 (Ju) (z8 (z0k) (ze))
def zeW : HT := ⟨tabL [], tabH []⟩
abbrev z6t : List IT := []
abbrev zdd : List OT := [⟨.cons (.sl 95 (.cons (.sl 126 (.cons (.int .i64) (.cons (.int .i64) (.cons (.int .i64) (.one (.sl 4 (.one .bool))))))) (.one (.sl 73 (.cons (.int .i64) (.one (.int .i64))))))) (.cons (.sl 5 (.one (.int .u8))) (.cons (.sl 5 (.one (.int .u8))) (.cons (.bool) (.one (.sl 3 (.one (.int .i64))))))), true, []⟩]
set_option maxRecDepth 100000
noncomputable def jc : Option (List (List (Int × Int × Int × List Bool) × List (Int × Int)) × List Int × List Int × Bool × List Int) :=  z6 yu fun y => z6 ye fun y_1 => some (y, [], [], true, y_1)
theorem zio (x : PI z6t) : jc  = fnE T zeV zeW zeU (zo Tryz.f26) z6t zdd x := by kernel_rfl
noncomputable abbrev z8p : GS := zp false z6t zdd fun x => jc 
theorem z9n : GSOK Tryz.prog 26 z8p := zm tok zoe fmo (Ht := zeW) (fn := Tryz.f26) (Tryz.func26) (c := zeU) (by kernel_rfl) (by kernel_rfl) (by kernel_rfl) (by decide +kernel) (by decide) zio
end Go.Proofs.Y
namespace Go.Proofs.Y
open Go.Rb Go.Kx
abbrev Wv := Shf × List Int × List Int × Bool × List Int
def wv (s : Shf) (d : List UInt8 × List UInt8) (up : Bool) (rd : List Int) : Wv := (s, bytB d.1, bytB d.2, up, rd)
def rdE (n : Int) (up : Bool) : List Int → Int
 | [] => 0
 | v :: r => if v < -1 ∨ n < v ∨ (up = false ∧ ¬ v = -1) then 3 else rdE n up r
def chkL (s : Shf) (l : List Rc) (up : Bool) (rd : List Int) : Int :=
 if (zE l).2 = 0 then (if (zE l).1 = s then (if rd.length = 3 then rdE l.length up rd else 4) else 4) else (zE l).2
def chkW (s : Shf) (d : List UInt8 × List UInt8) (up : Bool) (rd : List Int) : Int :=
 if (zq d).2.2 = 0 then (if up = true then (if 0 < d.2.length then 4 else chkL s (zq d).2.1 up rd) else chkL s [] up rd) else (zq d).2.2
theorem zvo (rd : List Int) (n : Int) (up : Bool) (hl : rd.length < 4611686018427387904) :
  zk maxR (fun (x : Int) => ifB (ltI x (lenI rd)) (z6 (atI rd x) fun (y : Int) => ifB (ltI y (-1)) (mapO Sum.inr (some 3)) (ifB (gtI y n) (mapO Sum.inr (some 3)) (ifB (notB up) (ifB (neI y (-1)) (mapO Sum.inr (some 3)) (some (Sum.inl (wadd IntKind.i64 x 1)))) (some (Sum.inl (wadd IntKind.i64 x 1)))))) (mapO Sum.inr (some 0))) 0 = some (rdE n up rd) := by
 refine zQ rd (fun j (_ : Unit) => (j : Int)) (G := fun rest _ => some (rdE n up rest)) (P := fun _ _ => True) (s0 := ()) ?_ ?_ trivial (by omega)
 ·rintro j _ hj _ k hk
  have hat := zN hj
  generalize rd.getD j default = v at *
  simp only [za, zx, zd, zu]
  rw [zi, zb, if_pos (by omega), hat, z7, zi, zy, zC, zj, zF (by omega), hk () trivial, rdE]
  cases up with
  | true =>
   rw [Z0]
   by_cases c : v < -1 ∨ n < v ∨ (true = false ∧ ¬ v = -1)
   ·rw [if_pos c]
    by_cases c1 : v < -1
    ·rw [if_pos c1]
    ·rw [if_neg c1, if_pos (by rcases c with c | c | c; exact absurd c c1; exact c; cases c.1)]
   ·rw [if_neg c, if_neg (fun h => c (.inl h)), if_neg (fun h => c (.inr (.inl h)))]
  | false =>
   rw [ZA]
   by_cases c : v < -1 ∨ n < v ∨ (false = false ∧ ¬ v = -1)
   ·rw [if_pos c]
    by_cases c1 : v < -1
    ·rw [if_pos c1]
    ·rw [if_neg c1]
     by_cases c2 : n < v
     ·rw [if_pos c2]
     ·rw [if_neg c2, if_neg (by rcases c with c | c | c; exact absurd c c1; exact absurd c c2; exact c.2)]
   ·rw [if_neg c, if_neg (fun h => c (.inl h)), if_neg (fun h => c (.inr (.inl h))), if_pos (Classical.byContradiction fun h => c (.inr (.inr ⟨rfl, h⟩)))]
 ·rintro _ _ k
  simp only [za, zd]
  rw [zi, zb, if_neg (by omega)]; rfl
theorem zfD (d : List UInt8 × List UInt8) (h : (zq d).2.2 = 0) : (zq d).2.1.length ≤ 60002 := by
 unfold zq at h ⊢
 split at h
 ·rename_i hc
  rw [if_pos hc]
  have hl := Yz hc
  have n1 := zdN 60 d.1
  have n2 := zdN (60 - ((lnP 60 d.1).1.length : Int)) d.2
  simp only [List.length_append, JD]; omega
 ·rename_i hc; exact absurd h hc
theorem zip (most all : Int) : ∀ (ws : List (List UInt8)) (acc : List Rc), (∀ r ∈ acc, zA r = 0) → ∀ r ∈ (lnW most all ws acc).1, zA r = 0
 | [], acc, h => h
 | w :: ws, acc, h => by
  rw [lnW]
  split
  ·split
   ·exact h
   ·exact h
  ·split
   ·rename_i hp
    split
    ·exact h
    ·exact zip most all ws _ fun r hr => by
      rcases List.mem_append.1 hr with hr | hr
      ·exact h r hr
      ·rw [List.mem_singleton.1 hr]; exact (zjG hp).1
   ·exact h
theorem zdO (d : List UInt8 × List UInt8) : ∀ r ∈ (zq d).2.1, zA r = 0 := by
 unfold zq
 split
 ·intro r hr
  rcases List.mem_append.1 hr with hr | hr
  ·exact zip _ _ _ [] (by simp) r hr
  ·exact zip _ _ _ [] (by simp) r hr
 ·intro r hr; cases hr
theorem z0Y (s : Shf) (d : List UInt8 × List UInt8) (up : Bool) (rd : List Int) (h1 : d.1.length < 4611686018427387904) (h2 : d.2.length < 4611686018427387904) (hrd : rd.length < 4611686018427387904) : yd (wv s d up rd) = some (chkW s d up rd) := by
 unfold yd chkW
 simp only [wv]
 rw [z3L d h1 h2, z7]
 simp only
 rw [zj]
 by_cases hr : (zq d).2.2 = 0
 ·have hn := zfD d hr
  have hok := zdO d
  rw [if_pos hr, if_pos hr]
  have tailL : ∀ l : List Rc, l.length < 4611686018427387904 → (∀ r ∈ l, r.2.2.2.length < 4611686018427387904) → (z6 (y0 l) fun (y_1 : List (List (Int × Int × Int × List Bool) × List (Int × Int)) × Int) =>
    ifB (neI (Prod.snd y_1) 0) (some (Prod.snd y_1)) (z6 (yz (Prod.fst y_1) s) fun (y_2 : Bool) => ifB (notB y_2) (some 4) (ifB (neI (lenI rd) 3) (some 4)
     (zk maxR (fun (x : Int) => ifB (ltI x (lenI rd)) (z6 (atI rd x) fun (y_3 : Int) => ifB (ltI y_3 (-1)) (mapO Sum.inr (some 3)) (ifB (gtI y_3 (lenI l)) (mapO Sum.inr (some 3)) (ifB (notB up) (ifB (neI y_3 (-1)) (mapO Sum.inr (some 3)) (some (Sum.inl (wadd IntKind.i64 x 1)))) (some (Sum.inl (wadd IntKind.i64 x 1)))))) (mapO Sum.inr (some 0))) 0)))) = some (chkL s l up rd) := by
   intro l hl he
   unfold chkL
   rw [zcD l hl he, z7, zj, zvo rd (lenI l) up hrd]
   by_cases c : (zE l).2 = 0
   ·rw [if_pos c, if_pos c, zcB _ _ (z8l l), z7, zC, zO, zj, zb, zb]
    by_cases c2 : (zE l).1 = s
    ·rw [if_pos c2, if_pos c2]
     by_cases c3 : rd.length = 3
     ·rw [if_pos (by omega), if_pos c3]
     ·rw [if_neg (by omega), if_neg c3]
    ·rw [if_neg c2, if_neg c2]
   ·rw [if_neg c, if_neg c]
  have t1 := tailL (zq d).2.1 (by omega) fun r hr => z45 (hok r hr)
  have t0 := tailL [] (by decide) (by simp)
  simp only [show lenI ([] : List Rc) = 0 from rfl] at t0
  rw [t1, t0]
  cases up with
  | true =>
   rw [Z0, if_pos rfl, zy, zb, ZC]
   simp only [notB, Bool.not_true]
   rw [ZA]
   by_cases c : 0 < d.2.length
   ·rw [if_pos (by omega), if_pos c]
   ·rw [if_neg (by omega), if_neg c]
  | false =>
   rw [ZA]
   simp only [notB, Bool.not_false]
   rw [Z0, if_neg (by decide)]
 ·rw [if_neg hr, if_neg hr]
theorem zqi (s : Shf) (hc : chkS s = 0) : z47 s = some s := by
 obtain ⟨h4, hr⟩ := chkS_zero.1 hc
 obtain ⟨r0, r1, r2, r3, rfl⟩ := len4 h4
 simp only [List.mem_cons, List.not_mem_nil, or_false, forall_eq_or_imp, forall_eq] at hr
 obtain ⟨a0, a1, a2, a3⟩ := hr
 have b0 := (Zm a0).1; have b1 := (Zm a1).1; have b2 := (Zm a2).1; have b3 := (Zm a3).1
 unfold z47
 exact zgR r0 r1 r2 r3 (yn a0) (yn a1) (yn a2) (yn a3) b0 b1 b2 b3 (fun y_2 y_4 y_6 y_8 x x_1 x_2 x_3 => some [(Prod.snd x, y_2), (Prod.snd x_1, y_4), (Prod.snd x_2, y_6), (Prod.snd x_3, y_8)])
theorem zjS {a : List Int} (h : a.length ≤ 1000000000) : z3y a = some a := z1s 8 a (by omega) (by omega)
theorem z6u (s : Shf) (d : List UInt8 × List UInt8) (up : Bool) (rd : List Int) (hc : chkS s = 0) (hd : d.1.length + d.2.length ≤ 60000) (hrd : rd.length = 3) : yp (wv s d up rd) = some (wv s d up rd) := by
 unfold yp
 simp only [wv]
 rw [zqi s hc, z7, zjS (by omega), z7, JE _ (by omega), z7, JE _ (by omega)]
 rfl
end Go.Proofs.Y
namespace Go.Proofs.Y
open Go.Rb Go.Kx
noncomputable def zn5 : Code := zg Tryz.f108
noncomputable def zn6 : FuncId → Option GS := tabG [(31, z65), (32, zhj), (141, zcW), (75, z0D), (76, JF), (33, zeQ)]
theorem zto : ΓOK Tryz.prog zn6 := z8 (z7s) (z8 (zks) (z8 (zhd) (z8 (Ju) (z8 (z0k) (z8 (zik) (ze))))))
def zn7 : HT := ⟨tabL [], tabH []⟩
noncomputable def zn8 : GS := inl T zn6 zn7 zn5 (zo Tryz.f108) (Tryz.f108.ntmps)
theorem zof : GSOK Tryz.prog 108 zn8 := yV tok zto fmo (Ht := zn7) (fn := Tryz.f108) (Tryz.func108) (c := zn5) (by kernel_rfl) (by kernel_rfl) (by kernel_rfl)
end Go.Proofs.Y
namespace Go.Proofs.Y
open Go.Rb Go.Kx
noncomputable def zjT : Code := zg Tryz.f61
noncomputable def zjU : FuncId → Option GS := tabG [(34, JC), (75, z0D), (76, JF), (28, Jv), (108, zn8)]
theorem zrS : ΓOK Tryz.prog zjU := z8 (z0j) (z8 (Ju) (z8 (z0k) (z8 (z0i) (z8 (zof) (ze)))))
def zjV : HT := ⟨tabL [], tabH []⟩
noncomputable def zde : GS := inl T zjU zjV zjT (zo Tryz.f61) (Tryz.f61.ntmps)
theorem zdf : GSOK Tryz.prog 61 zde := yV tok zrS fmo (Ht := zjV) (fn := Tryz.f61) (Tryz.func61) (c := zjT) (by kernel_rfl) (by kernel_rfl) (by kernel_rfl)
end Go.Proofs.Y
namespace Go.Proofs.Y
open Go.Rb Go.Kx
noncomputable def zhs : Code := zg Tryz.f23
noncomputable def zht : FuncId → Option GS := tabG [(24, VY), (60, z6s), (61, zde)]
theorem zqj : ΓOK Tryz.prog zht := z8 (VJ) (z8 (z7Q) (z8 (zdf) (ze)))
def zhu : HT := ⟨tabL [], tabH []⟩
abbrev z8q : List IT := [.v (.cons (.sl 95 (.cons (.sl 126 (.cons (.int .i64) (.cons (.int .i64) (.cons (.int .i64) (.one (.sl 4 (.one .bool))))))) (.one (.sl 73 (.cons (.int .i64) (.one (.int .i64))))))) (.cons (.sl 5 (.one (.int .u8))) (.cons (.sl 5 (.one (.int .u8))) (.cons (.bool) (.one (.sl 3 (.one (.int .i64)))))))) true, .v (.cons (.int .i64) (.cons (.int .i64) (.cons (.int .i64) (.one (.sl 77 (.cons (.int .i64) (.cons (.int .i64) (.one (.int .i64))))))))) true]
abbrev zeX : List OT := [⟨.cons (.sl 95 (.cons (.sl 126 (.cons (.int .i64) (.cons (.int .i64) (.cons (.int .i64) (.one (.sl 4 (.one .bool))))))) (.one (.sl 73 (.cons (.int .i64) (.one (.int .i64))))))) (.cons (.sl 5 (.one (.int .u8))) (.cons (.sl 5 (.one (.int .u8))) (.cons (.bool) (.one (.sl 3 (.one (.int .i64))))))), true, []⟩, ⟨.one (.int .i64), false, []⟩]
set_option maxRecDepth 100000
noncomputable def z2F : List (List (Int × Int × Int × List Bool) × List (Int × Int)) × List Int × List Int × Bool × List Int → Int × Int × Int × List (Int × Int × Int) → Option ((List (List (Int × Int × Int × List Bool) × List (Int × Int)) × List Int × List Int × Bool × List Int) × Int) := fun a b => z6 (yd (a.1, a.2.1, a.2.2.1, a.2.2.2.1, a.2.2.2.2)) fun y => ifB (neI y 0) (some (([], [], [], false, []), y)) (z6 (yp (a.1, a.2.1, a.2.2.1, a.2.2.2.1, a.2.2.2.2)) fun y => ifB (ltI b.1 1) (some (([], [], [], false, []), 4)) (ifB (gtI b.1 9) (some (([], [], [], false, []), 4)) (ifB (eqB y.2.2.2.1 (eqI b.1 8)) (some (([], [], [], false, []), 7)) (ifB (eqI b.1 5) (ifB (ltI b.2.2.1 0) (some (([], [], [], false, []), 5)) (ifB (geI b.2.2.1 (lenI y.2.2.2.2)) (some (([], [], [], false, []), 5)) (ifB (eqI b.1 6) (ifB (ltL b.2.2.1 y.2.2.2.2) (z6 (atN y.2.2.2.2 (natI b.2.2.1)) fun y_1 => some ((y.1, y.2.1, y.2.2.1, y.2.2.2.1, setN y.2.2.2.2 (natI b.2.2.1) (-1)), 0)) none) (z6 (ZO (y.2.1, y.2.2.1)) fun y_1 => ifB (eqI y_1.2.2 0) (ifB (ltL b.2.2.1 y.2.2.2.2) (z6 (atN y.2.2.2.2 (natI b.2.2.1)) fun y_2 => ifB (neI y_1.2.2 0) (some (([], [], [], false, []), y_1.2.2)) (some ((y.1, y.2.1, y.2.2.1, y.2.2.2.1, setN y.2.2.2.2 (natI b.2.2.1) (lenI y_1.2.1)), 0))) none) (ifB (neI y_1.2.2 0) (some (([], [], [], false, []), y_1.2.2)) (some ((y.1, y.2.1, y.2.2.1, y.2.2.2.1, y.2.2.2.2), 0))))))) (ifB (eqI b.1 6) (ifB (ltI b.2.2.1 0) (some (([], [], [], false, []), 5)) (ifB (geI b.2.2.1 (lenI y.2.2.2.2)) (some (([], [], [], false, []), 5)) (ifB (eqI b.1 6) (ifB (ltL b.2.2.1 y.2.2.2.2) (z6 (atN y.2.2.2.2 (natI b.2.2.1)) fun y_1 => some ((y.1, y.2.1, y.2.2.1, y.2.2.2.1, setN y.2.2.2.2 (natI b.2.2.1) (-1)), 0)) none) (z6 (ZO (y.2.1, y.2.2.1)) fun y_1 => ifB (eqI y_1.2.2 0) (ifB (ltL b.2.2.1 y.2.2.2.2) (z6 (atN y.2.2.2.2 (natI b.2.2.1)) fun y_2 => ifB (neI y_1.2.2 0) (some (([], [], [], false, []), y_1.2.2)) (some ((y.1, y.2.1, y.2.2.1, y.2.2.2.1, setN y.2.2.2.2 (natI b.2.2.1) (lenI y_1.2.1)), 0))) none) (ifB (neI y_1.2.2 0) (some (([], [], [], false, []), y_1.2.2)) (some ((y.1, y.2.1, y.2.2.1, y.2.2.2.1, y.2.2.2.2), 0))))))) (ifB (eqI b.1 7) (z6 yu fun y_1 => z6 ye fun y_2 => some ((y_1, y.2.1, y.2.2.1, false, y_2), 0)) (ifB (eqI b.1 8) (z6 (ZO (y.2.1, y.2.2.1)) fun y_1 => ifB (neI y_1.2.2 0) (ifB (neI y_1.2.2 0) (some (([], [], [], false, []), y_1.2.2)) (some ((y.1, y.2.1, y.2.2.1, y.2.2.2.1, y.2.2.2.2), 0))) (z6 (y0 y_1.2.1) fun y_2 => ifB (eqI y_2.2 0) (ifB (neI y_2.2 0) (some (([], [], [], false, []), y_2.2)) (some ((y_2.1, y_1.1.1, y_1.1.2, true, y.2.2.2.2), 0))) (ifB (neI y_2.2 0) (some (([], [], [], false, []), y_2.2)) (some ((y.1, y.2.1, y.2.2.1, y.2.2.2.1, y.2.2.2.2), 0))))) (ifB (eqI b.1 1) (z6 (y5 y.1 (1, 0, 0, b.2.2.2)) fun y_1 => ifB (neI y_1.2 0) (ifB (neI y_1.2 0) (some (([], [], [], false, []), y_1.2)) (some ((y.1, y.2.1, y.2.2.1, y.2.2.2.1, y.2.2.2.2), 0))) (z6 (yU (y.2.1, y.2.2.1) (1, 0, 0, b.2.2.2)) fun y_2 => ifB (neI y_2.2 0) (ifB (neI y_2.2 0) (some (([], [], [], false, []), y_2.2)) (some ((y.1, y.2.1, y.2.2.1, y.2.2.2.1, y.2.2.2.2), 0))) (ifB (eqI b.1 9) (z6 (Yw (y_2.1.1, y_2.1.2) (maxI 0 (minI b.2.2.1 (lenI y_2.1.2)))) fun y_3 => ifB (eqI y_3.2 0) (z6 yu fun y => z6 ye fun y_4 => ifB (neI y_3.2 0) (some (([], [], [], false, []), y_3.2)) (some ((y, y_3.1.1, y_3.1.2, false, y_4), 0))) (ifB (neI y_3.2 0) (some (([], [], [], false, []), y_3.2)) (some ((y.1, y.2.1, y.2.2.1, y.2.2.2.1, y.2.2.2.2), 0)))) (z6 (yC (y_2.1.1, y_2.1.2)) fun y_3 => ifB (eqI y_3.2 0) (ifB (neI y_3.2 0) (some (([], [], [], false, []), y_3.2)) (some ((y_1.1, y_3.1.1, y_3.1.2, y.2.2.2.1, y.2.2.2.2), 0))) (ifB (neI y_3.2 0) (some (([], [], [], false, []), y_3.2)) (some ((y.1, y.2.1, y.2.2.1, y.2.2.2.1, y.2.2.2.2), 0))))))) (ifB (eqI b.1 9) (z6 (y5 y.1 (1, 0, 0, b.2.2.2)) fun y_1 => ifB (neI y_1.2 0) (ifB (neI y_1.2 0) (some (([], [], [], false, []), y_1.2)) (some ((y.1, y.2.1, y.2.2.1, y.2.2.2.1, y.2.2.2.2), 0))) (z6 (yU (y.2.1, y.2.2.1) (1, 0, 0, b.2.2.2)) fun y_2 => ifB (neI y_2.2 0) (ifB (neI y_2.2 0) (some (([], [], [], false, []), y_2.2)) (some ((y.1, y.2.1, y.2.2.1, y.2.2.2.1, y.2.2.2.2), 0))) (ifB (eqI b.1 9) (z6 (Yw (y_2.1.1, y_2.1.2) (maxI 0 (minI b.2.2.1 (lenI y_2.1.2)))) fun y_3 => ifB (eqI y_3.2 0) (z6 yu fun y => z6 ye fun y_4 => ifB (neI y_3.2 0) (some (([], [], [], false, []), y_3.2)) (some ((y, y_3.1.1, y_3.1.2, false, y_4), 0))) (ifB (neI y_3.2 0) (some (([], [], [], false, []), y_3.2)) (some ((y.1, y.2.1, y.2.2.1, y.2.2.2.1, y.2.2.2.2), 0)))) (z6 (yC (y_2.1.1, y_2.1.2)) fun y_3 => ifB (eqI y_3.2 0) (ifB (neI y_3.2 0) (some (([], [], [], false, []), y_3.2)) (some ((y_1.1, y_3.1.1, y_3.1.2, y.2.2.2.1, y.2.2.2.2), 0))) (ifB (neI y_3.2 0) (some (([], [], [], false, []), y_3.2)) (some ((y.1, y.2.1, y.2.2.1, y.2.2.2.1, y.2.2.2.2), 0))))))) (ifB (eqI b.1 4) (z6 (y5 y.1 (4, 0, b.2.2.1, [])) fun y_1 => ifB (neI y_1.2 0) (ifB (neI y_1.2 0) (some (([], [], [], false, []), y_1.2)) (some ((y.1, y.2.1, y.2.2.1, y.2.2.2.1, y.2.2.2.2), 0))) (z6 (yU (y.2.1, y.2.2.1) (4, 0, b.2.2.1, [])) fun y_2 => ifB (neI y_2.2 0) (ifB (neI y_2.2 0) (some (([], [], [], false, []), y_2.2)) (some ((y.1, y.2.1, y.2.2.1, y.2.2.2.1, y.2.2.2.2), 0))) (z6 (yC (y_2.1.1, y_2.1.2)) fun y_3 => ifB (eqI y_3.2 0) (ifB (neI y_3.2 0) (some (([], [], [], false, []), y_3.2)) (some ((y_1.1, y_3.1.1, y_3.1.2, y.2.2.2.1, y.2.2.2.2), 0))) (ifB (neI y_3.2 0) (some (([], [], [], false, []), y_3.2)) (some ((y.1, y.2.1, y.2.2.1, y.2.2.2.1, y.2.2.2.2), 0)))))) (z6 (y5 y.1 (b.1, b.2.1, b.2.2.1, [])) fun y_1 => ifB (neI y_1.2 0) (ifB (neI y_1.2 0) (some (([], [], [], false, []), y_1.2)) (some ((y.1, y.2.1, y.2.2.1, y.2.2.2.1, y.2.2.2.2), 0))) (z6 (yU (y.2.1, y.2.2.1) (b.1, b.2.1, b.2.2.1, [])) fun y_2 => ifB (neI y_2.2 0) (ifB (neI y_2.2 0) (some (([], [], [], false, []), y_2.2)) (some ((y.1, y.2.1, y.2.2.1, y.2.2.2.1, y.2.2.2.2), 0))) (z6 (yC (y_2.1.1, y_2.1.2)) fun y_3 => ifB (eqI y_3.2 0) (ifB (neI y_3.2 0) (some (([], [], [], false, []), y_3.2)) (some ((y_1.1, y_3.1.1, y_3.1.2, y.2.2.2.1, y.2.2.2.2), 0))) (ifB (neI y_3.2 0) (some (([], [], [], false, []), y_3.2)) (some ((y.1, y.2.1, y.2.2.1, y.2.2.2.1, y.2.2.2.2), 0))))))))))))))))
theorem zkv (x : PI z8q) : z2F (x.1) (x.2) = fnE T zht zhu zhs (zo Tryz.f23) z8q zeX x := by kernel_rfl
noncomputable abbrev zhv : GS := zp false z8q zeX fun x => z2F (x.1) (x.2)
theorem zkw : GSOK Tryz.prog 23 zhv := zm tok zqj fmo (Ht := zhu) (fn := Tryz.f23) (Tryz.func23) (c := zhs) (by kernel_rfl) (by kernel_rfl) (by kernel_rfl) (by decide +kernel) (by decide) zkv
end Go.Proofs.Y
