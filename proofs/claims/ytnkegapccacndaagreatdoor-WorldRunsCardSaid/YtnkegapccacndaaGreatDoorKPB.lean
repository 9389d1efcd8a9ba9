/-
  What is proved, part by part: what shelf.Merge comes to. what shelf.Drop$1 comes to. what slices.IndexFunc[[]api.Block,api.Block] comes to. what slices.DeleteFunc[[]api.Block,api.Block] comes to. what shelf.Drop comes to. what store.Next comes to. what shelf.New comes to. what store.Replay comes to. What is stated: the program's data as plain Lean types. how loops run; plain operations in plain words. records and what is asked of them, as a plain function. slices cloned, held against each other, put together: in plain words, for elements of any kind. a record checked by the program. what slices.Equal[[]api.Point,api.Point] comes to. what slices.Equal[[]bool,bool] comes to. what block.Same comes to. what rainbookref.SameBlock comes to. what slices.EqualFunc[[]api.Block,[]api.Block,api.Block,api.Block] comes to. what shelf.Same$1 comes to. what rainbookref.SameShelf$1 comes to. what slices.EqualFunc[[]api.Row,[]api.Row,api.Row,api.Row] comes to. what rainbookref.SameShelf comes to. what shelf.Same comes to. what rainbooklaw.at comes to. what rainbookref.FreshShelf comes to. what shelf.All comes to. what query.Range$1 comes to. what slices.IndexFunc[[]api.Point,api.Point] comes to. what slices.DeleteFunc[[]api.Point,api.Point] comes to. what query.Range comes to. what rainbookref.Ranged comes to. numbers as bits, as plain functions. numbers as bits, further plain facts. numbers as bits: what is put is taken. small numbers in groups of four bits, as plain functions. what is put in groups of four bits is taken, and no two ways write one number. when points rise, as a plain function. points in bits, as plain functions. points that are packed are unpacked, just so many; what is unpacked is packed as it was; beginnings; steady points. blocks, as plain functions; of two merged both are there. numbers as bits: what the program's functions come to, in plain words. numbers either way as bits: what the program's functions come to, in plain words. numbers either way as bits: what the document's functions come to, in plain words. Conditions: none.
-/
import Derived.Test.YtnkegapccacndaaGreatDoorKPA
import Derived.Test.YtnkegapccacndaaGreatDoorKED
set_option linter.unusedVariables false
set_option linter.unusedSimpArgs false
set_option linter.unnecessarySimpa false
set_option maxRecDepth 4000
namespace Go.Proofs.Y
open Go.Rb Go.Kx
noncomputable def zac : Code := zj Tryz.f82
noncomputable def zad : FuncId → Option GS := tabG [(78, YT), (107, jM), (115, zab), (116, ziA)]
theorem zjE : ΓOK Tryz.prog zad := z8 (YG) (z8 (jg) (z8 (zeI) (z8 (zlf) (zf))))
def zae : HT := ⟨tabL [], tabH [(15, [.frzq 3 0 0, .frzq 3 0 1, .frzq 3 0 2, .frzq 3 0 3, .frzq 3 0 4, .frzq 3 0 5, .frzq 3 0 6, .frzq 3 0 7, .pack 3 0 (.cons (.sl 126 (.cons (.int .i64) (.cons (.int .i64) (.cons (.int .i64) (.one (.sl 4 (.one .bool))))))) (.one (.sl 73 (.cons (.int .i64) (.one (.int .i64))))))])]⟩
abbrev z30 : List IT := [.v (.one (.sl 95 (.cons (.sl 126 (.cons (.int .i64) (.cons (.int .i64) (.cons (.int .i64) (.one (.sl 4 (.one .bool))))))) (.one (.sl 73 (.cons (.int .i64) (.one (.int .i64)))))))) true, .v (.one (.int .i64)) false, .v (.one (.int .i64)) false]
abbrev z8z : List OT := [⟨.one (.sl 95 (.cons (.sl 126 (.cons (.int .i64) (.cons (.int .i64) (.cons (.int .i64) (.one (.sl 4 (.one .bool))))))) (.one (.sl 73 (.cons (.int .i64) (.one (.int .i64))))))), true, []⟩, ⟨.one (.int .i64), false, []⟩]
set_option maxRecDepth 100000
noncomputable def VO : List (List (Int × Int × Int × List Bool) × List (Int × Int)) → Int → Int → Option (List (List (Int × Int × Int × List Bool) × List (Int × Int)) × Int) := fun a b c => z6 (yL a) fun y => ifB (neI y 0) (some ([], y)) (ifB (ltI b 0) (some ([], 5)) (ifB (geI b (lenI a)) (some ([], 5)) (z6 (Yz a) fun y => z6 (four y) fun (y : (List (Int × Int × Int × List Bool) × List (Int × Int)) × (List (Int × Int × Int × List Bool) × List (Int × Int)) × (List (Int × Int × Int × List Bool) × List (Int × Int)) × List (Int × Int × Int × List Bool) × List (Int × Int)) => z6 (Ze y.1.1) fun y_1 => z6 (Zq y.1.2) fun y_2 => zi maxR (fun (x : Int × List (Int × Int × Int × List Bool)) => ifB (ltI x.1 (lenI y.1.1)) (z6 (atI y.1.1 x.1) fun y => z6 (zT (y.1, y.2.1, y.2.2.1, y.2.2.2)) fun y => ifB (ltL x.1 x.2) (z6 (atN x.2 (natI x.1)) fun y_3 => some (Sum.inl (wadd .i64 x.1 1, setN x.2 (natI x.1) (y.1, y.2.1, y.2.2.1, y.2.2.2)))) none) (mapO Sum.inr (z6 (Ze y.2.1.1) fun y_3 => z6 (Zq y.2.1.2) fun y_4 => zi maxR (fun (x_1 : Int × List (Int × Int × Int × List Bool)) => ifB (ltI x_1.1 (lenI y.2.1.1)) (z6 (atI y.2.1.1 x_1.1) fun y => z6 (zT (y.1, y.2.1, y.2.2.1, y.2.2.2)) fun y => ifB (ltL x_1.1 x_1.2) (z6 (atN x_1.2 (natI x_1.1)) fun y_5 => some (Sum.inl (wadd .i64 x_1.1 1, setN x_1.2 (natI x_1.1) (y.1, y.2.1, y.2.2.1, y.2.2.2)))) none) (mapO Sum.inr (z6 (Ze y.2.2.1.1) fun y_5 => z6 (Zq y.2.2.1.2) fun y_6 => zi maxR (fun (x_2 : Int × List (Int × Int × Int × List Bool)) => ifB (ltI x_2.1 (lenI y.2.2.1.1)) (z6 (atI y.2.2.1.1 x_2.1) fun y => z6 (zT (y.1, y.2.1, y.2.2.1, y.2.2.2)) fun y => ifB (ltL x_2.1 x_2.2) (z6 (atN x_2.2 (natI x_2.1)) fun y_7 => some (Sum.inl (wadd .i64 x_2.1 1, setN x_2.2 (natI x_2.1) (y.1, y.2.1, y.2.2.1, y.2.2.2)))) none) (mapO Sum.inr (z6 (Ze y.2.2.2.1) fun y_7 => z6 (Zq y.2.2.2.2) fun y_8 => zi maxR (fun (x_3 : Int × List (Int × Int × Int × List Bool)) => ifB (ltI x_3.1 (lenI y.2.2.2.1)) (z6 (atI y.2.2.2.1 x_3.1) fun y => z6 (zT (y.1, y.2.1, y.2.2.1, y.2.2.2)) fun y => ifB (ltL x_3.1 x_3.2) (z6 (atN x_3.2 (natI x_3.1)) fun y_9 => some (Sum.inl (wadd .i64 x_3.1 1, setN x_3.2 (natI x_3.1) (y.1, y.2.1, y.2.2.1, y.2.2.2)))) none) (mapO Sum.inr (ifB (eqI b 0) (ifB (ltI c 0) (some ([], 3)) (ifB (geI c (wsub .i64 (lenI x.2) 1)) (some ([], 3)) (ifB (ltL c x.2) (z6 (atN x.2 (natI c)) fun y => ifB (ltL (wadd .i64 c 1) x.2) (z6 (atN x.2 (natI (wadd .i64 c 1))) fun y_9 => z6 (Ya (y.1, y.2.1, y.2.2.1, y.2.2.2) (y_9.1, y_9.2.1, y_9.2.2.1, y_9.2.2.2)) fun y => ifB (neI y.2 0) (some ([], y.2)) (ifB (ltL c x.2) (z6 (atN x.2 (natI c)) fun y_10 => z6 (vY (setN x.2 (natI c) (y.1.1, y.1.2.1, y.1.2.2.1, y.1.2.2.2)) (wadd .i64 c 1) (wadd .i64 c 2)) fun y => some ([(y, y_2), (x_1.2, y_4), (x_2.2, y_6), (x_3.2, y_8)], 0)) none)) none) none))) (ifB (eqI b 1) (ifB (ltI c 0) (some ([], 3)) (ifB (geI c (wsub .i64 (lenI x_1.2) 1)) (some ([], 3)) (ifB (ltL c x_1.2) (z6 (atN x_1.2 (natI c)) fun y => ifB (ltL (wadd .i64 c 1) x_1.2) (z6 (atN x_1.2 (natI (wadd .i64 c 1))) fun y_9 => z6 (Ya (y.1, y.2.1, y.2.2.1, y.2.2.2) (y_9.1, y_9.2.1, y_9.2.2.1, y_9.2.2.2)) fun y => ifB (neI y.2 0) (some ([], y.2)) (ifB (ltL c x_1.2) (z6 (atN x_1.2 (natI c)) fun y_10 => z6 (vY (setN x_1.2 (natI c) (y.1.1, y.1.2.1, y.1.2.2.1, y.1.2.2.2)) (wadd .i64 c 1) (wadd .i64 c 2)) fun y => some ([(x.2, y_2), (y, y_4), (x_2.2, y_6), (x_3.2, y_8)], 0)) none)) none) none))) (ifB (eqI b 2) (ifB (ltI c 0) (some ([], 3)) (ifB (geI c (wsub .i64 (lenI x_2.2) 1)) (some ([], 3)) (ifB (ltL c x_2.2) (z6 (atN x_2.2 (natI c)) fun y => ifB (ltL (wadd .i64 c 1) x_2.2) (z6 (atN x_2.2 (natI (wadd .i64 c 1))) fun y_9 => z6 (Ya (y.1, y.2.1, y.2.2.1, y.2.2.2) (y_9.1, y_9.2.1, y_9.2.2.1, y_9.2.2.2)) fun y => ifB (neI y.2 0) (some ([], y.2)) (ifB (ltL c x_2.2) (z6 (atN x_2.2 (natI c)) fun y_10 => z6 (vY (setN x_2.2 (natI c) (y.1.1, y.1.2.1, y.1.2.2.1, y.1.2.2.2)) (wadd .i64 c 1) (wadd .i64 c 2)) fun y => some ([(x.2, y_2), (x_1.2, y_4), (y, y_6), (x_3.2, y_8)], 0)) none)) none) none))) (ifB (eqI b 3) (ifB (ltI c 0) (some ([], 3)) (ifB (geI c (wsub .i64 (lenI x_3.2) 1)) (some ([], 3)) (ifB (ltL c x_3.2) (z6 (atN x_3.2 (natI c)) fun y => ifB (ltL (wadd .i64 c 1) x_3.2) (z6 (atN x_3.2 (natI (wadd .i64 c 1))) fun y_9 => z6 (Ya (y.1, y.2.1, y.2.2.1, y.2.2.2) (y_9.1, y_9.2.1, y_9.2.2.1, y_9.2.2.2)) fun y => ifB (neI y.2 0) (some ([], y.2)) (ifB (ltL c x_3.2) (z6 (atN x_3.2 (natI c)) fun y_10 => z6 (vY (setN x_3.2 (natI c) (y.1.1, y.1.2.1, y.1.2.2.1, y.1.2.2.2)) (wadd .i64 c 1) (wadd .i64 c 2)) fun y => some ([(x.2, y_2), (x_1.2, y_4), (x_2.2, y_6), (y, y_8)], 0)) none)) none) none))) none)))))) (0, y_7)))) (0, y_5)))) (0, y_3)))) (0, y_1))))
theorem zeJ (x : PI z30) : VO (x.1) (x.2.1) (x.2.2) = fnE T zad zae zac (zo Tryz.f82) z30 z8z x := by kernel_rfl
noncomputable abbrev zaf : GS := zq false z30 z8z fun x => VO (x.1) (x.2.1) (x.2.2)
theorem zeK : GSOK Tryz.prog 82 zaf := zm tok zjE fmo (Ht := zae) (fn := Tryz.f82) (Tryz.func82) (c := zac) (by kernel_rfl) (by kernel_rfl) (by kernel_rfl) (by decide +kernel) (by decide) zeJ
end Go.Proofs.Y
namespace Go.Proofs.Y
open Go.Rb Go.Kx
noncomputable def z8A : Code := zj Tryz.f118
noncomputable def z8B : FuncId → Option GS := tabG []
theorem zhv : ΓOK Tryz.prog z8B := zf
def z8C : HT := ⟨tabL [], tabH []⟩
noncomputable def Jj : GS := inl T z8B z8C z8A (zo Tryz.f118) (Tryz.f118.ntmps)
theorem z07 : GSOK Tryz.prog 118 Jj := yR tok zhv fmo (Ht := z8C) (fn := Tryz.f118) (Tryz.func118) (c := z8A) (by kernel_rfl) (by kernel_rfl) (by kernel_rfl)
end Go.Proofs.Y
namespace Go.Proofs.Y
open Go.Rb Go.Kx
noncomputable def zbA : Code := zj Tryz.f147
noncomputable def zbB : FuncId → Option GS := tabG [(118, Jj)]
theorem zlg : ΓOK Tryz.prog zbB := z8 (z07) (zf)
def zbC : HT := ⟨tabL [(2, .it [] (dyn [.t 8 (.int .i64)]))], tabH []⟩
noncomputable def zbD : GS := inl T zbB zbC zbA (zo Tryz.f147) (Tryz.f147.ntmps)
theorem zg2 : GSOK Tryz.prog 147 zbD := yR tok zlg fmo (Ht := zbC) (fn := Tryz.f147) (Tryz.func147) (c := zbA) (by kernel_rfl) (by kernel_rfl) (by kernel_rfl)
end Go.Proofs.Y
namespace Go.Proofs.Y
open Go.Rb Go.Kx
noncomputable def zag : Code := zj Tryz.f117
noncomputable def zah : FuncId → Option GS := tabG [(147, zbD), (118, Jj)]
theorem zjF : ΓOK Tryz.prog zah := z8 (zg2) (z8 (z07) (zf))
def zai : HT := ⟨tabL [(5, .it [] (dyn [.t 5 (.int .i64), .t 6 (.int .i64), .a 0 126 (.cons (.int .i64) (.cons (.int .i64) (.cons (.int .i64) (.one (.sl 4 (.one .bool))))))]))], tabH [(5, [.touch 0])]⟩
abbrev z32 : List WA := [.f 118 (.one (.int .i64))]
abbrev z8D : List OT := [⟨.one (.sl 126 (.cons (.int .i64) (.cons (.int .i64) (.cons (.int .i64) (.one (.sl 4 (.one .bool))))))), false, []⟩]
set_option maxRecDepth 100000
noncomputable def YA : List (Int × Int × Int × List Bool) → Int → Option (List (Int × Int × Int × List Bool)) := fun a b => zi maxR (fun (x : Int) => ifB (ltI x (lenI a)) (ifB (ltL x a) (z6 (atN a (natI x)) fun y => ifB (ltI y.2.2.1 b) (mapO Sum.inr (ifB (eqI x (-1)) (some a) (zi maxR (fun (x : Int × Int × List (Int × Int × Int × List Bool)) => ifB (ltI x.2.1 (lenI x.2.2)) (ifB (ltL x.2.1 x.2.2) (z6 (atN x.2.2 (natI x.2.1)) fun y => ifB (notB (ltI y.2.2.1 b)) (ifB (ltL x.1 x.2.2) (z6 (atN x.2.2 (natI x.1)) fun y_1 => some (Sum.inl (wadd .i64 x.1 1, wadd .i64 x.2.1 1, setN x.2.2 (natI x.1) (y.1, y.2.1, y.2.2.1, y.2.2.2)))) none) (some (Sum.inl (x.1, wadd .i64 x.2.1 1, x.2.2)))) none) (mapO Sum.inr (ifB (in1 x.2.2 x.1) (ifB (inN x.2.2 (addN 0 (natI x.1)) (Zh (lenN x.2.2) x.1)) (ifB (in1 (zL x.2.2 (addN 0 (natI x.1)) (repN (Zh (lenN x.2.2) x.1) (0, 0, 0, []))) x.1) (ifB (inN (zL x.2.2 (addN 0 (natI x.1)) (repN (Zh (lenN x.2.2) x.1) (0, 0, 0, []))) 0 (natI x.1)) (some (subN (zL x.2.2 (addN 0 (natI x.1)) (repN (Zh (lenN x.2.2) x.1) (0, 0, 0, []))) 0 (natI x.1))) none) none) none) none))) (x, wadd .i64 x 1, a)))) (some (Sum.inl (wadd .i64 x 1)))) none) (mapO Sum.inr (some a))) 0
theorem zeL (rows : List (DenR (.cons (.int .i64) (.cons (.int .i64) (.cons (.int .i64) (.one (.sl 4 (.one .bool)))))))) (x : PW z32) : YA rows (x.1) = fnM T zah zai zag (zo Tryz.f117) 126 (.cons (.int .i64) (.cons (.int .i64) (.cons (.int .i64) (.one (.sl 4 (.one .bool)))))) z32 z8D rows x := by kernel_rfl
noncomputable abbrev zaj : GS := zpP 126 (.cons (.int .i64) (.cons (.int .i64) (.cons (.int .i64) (.one (.sl 4 (.one .bool)))))) z32 z8D fun rows x => YA rows (x.1)
theorem zeM : GSOK Tryz.prog 117 zaj := zo7 tok zjF fmo (Ht := zai) (fn := Tryz.f117) (Tryz.func117) (c := zag) (by kernel_rfl) (by kernel_rfl) (by kernel_rfl) (by decide +kernel) (by decide) zeL
end Go.Proofs.Y
namespace Go.Proofs.Y
open Go.Rb Go.Kx
noncomputable def zbE : Code := zj Tryz.f83
noncomputable def zbF : FuncId → Option GS := tabG [(78, YT), (107, jM), (118, Jj), (117, zaj)]
theorem zlh : ΓOK Tryz.prog zbF := z8 (YG) (z8 (jg) (z8 (z07) (z8 (zeM) (zf))))
def zbG : HT := ⟨tabL [(8, .unroll 5)], tabH [(7, [.frzb 3 (.one (.int .i64))]), (12, [.frzq 2 0 0, .frzq 2 0 1, .frzq 2 0 2, .frzq 2 0 3, .frzq 2 0 4, .frzq 2 0 5, .frzq 2 0 6, .frzq 2 0 7, .pack 2 0 (.cons (.sl 126 (.cons (.int .i64) (.cons (.int .i64) (.cons (.int .i64) (.one (.sl 4 (.one .bool))))))) (.one (.sl 73 (.cons (.int .i64) (.one (.int .i64))))))])]⟩
abbrev z47 : List IT := [.v (.one (.sl 95 (.cons (.sl 126 (.cons (.int .i64) (.cons (.int .i64) (.cons (.int .i64) (.one (.sl 4 (.one .bool))))))) (.one (.sl 73 (.cons (.int .i64) (.one (.int .i64)))))))) true, .v (.one (.int .i64)) false]
abbrev zak : List OT := [⟨.one (.sl 95 (.cons (.sl 126 (.cons (.int .i64) (.cons (.int .i64) (.cons (.int .i64) (.one (.sl 4 (.one .bool))))))) (.one (.sl 73 (.cons (.int .i64) (.one (.int .i64))))))), true, []⟩, ⟨.one (.int .i64), false, []⟩]
set_option maxRecDepth 100000
noncomputable def jO : List (List (Int × Int × Int × List Bool) × List (Int × Int)) → Int → Option (List (List (Int × Int × Int × List Bool) × List (Int × Int)) × Int) := fun a b => z6 (yL a) fun y => ifB (neI y 0) (some ([], y)) (ifB (ltI b 0) (some ([], 3)) (ifB (gtI b 100001) (some ([], 3)) (z6 (Yz a) fun y => z6 (four y) fun (y : (List (Int × Int × Int × List Bool) × List (Int × Int)) × (List (Int × Int × Int × List Bool) × List (Int × Int)) × (List (Int × Int × Int × List Bool) × List (Int × Int)) × List (Int × Int × Int × List Bool) × List (Int × Int)) => z6 (Ze y.1.1) fun y_1 => z6 (Zq y.1.2) fun y_2 => zi maxR (fun (x : Int × List (Int × Int × Int × List Bool)) => ifB (ltI x.1 (lenI y.1.1)) (z6 (atI y.1.1 x.1) fun y => z6 (zT (y.1, y.2.1, y.2.2.1, y.2.2.2)) fun y => ifB (ltL x.1 x.2) (z6 (atN x.2 (natI x.1)) fun y_3 => some (Sum.inl (wadd .i64 x.1 1, setN x.2 (natI x.1) (y.1, y.2.1, y.2.2.1, y.2.2.2)))) none) (mapO Sum.inr (z6 (Ze y.2.1.1) fun y_3 => z6 (Zq y.2.1.2) fun y_4 => zi maxR (fun (x_1 : Int × List (Int × Int × Int × List Bool)) => ifB (ltI x_1.1 (lenI y.2.1.1)) (z6 (atI y.2.1.1 x_1.1) fun y => z6 (zT (y.1, y.2.1, y.2.2.1, y.2.2.2)) fun y => ifB (ltL x_1.1 x_1.2) (z6 (atN x_1.2 (natI x_1.1)) fun y_5 => some (Sum.inl (wadd .i64 x_1.1 1, setN x_1.2 (natI x_1.1) (y.1, y.2.1, y.2.2.1, y.2.2.2)))) none) (mapO Sum.inr (z6 (Ze y.2.2.1.1) fun y_5 => z6 (Zq y.2.2.1.2) fun y_6 => zi maxR (fun (x_2 : Int × List (Int × Int × Int × List Bool)) => ifB (ltI x_2.1 (lenI y.2.2.1.1)) (z6 (atI y.2.2.1.1 x_2.1) fun y => z6 (zT (y.1, y.2.1, y.2.2.1, y.2.2.2)) fun y => ifB (ltL x_2.1 x_2.2) (z6 (atN x_2.2 (natI x_2.1)) fun y_7 => some (Sum.inl (wadd .i64 x_2.1 1, setN x_2.2 (natI x_2.1) (y.1, y.2.1, y.2.2.1, y.2.2.2)))) none) (mapO Sum.inr (z6 (Ze y.2.2.2.1) fun y_7 => z6 (Zq y.2.2.2.2) fun y_8 => zi maxR (fun (x_3 : Int × List (Int × Int × Int × List Bool)) => ifB (ltI x_3.1 (lenI y.2.2.2.1)) (z6 (atI y.2.2.2.1 x_3.1) fun y => z6 (zT (y.1, y.2.1, y.2.2.1, y.2.2.2)) fun y => ifB (ltL x_3.1 x_3.2) (z6 (atN x_3.2 (natI x_3.1)) fun y_9 => some (Sum.inl (wadd .i64 x_3.1 1, setN x_3.2 (natI x_3.1) (y.1, y.2.1, y.2.2.1, y.2.2.2)))) none) (mapO Sum.inr (z6 (YA x.2 b) fun y => z6 (YA x_1.2 b) fun y_9 => z6 (YA x_2.2 b) fun y_10 => z6 (YA x_3.2 b) fun y_11 => some ([(y, y_2), (y_9, y_4), (y_10, y_6), (y_11, y_8)], 0)))) (0, y_7)))) (0, y_5)))) (0, y_3)))) (0, y_1))))
theorem zg3 (x : PI z47) : jO (x.1) (x.2) = fnE T zbF zbG zbE (zo Tryz.f83) z47 zak x := by kernel_rfl
noncomputable abbrev zbH : GS := zq false z47 zak fun x => jO (x.1) (x.2)
theorem zg4 : GSOK Tryz.prog 83 zbH := zm tok zlh fmo (Ht := zbG) (fn := Tryz.f83) (Tryz.func83) (c := zbE) (by kernel_rfl) (by kernel_rfl) (by kernel_rfl) (by decide +kernel) (by decide) zg3
end Go.Proofs.Y
namespace Go.Proofs.Y
open Go.Rb Go.Kx
noncomputable def zbI : Code := zj Tryz.f31
noncomputable def zbJ : FuncId → Option GS := tabG [(78, YT), (79, z1P), (80, zdW), (81, zbz), (82, zaf), (83, zbH)]
theorem zli : ΓOK Tryz.prog zbJ := z8 (YG) (z8 (z1Q) (z8 (zhs) (z8 (zfZ) (z8 (zeK) (z8 (zg4) (zf))))))
def zbK : HT := ⟨tabL [], tabH []⟩
abbrev z48 : List IT := [.v (.one (.sl 95 (.cons (.sl 126 (.cons (.int .i64) (.cons (.int .i64) (.cons (.int .i64) (.one (.sl 4 (.one .bool))))))) (.one (.sl 73 (.cons (.int .i64) (.one (.int .i64)))))))) true, .v (.cons (.int .i64) (.cons (.int .i64) (.cons (.int .i64) (.one (.sl 77 (.cons (.int .i64) (.cons (.int .i64) (.one (.int .i64))))))))) true]
abbrev zal : List OT := [⟨.one (.sl 95 (.cons (.sl 126 (.cons (.int .i64) (.cons (.int .i64) (.cons (.int .i64) (.one (.sl 4 (.one .bool))))))) (.one (.sl 73 (.cons (.int .i64) (.one (.int .i64))))))), true, []⟩, ⟨.one (.int .i64), false, []⟩]
set_option maxRecDepth 100000
noncomputable def yH : List (List (Int × Int × Int × List Bool) × List (Int × Int)) → Int × Int × Int × List (Int × Int × Int) → Option (List (List (Int × Int × Int × List Bool) × List (Int × Int)) × Int) := fun a b => z6 (yL a) fun y => ifB (neI y 0) (some ([], y)) (z6 (Zl (b.1, b.2.1, b.2.2.1, b.2.2.2)) fun y => ifB (neI y 0) (some ([], y)) (ifB (eqI b.1 1) (z6 (z0r a b.2.2.2) fun y => some (y.1, y.2)) (ifB (eqI b.1 2) (z6 (jN a b.2.1 b.2.2.1) fun y => some (y.1, y.2)) (ifB (eqI b.1 3) (z6 (VO a b.2.1 b.2.2.1) fun y => some (y.1, y.2)) (z6 (jO a b.2.2.1) fun y => some (y.1, y.2))))))
theorem zg5 (x : PI z48) : yH (x.1) (x.2) = fnE T zbJ zbK zbI (zo Tryz.f31) z48 zal x := by kernel_rfl
noncomputable abbrev z5Q : GS := zq false z48 zal fun x => yH (x.1) (x.2)
theorem z7a : GSOK Tryz.prog 31 z5Q := zm tok zli fmo (Ht := zbK) (fn := Tryz.f31) (Tryz.func31) (c := zbI) (by kernel_rfl) (by kernel_rfl) (by kernel_rfl) (by decide +kernel) (by decide) zg5
end Go.Proofs.Y
namespace Go.Proofs.Y
open Go.Rb Go.Kx
noncomputable def ze3 : Code := zj Tryz.f75
noncomputable def ze4 : FuncId → Option GS := tabG []
theorem znf : ΓOK Tryz.prog ze4 := zf
def ze5 : HT := ⟨tabL [], tabH []⟩
abbrev z5R : List IT := []
abbrev zbL : List OT := [⟨.one (.sl 95 (.cons (.sl 126 (.cons (.int .i64) (.cons (.int .i64) (.cons (.int .i64) (.one (.sl 4 (.one .bool))))))) (.one (.sl 73 (.cons (.int .i64) (.one (.int .i64))))))), true, []⟩]
set_option maxRecDepth 100000
noncomputable def Y4 : Option (List (List (Int × Int × Int × List Bool) × List (Int × Int))) := ifB (z3l 48 4) (some (repI 4 ([], []))) none
theorem zhw (x : PI z5R) : Y4  = fnE T ze4 ze5 ze3 (zo Tryz.f75) z5R zbL x := by kernel_rfl
noncomputable abbrev z0t : GS := zq false z5R zbL fun x => Y4 
theorem Jk : GSOK Tryz.prog 75 z0t := zm tok znf fmo (Ht := ze5) (fn := Tryz.f75) (Tryz.func75) (c := ze3) (by kernel_rfl) (by kernel_rfl) (by kernel_rfl) (by decide +kernel) (by decide) zhw
end Go.Proofs.Y
namespace Go.Proofs.Y
open Go.Rb Go.Kx
noncomputable def z8E : Code := zj Tryz.f28
noncomputable def z8F : FuncId → Option GS := tabG [(75, z0t), (31, z5Q)]
theorem zhx : ΓOK Tryz.prog z8F := z8 (Jk) (z8 (z7a) (zf))
def z8G : HT := ⟨tabL [(5, .it [] (dyn [.t 15 (.int .i64), .c 2 0 (.sl 95 (.cons (.sl 126 (.cons (.int .i64) (.cons (.int .i64) (.cons (.int .i64) (.one (.sl 4 (.one .bool))))))) (.one (.sl 73 (.cons (.int .i64) (.one (.int .i64))))))), .c 4 0 (.sl 95 (.cons (.sl 126 (.cons (.int .i64) (.cons (.int .i64) (.cons (.int .i64) (.one (.sl 4 (.one .bool))))))) (.one (.sl 73 (.cons (.int .i64) (.one (.int .i64)))))))]))], tabH []⟩
abbrev z2g : List IT := [.v (.one (.sl 52 (.cons (.int .i64) (.cons (.int .i64) (.cons (.int .i64) (.one (.sl 77 (.cons (.int .i64) (.cons (.int .i64) (.one (.int .i64))))))))))) false]
abbrev z7b : List OT := [⟨.one (.sl 95 (.cons (.sl 126 (.cons (.int .i64) (.cons (.int .i64) (.cons (.int .i64) (.one (.sl 4 (.one .bool))))))) (.one (.sl 73 (.cons (.int .i64) (.one (.int .i64))))))), true, []⟩, ⟨.one (.int .i64), false, []⟩]
set_option maxRecDepth 100000
noncomputable def yb : List (Int × Int × Int × List (Int × Int × Int)) → Option (List (List (Int × Int × Int × List Bool) × List (Int × Int)) × Int) := fun a => ifB (gtI (lenI a) 60) (some ([], 2)) (z6 Y4 fun y => zi maxR (fun (x : Int × List (List (Int × Int × Int × List Bool) × List (Int × Int)) × List (List (Int × Int × Int × List Bool) × List (Int × Int))) => ifB (ltI x.1 (lenI a)) (z6 (atI a x.1) fun y => z6 (yH x.2.2 (y.1, y.2.1, y.2.2.1, y.2.2.2)) fun y => ifB (neI y.2 0) (mapO Sum.inr (some ([], y.2))) (some (Sum.inl (wadd .i64 x.1 1, x.2.1, y.1)))) (mapO Sum.inr (some (x.2.2, 0)))) (0, [], y))
theorem zdr (x : PI z2g) : yb x = fnE T z8F z8G z8E (zo Tryz.f28) z2g z7b x := by kernel_rfl
noncomputable abbrev Jl : GS := zq false z2g z7b fun x => yb x
theorem z08 : GSOK Tryz.prog 28 Jl := zm tok zhx fmo (Ht := z8G) (fn := Tryz.f28) (Tryz.func28) (c := z8E) (by kernel_rfl) (by kernel_rfl) (by kernel_rfl) (by decide +kernel) (by decide) zdr
end Go.Proofs.Y
namespace Go.Rb
abbrev Pt := Int × Int
abbrev Pt.t (p : Pt) : Int := Prod.fst p
abbrev Pt.v (p : Pt) : Int := Prod.snd p
abbrev Bk := Int × Int × Int × List Bool
abbrev Bk.n (b : Bk) : Int := Prod.fst b
abbrev Bk.fr (b : Bk) : Int := Prod.fst (Prod.snd b)
abbrev Bk.to (b : Bk) : Int := Prod.fst (Prod.snd (Prod.snd b))
abbrev Bk.bits (b : Bk) : List Bool := Prod.snd (Prod.snd (Prod.snd b))
abbrev Rowd := List Bk × List Pt
abbrev Rowd.blocks (r : Rowd) : List Bk := Prod.fst r
abbrev Rowd.head (r : Rowd) : List Pt := Prod.snd r
abbrev Shf := List Rowd
abbrev Ent := Int × Int × Int
abbrev Rc := Int × Int × Int × List Ent
def z9z (n : Int) : Prop := -9223372036854775808 ≤ n ∧ n ≤ 9223372036854775807
theorem z2h {n : Int} (h1 : -9223372036854775808 ≤ n) (h2 : n ≤ 9223372036854775807) : IntKind.wrap .i64 n = n := by rw [IntKind.wrap_i64]; omega
theorem z3I {α : Type} [Inhabited α] {l : List α} {i : Nat} (h : i < l.length) : l.take (i + 1) = l.take i ++ [l.getD i default] := by
 rw [List.take_succ_eq_append_getElem h]; simp [List.getD, List.getElem?_eq_getElem h]
end Go.Rb
namespace Go.Kx
open Go.Rb
/-! ### Tests -/
theorem Z1 {α : Type} (x y : α) : ifB true x y = x := rfl
theorem ZB {α : Type} (x y : α) : ifB false x y = y := rfl
theorem Zu {α : Type} (b : Bool) (x : α) : ifB b x x = x := by cases b <;> rfl
theorem z8H {α : Type} (b : Bool) (x y : α) : ifB b x y = if b = true then x else y := by cases b <;> rfl
theorem zQ {α : Type} (p : Prop) [Decidable p] (x y : α) : ifB (decide p) x y = if p then x else y := by by_cases h : p <;> simp [ifB, h]
theorem zh {α : Type} (a b : Int) (x y : α) : ifB (ltI a b) x y = if a < b then x else y := zQ _ _ _
theorem Zz {α : Type} (a b : Int) (x y : α) : ifB (leI a b) x y = if a ≤ b then x else y := zQ _ _ _
theorem zz {α : Type} (a b : Int) (x y : α) : ifB (gtI a b) x y = if b < a then x else y := zQ _ _ _
theorem zR {α : Type} (a b : Int) (x y : α) : ifB (geI a b) x y = if b ≤ a then x else y := zQ _ _ _
theorem ze {α : Type} (a b : Int) (x y : α) : ifB (eqI a b) x y = if a = b then x else y := by
 rw [z8H]; simp only [eqI, beq_iff_eq]
theorem zl {α : Type} (a b : Int) (x y : α) : ifB (neI a b) x y = if a = b then y else x := by
 rw [z8H]; simp only [neI, bne_iff_ne, ne_eq, ite_not]
theorem zC {α : Type} (b : Bool) (x y : α) : ifB (notB b) x y = ifB b y x := by cases b <;> rfl
theorem ZE {α : Type} (a b : Bool) (x y : α) : ifB (ifB a b false) x y = ifB a (ifB b x y) y := by cases a <;> rfl
theorem ZK {α : Type} (a b : Bool) (x y : α) : ifB (eqB a b) x y = if a = b then x else y := by
 rw [z8H]; simp only [eqB, beq_iff_eq]
theorem ZP {α β : Type} (l : List β) (x y : α) : ifB (isE l) x y = if l = [] then x else y := by cases l <;> rfl
theorem zI {α β : Type} (l : List β) (a : Int) (x y : α) : ifB (in1 l a) x y = if 0 ≤ a ∧ a ≤ l.length then x else y := by rw [in1, ← Bool.decide_and]; exact zQ _ _ _
theorem ZF {α β : Type} (l : List β) (a b : Int) (x y : α) : ifB (in2 l a b) x y = if 0 ≤ a ∧ a ≤ b ∧ b ≤ l.length then x else y := by rw [in2, ← Bool.decide_and, ← Bool.decide_and]; exact zQ _ _ _
theorem Zv {α : Type} (c : Nat) (a : Int) (x y : α) : ifB (in1N c a) x y = if 0 ≤ a ∧ a ≤ c then x else y := by rw [in1N, ← Bool.decide_and]; exact zQ _ _ _
theorem Zw {α : Type} (c : Nat) (a b : Int) (x y : α) : ifB (in2N c a b) x y = if 0 ≤ a ∧ a ≤ b ∧ b ≤ c then x else y := by rw [in2N, ← Bool.decide_and, ← Bool.decide_and]; exact zQ _ _ _
theorem Zx {α : Type} (n c : Nat) (a : Int) (x y : α) : ifB (in1C n c a) x y = if 0 ≤ a ∧ a ≤ (max n c : Nat) then x else y := by rw [in1C, ← Bool.decide_and]; exact zQ _ _ _
theorem Zr {α : Type} (n c : Nat) (a b : Int) (x y : α) : ifB (in2C n c a b) x y = if 0 ≤ a ∧ a ≤ b ∧ b ≤ (max n c : Nat) then x else y := by rw [in2C, ← Bool.decide_and, ← Bool.decide_and]; exact zQ _ _ _
theorem Zb {α β : Type} (l : List β) (o n : Nat) (x y : α) : ifB (inN l o n) x y = if o + n ≤ l.length then x else y := zQ _ _ _
theorem zH {α β : Type} (n : Int) (l : List β) (x y : α) : ifB (ltL n l) x y = if 0 ≤ n ∧ n < l.length then x else y := by rw [ltL, ← Bool.decide_and]; exact zQ _ _ _
theorem ZQ {α : Type} (n : Int) (c : Nat) (x y : α) : ifB (ltN n c) x y = if 0 ≤ n ∧ n < c then x else y := by rw [ltN, ← Bool.decide_and]; exact zQ _ _ _
theorem zy {α β : Type} (n : Nat) (a b : List β) (x y : α) : ifB (zg n a b) x y = if (a.length + b.length + (a.length + b.length) / 4 + 192) * n ≤ 281474976710656 ∧ a.length + b.length ≤ 9223372036854775807 then x else y := by rw [zg, ← Bool.decide_and]; exact zQ _ _ _
theorem Z3 {α : Type} (b : Nat) (n : Int) (x y : α) : ifB (z3l b n) x y = if 0 ≤ n ∧ n * b ≤ 140737488355328 ∧ n ≤ 9223372036854775807 then x else y := by rw [z3l, ← Bool.decide_and, ← Bool.decide_and]; exact zQ _ _ _
theorem Zc {α : Type} (b : Nat) (n : Int) (x y : α) : ifB (z1H b n) x y = if 1 ≤ n ∧ n * b ≤ 140737488355328 ∧ n ≤ 9223372036854775807 then x else y := by rw [z1H, ← Bool.decide_and, ← Bool.decide_and]; exact zQ _ _ _
theorem Z4 {α : Type} (a b : List UInt8) (x y : α) : ifB (Jb a b) x y = if (a.length : Int) + b.length ≤ 9223372036854775807 then x else y := zQ _ _ _
theorem ZA {α : Type} (a b : List UInt8) (x y : α) : ifB (eqS a b) x y = if a = b then x else y := by
 rw [z8H]; simp only [eqS, beq_iff_eq]
theorem ZR {α : Type} (a b : List Int) (x y : α) : ifB (eqL a b) x y = if a = b then x else y := zQ _ _ _
theorem Zs {α β : Type} (n : Nat) (l : List β) (c : Nat) (x y : α) : ifB (fits n l c) x y = if l = [] ∨ n + l.length ≤ c then x else y := by
 cases l with
 | nil => simp [ifB, fits]
 | cons a l => rw [fits]; simp only [List.isEmpty_cons, Bool.false_or, zQ, reduceCtorEq, false_or]
theorem z7 {α β : Type} (a : α) (f : α → Option β) : z6 (some a) f = f a := rfl
theorem Z2 {α β : Type} (f : α → Option β) : z6 none f = none := rfl
theorem Zf {α β : Type} (a : α) (f : α → β) : mapO f (some a) = some (f a) := rfl
theorem Zg {α β : Type} (f : α → β) : mapO f none = none := rfl
theorem zqp {α : Type} (a : Option α) : ambO a a = a := by simp [ambO]
theorem zb {α : Type} (l : List α) : lenI l = (l.length : Int) := rfl
theorem ZL {α : Type} (l : List α) : lenN l = l.length := rfl
theorem zY {α : Type} (a b : List α) : cat a b = a ++ b := rfl
theorem zU {α : Type} (a : List α) (b : Int) : YB a b = a.take b.toNat := rfl
theorem Z8 {α : Type} (a : List α) (b : Int) : yB a b = a.drop b.toNat := rfl
theorem ZS {α : Type} (l : List α) (a b : Int) : sliI l a b = (l.take b.toNat).drop a.toNat := rfl
theorem Zi {α : Type} (l : List α) (n : Nat) (a : α) : setN l n a = l.set n a := rfl
theorem zM (a : Int) : natI a = a.toNat := rfl
theorem ZG (a : Nat) : intN a = (a : Int) := rfl
theorem zO {α : Type} [Inhabited α] {l : List α} {j : Nat} (h : j < l.length) : atI l (j : Int) = some (l.getD j default) := by
 rw [atI, if_pos (by omega), Int.toNat_natCast, List.getElem?_eq_getElem h]; simp [List.getD, List.getElem?_eq_getElem h]
theorem zog {α : Type} [Inhabited α] {l : List α} {j : Int} (h0 : 0 ≤ j) (h : j < l.length) : atI l j = some (l.getD j.toNat default) := by
 obtain ⟨k, rfl⟩ : ∃ k : Nat, j = k := ⟨j.toNat, by omega⟩
 exact zO (by omega)
theorem yu {α : Type} [Inhabited α] {l : List α} {j : Nat} (h : j < l.length) : atN l j = some (l.getD j default) := by
 rw [atN, List.getElem?_eq_getElem h]; simp [List.getD, List.getElem?_eq_getElem h]
theorem ZM {a b : Int} (h : -9223372036854775808 ≤ a + b ∧ a + b ≤ 9223372036854775807) : wadd .i64 a b = a + b := z2h h.1 h.2
theorem ZT {a b : Int} (h : -9223372036854775808 ≤ a - b ∧ a - b ≤ 9223372036854775807) : wsub .i64 a b = a - b := z2h h.1 h.2
theorem vq {a b : Int} (h : -9223372036854775808 ≤ a * b ∧ a * b ≤ 9223372036854775807) : wmul .i64 a b = a * b := z2h h.1 h.2
theorem zhy {a : Int} (h : -9223372036854775808 ≤ 0 - a ∧ 0 - a ≤ 9223372036854775807) : wneg .i64 a = 0 - a := z2h h.1 h.2
theorem zD {j : Nat} (h : (j : Int) < 4611686018427387904) : wadd .i64 (j : Int) 1 = ((j + 1 : Nat) : Int) := by rw [ZM ⟨by omega, by omega⟩]; rfl
/-! ### Loops -/
def yq {α β : Type} (o : Option (Sum β α)) (k : β → Option α) : Option α :=
 match o with
 | none => none
 | some (.inl y) => k y
 | some (.inr a) => some a
theorem zB {α β : Type} (k : β → Option α) : yq none k = none := rfl
theorem zt {α β : Type} (y : β) (k : β → Option α) : yq (some (.inl y)) k = k y := rfl
theorem Z9 {α β : Type} (a : α) (k : β → Option α) : yq (some (.inr a)) k = some a := rfl
theorem zd {α β : Type} (o : Option α) (k : β → Option α) : yq (mapO Sum.inr o) k = o := by cases o <;> rfl
theorem Zy {α β : Type} (p : Prop) [Decidable p] (x y : Option (Sum β α)) (k : β → Option α) : yq (if p then x else y) k = if p then yq x k else yq y k := by split <;> rfl
theorem za {α β : Type} (b : Bool) (x y : Option (Sum β α)) (k : β → Option α) : yq (ifB b x y) k = ifB b (yq x k) (yq y k) := by cases b <;> rfl
theorem zx {α β γ : Type} (o : Option γ) (f : γ → Option (Sum β α)) (k : β → Option α) : yq (z6 o f) k = z6 o fun y => yq (f y) k := by cases o <;> rfl
theorem yz {α β : Type} {f : β → Option (Sum β α)} (G : β → Option α) (P : β → Prop) (μ : β → Nat)
  (h : ∀ x, P x → ∀ k : β → Option α, (∀ y, P y → μ y < μ x → k y = G y) → yq (f x) k = G x) : ∀ (n : Nat) (x : β), P x → μ x < n → zi n f x = G x
 | 0, x, _, hm => absurd hm (Nat.not_lt_zero _)
 | n + 1, x, hp, hm => by
  rw [Jc, ← h x hp (zi n f) (fun y hy hl => yz G P μ h n y hy (by omega))]
  cases f x with
  | none => rfl
  | some s => cases s <;> rfl
theorem zP {α β γ σ : Type} [Inhabited γ] (l : List γ) (enc : Nat → σ → β) {f : β → Option (Sum β α)} (G : List γ → σ → Option α) (P : Nat → σ → Prop)
  (hs : ∀ (j : Nat) (s : σ), j < l.length → P j s → ∀ k : β → Option α, (∀ s', P (j + 1) s' → k (enc (j + 1) s') = G (l.drop (j + 1)) s') → yq (f (enc j s)) k = G (l.getD j default :: l.drop (j + 1)) s)
  (he : ∀ s, P l.length s → ∀ k : β → Option α, yq (f (enc l.length s)) k = G [] s) {s0 : σ} (h0 : P 0 s0) (hl : l.length < 9223372036854775808) : zi maxR f (enc 0 s0) = G l s0 := by
 have key : ∀ (d j : Nat) (s : σ) (n : Nat), j + d = l.length → P j s → d < n → zi n f (enc j s) = G (l.drop j) s := by
  intro d
  induction d with
  | zero =>
   intro j s n hj hp hn
   obtain ⟨n, rfl⟩ : ∃ m, n = m + 1 := ⟨n - 1, by omega⟩
   have hj' : j = l.length := by omega
   subst hj'
   rw [List.drop_length, ← he s hp (zi n f), Jc]
   cases f (enc l.length s) with
   | none => rfl
   | some q => cases q <;> rfl
  | succ d ih =>
   intro j s n hj hp hn
   obtain ⟨n, rfl⟩ : ∃ m, n = m + 1 := ⟨n - 1, by omega⟩
   have hlt : j < l.length := by omega
   have hd : l.drop j = l.getD j default :: l.drop (j + 1) := by rw [List.drop_eq_getElem_cons hlt]; simp [List.getD, List.getElem?_eq_getElem hlt]
   rw [hd, ← hs j s hlt hp (zi n f) (fun s' hp' => ih (j + 1) s' n (by omega) hp' (by omega)), Jc]
   cases f (enc j s) with
   | none => rfl
   | some q => cases q <;> rfl
 have := key l.length 0 s0 maxR (by omega) h0 (by unfold maxR; omega)
 simpa using this
end Go.Kx
namespace Go.Kx
theorem zg6 {α β : Type} {f : β → Option (Sum β α)} (seq : Nat → β) : ∀ (n m : Nat), (∀ j, j < n → f (seq j) = some (.inl (seq (j + 1)))) → zi (n + 1 + m) f (seq 0) = yq (f (seq n)) (zi m f)
 | 0, m, _ => by
  rw [Nat.zero_add, Nat.add_comm 1 m, Jc]
  cases f (seq 0) with
  | none => rfl
  | some q => cases q <;> rfl
 | n + 1, m, h => by
  have h0 := h 0 (by omega)
  have h1 := zg6 (fun j => seq (j + 1)) n m (fun j hj => h (j + 1) (by omega))
  rw [show n + 1 + 1 + m = (n + 1 + m) + 1 by omega, Jc, h0]
  exact h1
end Go.Kx
namespace Go.Kx
theorem ztz {α β : Type} {f : β → Option (Sum β α)} (seq : Nat → β) (n : Nat) {x0 : β} (h0 : x0 = seq 0) (hn : n < 9223372036854775807) (h : ∀ j, j < n → f (seq j) = some (.inl (seq (j + 1)))) : zi maxR f x0 = yq (f (seq n)) (zi (maxR - n - 1) f) := by
 have := zg6 seq n (maxR - n - 1) h
 rw [show n + 1 + (maxR - n - 1) = maxR by unfold maxR; omega] at this
 rw [h0]
 exact this
end Go.Kx
namespace Go.Rb
open Go.Kx
def z0u (x : Ent) : Prop := x.1 < 0 ∨ 4 ≤ x.1 ∨ x.2.1 < 0 ∨ 100000 < x.2.1 ∨ x.2.2 < -1000000 ∨ 1000000 < x.2.2
instance badEntDec (x : Ent) : Decidable (z0u x) := inferInstanceAs (Decidable (_ ∨ _))
def entE : List Ent → Int
 | [] => 0
 | x :: l => if z0u x then 3 else entE l
def zA (r : Rc) : Int :=
 if r.1 < 1 ∨ 4 < r.1 then 4 else
 if r.1 = 1 then (if ¬ r.2.1 = 0 ∨ ¬ r.2.2.1 = 0 then 4 else if 10 < r.2.2.2.length then 2 else entE r.2.2.2) else
 if 0 < r.2.2.2.length ∨ (r.1 = 4 ∧ ¬ r.2.1 = 0) then 4 else if r.2.1 < 0 ∨ 4 ≤ r.2.1 ∨ r.2.2.1 < 0 ∨ 100001 < r.2.2.1 then 3 else 0
theorem Yj {r : Rc} (h : zA r = 0) : 1 ≤ r.1 ∧ r.1 ≤ 4 ∧ (r.1 = 1 → r.2.1 = 0 ∧ r.2.2.1 = 0 ∧ r.2.2.2.length ≤ 10 ∧ entE r.2.2.2 = 0) ∧ (¬ r.1 = 1 → r.2.2.2 = [] ∧ 0 ≤ r.2.1 ∧ r.2.1 ≤ 3 ∧ 0 ≤ r.2.2.1 ∧ r.2.2.1 ≤ 100001 ∧ (r.1 = 4 → r.2.1 = 0)) := by
 unfold zA at h
 split at h
 ·cases h
 ·rename_i h1
  split at h
  ·rename_i h2
   split at h
   ·cases h
   ·rename_i h3
    split at h
    ·cases h
    ·rename_i h4
     exact ⟨by omega, by omega, fun _ => ⟨by omega, by omega, by omega, h⟩, fun h => absurd h2 h⟩
  ·rename_i h2
   split at h
   ·cases h
   ·rename_i h3
    split at h
    ·cases h
    ·rename_i h4
     refine ⟨by omega, by omega, fun h => absurd h h2, fun _ => ⟨List.eq_nil_of_length_eq_zero (by omega), by omega, by omega, by omega, by omega, fun h5 => ?_⟩⟩
     exact Classical.byContradiction fun h6 => h3 (.inr ⟨h5, h6⟩)
end Go.Rb
namespace Go.Kx
open Go.Rb
theorem z1i {α : Type} (b : Nat) (a : List α) (h : (a.length + a.length / 4 + 192) * b ≤ 281474976710656) (h2 : a.length ≤ 9223372036854775807) :
  ifB (isE a) (ambO (some []) (ifB (zg b [] a) (some (cat [] a)) none)) (ifB (zg b [] a) (some (cat [] a)) none) = some a := by
 simp only [zB, zt, Z9, zd, Zy, zx, Z1, ZB, Zu, zh, Zz, zz, zR, ze, zl, zC, ZE, ZK, ZP, zI, ZF, Zv, Zw, Zx, Zr, Zb, zH, ZQ, zy, Z3, Zc, Z4, ZA, ZR, Zs, z7, Z2, Zf, Zg, zb, ZL, zY, zU, Z8, ZS, Zi, zM, ZG, List.length_nil, Nat.zero_add, List.nil_append]
 rw [if_pos (⟨h, h2⟩ : (a.length + a.length / 4 + 192) * b ≤ 281474976710656 ∧ a.length ≤ 9223372036854775807)]
 split
 ·rename_i h0; subst h0; exact zqp _
 ·rfl
theorem zlj {α : Type} [Inhabited α] {a b : List α} (h : a.length = b.length) (hg : ∀ j, j < a.length → a.getD j default = b.getD j default) : a = b := by
 apply List.ext_getElem h
 intro i h1 h2
 have := hg i h1
 simpa [List.getD, List.getElem?_eq_getElem h1, List.getElem?_eq_getElem h2] using this
theorem z3J {α : Type} [Inhabited α] [DecidableEq α] (eqv : α → α → Bool) (he : ∀ x y, eqv x y = decide (x = y)) (a b : List α) (hl : a.length < 4611686018427387904) :
  ifB (neI (lenI a) (lenI b)) (some false) (zi maxR (fun (x : Int) => ifB (ltI x (lenI a)) (z6 (atI a x) fun (y : α) => z6 (atI b x) fun (y_1 : α) => ifB (notB (eqv y y_1)) (mapO Sum.inr (some false)) (some (Sum.inl (wadd IntKind.i64 x 1)))) (mapO Sum.inr (some true))) 0) = some (decide (a = b)) := by
 rw [zl]
 by_cases hab : (a.length : Int) = b.length
 ·rw [zb, zb, if_pos hab]
  have hn : a.length = b.length := by omega
  refine yz (G := fun _ => some (decide (a = b))) (P := fun (i : Int) => 0 ≤ i ∧ i ≤ a.length ∧ ∀ j : Nat, (j : Int) < i → a.getD j default = b.getD j default) (μ := fun (i : Int) => a.length - i.toNat) ?_ maxR 0 ⟨by omega, by omega, fun j hj => by omega⟩ (by unfold maxR; omega)
  rintro i ⟨h0, h1, h2⟩ k hk
  obtain ⟨j, rfl⟩ : ∃ j : Nat, i = j := ⟨i.toNat, by omega⟩
  simp only [zB, zt, Z9, zd, Zy, zx, Z1, ZB, Zu, zh, Zz, zz, zR, ze, zl, zC, ZE, ZK, ZP, zI, ZF, Zv, Zw, Zx, Zr, Zb, zH, ZQ, zy, Z3, Zc, Z4, ZA, ZR, Zs, z7, Z2, Zf, Zg, zb, ZL, zY, zU, Z8, ZS, Zi, zM, ZG]
  by_cases hj : j < a.length
  ·rw [if_pos (by omega), zO hj, zO (by omega : j < b.length), z7, z7, he, zD (by omega), za, zt, Z9]
   by_cases hq : a.getD j default = b.getD j default
   ·rw [hk _ ⟨by omega, by omega, fun j' hj' => ?_⟩ (by omega)]
    ·rw [zQ, if_pos hq]
    ·by_cases h : j' = j
     ·subst h; exact hq
     ·exact h2 j' (by omega)
   ·have hne : a ≠ b := by rintro rfl; exact hq rfl
    rw [zQ, if_neg hq]
    simp [hne]
  ·rw [if_neg (by omega)]
   have : a = b := zlj hn fun j' hj' => h2 j' (by omega)
   simp [this]
 ·rw [zb, zb, if_neg hab]
  have : a ≠ b := by rintro rfl; exact hab rfl
  simp [this]
theorem zbM {α : Type} (a : List (List α)) {j : Nat} (h : j < a.length) : (a.take (j + 1)).flatten.length = (a.take j).flatten.length + (a.getD j default).length := by
 rw [z3I h]; simp
theorem z7c {α : Type} (a : List (List α)) (j : Nat) : (a.take j).flatten.length ≤ a.flatten.length := by
 have h : a.flatten = (a.take j).flatten ++ (a.drop j).flatten := by rw [← List.flatten_append, List.take_append_drop]
 rw [h, List.length_append]; omega
theorem zeN {α : Type} (a : List (List α)) {j : Nat} (h : j < a.length) : (a.take (j + 1)).flatten = (a.take j).flatten ++ a.getD j default := by
 rw [z3I h]; simp
theorem z4W {α : Type} (bytes : Nat) (z : α) (a : List (List α)) (ha : a.length < 4611686018427387904) (hb : 1 ≤ bytes) (h : a.flatten.length * bytes ≤ 140737488355328) (hbb : bytes ≤ 1048576) :
  zi maxR (fun (x : Int × Int) => ifB (ltI (Prod.snd x) (lenI a)) (z6 (atI a (Prod.snd x)) fun (y : List α) => ifB (ltI (wadd IntKind.i64 (Prod.fst x) (lenI y)) 0) none (some (Sum.inl (wadd IntKind.i64 (Prod.fst x) (lenI y), wadd IntKind.i64 (Prod.snd x) 1))))
   (mapO Sum.inr (ifB (ltI (Prod.fst x) 0) none (ifB (gtI (wsub IntKind.i64 (Prod.fst x) (wsub IntKind.i64 0 0)) 0)
    (ifB (z1H bytes (wsub IntKind.i64 (Prod.fst x) (wsub IntKind.i64 0 0))) (ifB (in1 (repI (wsub IntKind.i64 (Prod.fst x) (wsub IntKind.i64 0 0)) z) 0) (ifB (inN (repI (wsub IntKind.i64 (Prod.fst x) (wsub IntKind.i64 0 0)) z) 0 (natI 0))
     (zi maxR (fun (x : Int × List α) => ifB (ltI (Prod.fst x) (lenI a)) (z6 (atI a (Prod.fst x)) fun (y : List α) => ifB (zg bytes (Prod.snd x) y) (some (Sum.inl (wadd IntKind.i64 (Prod.fst x) 1, cat (Prod.snd x) y))) none) (mapO Sum.inr (some (Prod.snd x)))) (0, subN (repI (wsub IntKind.i64 (Prod.fst x) (wsub IntKind.i64 0 0)) z) 0 (natI 0)))
     none) none) none)
    (zi maxR (fun (x : Int × List α) => ifB (ltI (Prod.fst x) (lenI a)) (z6 (atI a (Prod.fst x)) fun (y : List α) => ifB (zg bytes (Prod.snd x) y) (some (Sum.inl (wadd IntKind.i64 (Prod.fst x) 1, cat (Prod.snd x) y))) none) (mapO Sum.inr (some (Prod.snd x)))) (0, [])))))) (0, 0) = some a.flatten := by
 have hfl : a.flatten.length ≤ 140737488355328 := by
  have : a.flatten.length * 1 ≤ a.flatten.length * bytes := Nat.mul_le_mul_left _ hb
  omega
 have second : zi maxR (fun (x : Int × List α) => ifB (ltI (Prod.fst x) (lenI a)) (z6 (atI a (Prod.fst x)) fun (y : List α) => ifB (zg bytes (Prod.snd x) y) (some (Sum.inl (wadd IntKind.i64 (Prod.fst x) 1, cat (Prod.snd x) y))) none) (mapO Sum.inr (some (Prod.snd x)))) (0, []) = some a.flatten := by
  refine zP a (fun j s => ((j : Int), s)) (G := fun _ _ => some a.flatten) (P := fun j s => s = (a.take j).flatten) ?_ ?_ (by simp) (by omega)
  ·rintro j s hj rfl k hk
   have h1 := zbM a hj
   have h2 := z7c a (j + 1)
   simp only [zB, zt, Z9, zd, Zy, zx, Z1, ZB, Zu, zh, Zz, zz, zR, ze, zl, zC, ZE, ZK, ZP, zI, ZF, Zv, Zw, Zx, Zr, Zb, zH, ZQ, zy, Z3, Zc, Z4, ZA, ZR, Zs, z7, Z2, Zf, Zg, zb, ZL, zY, zU, Z8, ZS, Zi, zM, ZG]
   rw [if_pos (by omega), zO hj, z7, zD (by omega), ← zeN a hj, hk _ rfl, if_pos]
   refine ⟨?_, by omega⟩
   have h3 : ((a.take j).flatten.length + (a.getD j default).length) * bytes ≤ 140737488355328 := Nat.le_trans (Nat.mul_le_mul_right _ (by omega)) h
   generalize (a.take j).flatten.length + (a.getD j default).length = m at *
   have h4 : m / 4 * bytes ≤ m * bytes := Nat.mul_le_mul_right _ (by omega)
   have h5 : m / 4 * bytes * 4 ≤ m * bytes := by rw [Nat.mul_right_comm]; exact Nat.mul_le_mul_right _ (by omega)
   rw [Nat.add_mul, Nat.add_mul]
   omega
  ·rintro s rfl k
   simp only [zB, zt, Z9, zd, Zy, zx, Z1, ZB, Zu, zh, Zz, zz, zR, ze, zl, zC, ZE, ZK, ZP, zI, ZF, Zv, Zw, Zx, Zr, Zb, zH, ZQ, zy, Z3, Zc, Z4, ZA, ZR, Zs, z7, Z2, Zf, Zg, zb, ZL, zY, zU, Z8, ZS, Zi, zM, ZG]
   rw [if_neg (by omega), List.take_length]
 refine zP a (fun j s => (s, (j : Int))) (G := fun _ _ => some a.flatten) (P := fun j s => s = ((a.take j).flatten.length : Int)) ?_ ?_ (by simp) (by omega)
 ·rintro j s hj rfl k hk
  have h1 := zbM a hj
  have h2 := z7c a (j + 1)
  simp only [zB, zt, Z9, zd, Zy, zx, Z1, ZB, Zu, zh, Zz, zz, zR, ze, zl, zC, ZE, ZK, ZP, zI, ZF, Zv, Zw, Zx, Zr, Zb, zH, ZQ, zy, Z3, Zc, Z4, ZA, ZR, Zs, z7, Z2, Zf, Zg, zb, ZL, zY, zU, Z8, ZS, Zi, zM, ZG]
  rw [if_pos (by omega), zO hj, z7, zD (by omega), ZM ⟨by omega, by omega⟩, if_neg (by omega)]
  exact hk _ (by omega)
 ·rintro s rfl k
  rw [List.take_length]
  have hw : wsub .i64 (a.flatten.length : Int) (wsub .i64 0 0) = (a.flatten.length : Int) := by
   rw [ZT (a := 0) (b := 0) ⟨by omega, by omega⟩, ZT ⟨by omega, by omega⟩]; omega
  have hz : subN (repI (a.flatten.length : Int) z) 0 (natI 0) = [] := by simp [subN, natI]
  show yq (ifB (ltI ((a.length : Nat) : Int) (lenI a)) _ (mapO Sum.inr (ifB (ltI (a.flatten.length : Int) 0) none (ifB (gtI (wsub .i64 (a.flatten.length : Int) (wsub .i64 0 0)) 0) _ _)))) k = _
  rw [za, zd, zh, if_neg (show ¬ ((a.length : Nat) : Int) < lenI a by rw [zb]; omega), zh, if_neg (by omega)]
  show ifB (gtI (wsub .i64 (a.flatten.length : Int) (wsub .i64 0 0)) 0) (ifB (z1H bytes (wsub .i64 (a.flatten.length : Int) (wsub .i64 0 0))) (ifB (in1 (repI (wsub .i64 (a.flatten.length : Int) (wsub .i64 0 0)) z) 0) (ifB (inN (repI (wsub .i64 (a.flatten.length : Int) (wsub .i64 0 0)) z) 0 (natI 0))
   (zi maxR _ (0, subN (repI (wsub .i64 (a.flatten.length : Int) (wsub .i64 0 0)) z) 0 (natI 0))) none) none) none) (zi maxR _ (0, [])) = _
  rw [hw, hz, second, zz]
  split
  ·rw [Zc, if_pos, zI, if_pos ⟨by omega, by simp [repI]⟩, Zb, if_pos (by simp [repI, natI])]
   refine ⟨by omega, ?_, by omega⟩
   rw [← Int.natCast_mul]; omega
  ·rfl
theorem z33 {α : Type} (a b : List α) : [a, b].flatten = a ++ b := by simp
end Go.Kx
namespace Go.Proofs.Y
open Go.Rb Go.Kx
theorem z5S (r : Rc) (hl : r.2.2.2.length < 4611686018427387904) : Zl r = some (zA r) := by
 unfold Zl zA
 have hloop : zi maxR (fun (x : Int) => ifB (ltI x (lenI (Prod.snd (Prod.snd (Prod.snd r))))) (z6 (atI (Prod.snd (Prod.snd (Prod.snd r))) x) fun (y : Int × Int × Int) =>
   ifB (ltI (Prod.fst y) 0) (mapO Sum.inr (some 3)) (ifB (geI (Prod.fst y) 4) (mapO Sum.inr (some 3)) (ifB (ltI (Prod.fst (Prod.snd y)) 0) (mapO Sum.inr (some 3)) (ifB (gtI (Prod.fst (Prod.snd y)) 100000) (mapO Sum.inr (some 3))
    (ifB (ltI (Prod.snd (Prod.snd y)) (-1000000)) (mapO Sum.inr (some 3)) (ifB (gtI (Prod.snd (Prod.snd y)) 1000000) (mapO Sum.inr (some 3)) (some (Sum.inl (wadd IntKind.i64 x 1))))))))) (mapO Sum.inr (some 0))) 0 = some (entE r.2.2.2) := by
  generalize r.2.2.2 = l at *
  refine zP l (fun j (_ : Unit) => (j : Int)) (G := fun rest _ => some (entE rest)) (P := fun _ _ => True) ?_ ?_ (s0 := ()) trivial (by omega)
  ·rintro j _ hj _ k hk
   have hat := zO hj
   generalize l.getD j default = x at *
   simp only [za, zx, zd, zt]
   rw [zh, zb, if_pos (by omega), hat, z7, zh, zR, zh, zz, zh, zz, zD (by omega), hk () trivial, entE]
   by_cases hb : z0u x
   ·rw [if_pos hb]
    unfold z0u at hb
    repeat' split
    all_goals first | rfl | (exfalso; omega)
   ·rw [if_neg hb]
    unfold z0u at hb
    repeat' split
    all_goals first | rfl | (exfalso; omega)
  ·rintro _ _ k
   simp only [za, zd]
   rw [zh, zb, if_neg (by omega)]; rfl
 rw [hloop]
 simp only [zh, zz, ze, zl, zR, zb]
 repeat' split
 all_goals first | rfl | (exfalso; omega)
end Go.Proofs.Y
namespace Go.Proofs.Y
open Go.Rb Go.Kx
noncomputable def zlk : Code := zj Tryz.f44
noncomputable def zll : FuncId → Option GS := tabG []
theorem zs0 : ΓOK Tryz.prog zll := zf
def zlm : HT := ⟨tabL [(4, .it [] (dyn [.t 13 (.int .i64)]))], tabH []⟩
abbrev zbN : List IT := [.v (.one (.sl 73 (.cons (.int .i64) (.one (.int .i64))))) false, .v (.one (.sl 73 (.cons (.int .i64) (.one (.int .i64))))) false]
abbrev ziB : List OT := [⟨.one .bool, false, []⟩]
set_option maxRecDepth 100000
noncomputable def z34 : List (Int × Int) → List (Int × Int) → Option Bool := fun a b => ifB (neI (lenI a) (lenI b)) (some false) (zi maxR (fun (x : Int) => ifB (ltI x (lenI a)) (z6 (atI a x) fun y => z6 (atI b x) fun y_1 => ifB (notB (eqL [y.1, y.2] [y_1.1, y_1.2])) (mapO Sum.inr (some false)) (some (Sum.inl (wadd .i64 x 1)))) (mapO Sum.inr (some true))) 0)
theorem zng (x : PI zbN) : z34 (x.1) (x.2) = fnE T zll zlm zlk (zo Tryz.f44) zbN ziB x := by kernel_rfl
noncomputable abbrev z9A : GS := zq false zbN ziB fun x => z34 (x.1) (x.2)
theorem z7S : GSOK Tryz.prog 44 z9A := zm tok zs0 fmo (Ht := zlm) (fn := Tryz.f44) (Tryz.func44) (c := zlk) (by kernel_rfl) (by kernel_rfl) (by kernel_rfl) (by decide +kernel) (by decide) zng
end Go.Proofs.Y
namespace Go.Proofs.Y
open Go.Rb Go.Kx
noncomputable def zln : Code := zj Tryz.f124
noncomputable def zlo : FuncId → Option GS := tabG []
theorem zs1 : ΓOK Tryz.prog zlo := zf
def zlp : HT := ⟨tabL [(4, .it [] (dyn [.t 13 (.int .i64)]))], tabH []⟩
abbrev zbO : List IT := [.v (.one (.sl 4 (.one .bool))) false, .v (.one (.sl 4 (.one .bool))) false]
abbrev ziC : List OT := [⟨.one .bool, false, []⟩]
set_option maxRecDepth 100000
noncomputable def z5T : List Bool → List Bool → Option Bool := fun a b => ifB (neI (lenI a) (lenI b)) (some false) (zi maxR (fun (x : Int) => ifB (ltI x (lenI a)) (z6 (atI a x) fun y => z6 (atI b x) fun y_1 => ifB (notB (eqB y y_1)) (mapO Sum.inr (some false)) (some (Sum.inl (wadd .i64 x 1)))) (mapO Sum.inr (some true))) 0)
theorem znh (x : PI zbO) : z5T (x.1) (x.2) = fnE T zlo zlp zln (zo Tryz.f124) zbO ziC x := by kernel_rfl
noncomputable abbrev zeO : GS := zq false zbO ziC fun x => z5T (x.1) (x.2)
theorem ze6 : GSOK Tryz.prog 124 zeO := zm tok zs1 fmo (Ht := zlp) (fn := Tryz.f124) (Tryz.func124) (c := zln) (by kernel_rfl) (by kernel_rfl) (by kernel_rfl) (by decide +kernel) (by decide) znh
end Go.Proofs.Y
namespace Go.Proofs.Y
open Go.Rb Go.Kx
noncomputable def zbP : Code := zj Tryz.f92
noncomputable def zbQ : FuncId → Option GS := tabG [(124, zeO)]
theorem zlq : ΓOK Tryz.prog zbQ := z8 (ze6) (zf)
def zbR : HT := ⟨tabL [], tabH []⟩
abbrev z49 : List IT := [.v (.cons (.int .i64) (.cons (.int .i64) (.cons (.int .i64) (.one (.sl 4 (.one .bool)))))) true, .v (.cons (.int .i64) (.cons (.int .i64) (.cons (.int .i64) (.one (.sl 4 (.one .bool)))))) true]
abbrev zam : List OT := [⟨.one .bool, false, []⟩]
set_option maxRecDepth 100000
noncomputable def jP : Int × Int × Int × List Bool → Int × Int × Int × List Bool → Option Bool := fun a b => ifB (eqI a.1 b.1) (ifB (eqI a.2.1 b.2.1) (ifB (eqI a.2.2.1 b.2.2.1) (z6 (z5T a.2.2.2 b.2.2.2) fun y => some y) (some false)) (some false)) (some false)
theorem zg7 (x : PI z49) : jP (x.1) (x.2) = fnE T zbQ zbR zbP (zo Tryz.f92) z49 zam x := by kernel_rfl
noncomputable abbrev z5U : GS := zq false z49 zam fun x => jP (x.1) (x.2)
theorem z7d : GSOK Tryz.prog 92 z5U := zm tok zlq fmo (Ht := zbR) (fn := Tryz.f92) (Tryz.func92) (c := zbP) (by kernel_rfl) (by kernel_rfl) (by kernel_rfl) (by decide +kernel) (by decide) zg7
end Go.Proofs.Y
namespace Go.Proofs.Y
open Go.Rb Go.Kx
noncomputable def JH : Code := zj Tryz.f110
noncomputable def JI : FuncId → Option GS := tabG [(124, zeO)]
theorem z6y : ΓOK Tryz.prog JI := z8 (ze6) (zf)
def JJ : HT := ⟨tabL [], tabH []⟩
abbrev vv : List IT := [.v (.cons (.int .i64) (.cons (.int .i64) (.cons (.int .i64) (.one (.sl 4 (.one .bool)))))) true, .v (.cons (.int .i64) (.cons (.int .i64) (.cons (.int .i64) (.one (.sl 4 (.one .bool)))))) true]
abbrev jQ : List OT := [⟨.one .bool, false, []⟩]
set_option maxRecDepth 100000
noncomputable def yT : Int × Int × Int × List Bool → Int × Int × Int × List Bool → Option Bool := fun a b => ifB (eqI a.1 b.1) (ifB (eqI a.2.1 b.2.1) (ifB (eqI a.2.2.1 b.2.2.1) (z6 (z5T a.2.2.2 b.2.2.2) fun y => some y) (some false)) (some false)) (some false)
theorem z4a (x : PI vv) : yT (x.1) (x.2) = fnE T JI JJ JH (zo Tryz.f110) vv jQ x := by kernel_rfl
noncomputable abbrev vN : GS := zq false vv jQ fun x => yT (x.1) (x.2)
theorem VP : GSOK Tryz.prog 110 vN := zm tok z6y fmo (Ht := JJ) (fn := Tryz.f110) (Tryz.func110) (c := JH) (by kernel_rfl) (by kernel_rfl) (by kernel_rfl) (by decide +kernel) (by decide) z4a
end Go.Proofs.Y
namespace Go.Proofs.Y
open Go.Rb Go.Kx
noncomputable def zbS : Code := zj Tryz.f91
noncomputable def zbT : FuncId → Option GS := tabG [(92, z5U), (110, vN)]
theorem zlr : ΓOK Tryz.prog zbT := z8 (z7d) (z8 (VP) (zf))
def zbU : HT := ⟨tabL [(4, .it [] (dyn [.t 17 (.int .i64)]))], tabH []⟩
noncomputable def z5V : GS := inl T zbT zbU zbS (zo Tryz.f91) (Tryz.f91.ntmps)
theorem z7e : GSOK Tryz.prog 91 z5V := yR tok zlr fmo (Ht := zbU) (fn := Tryz.f91) (Tryz.func91) (c := zbS) (by kernel_rfl) (by kernel_rfl) (by kernel_rfl)
end Go.Proofs.Y
namespace Go.Proofs.Y
open Go.Rb Go.Kx
noncomputable def z8I : Code := zj Tryz.f90
noncomputable def z8J : FuncId → Option GS := tabG [(44, z9A), (91, z5V), (92, z5U)]
theorem zhz : ΓOK Tryz.prog z8J := z8 (z7S) (z8 (z7e) (z8 (z7d) (zf)))
def z8K : HT := ⟨tabL [], tabH []⟩
noncomputable def z35 : GS := inl T z8J z8K z8I (zo Tryz.f90) (Tryz.f90.ntmps)
theorem z4y : GSOK Tryz.prog 90 z35 := yR tok zhz fmo (Ht := z8K) (fn := Tryz.f90) (Tryz.func90) (c := z8I) (by kernel_rfl) (by kernel_rfl) (by kernel_rfl)
end Go.Proofs.Y
namespace Go.Proofs.Y
open Go.Rb Go.Kx
noncomputable def jh : Code := zj Tryz.f109
noncomputable def ji : FuncId → Option GS := tabG [(91, z5V), (110, vN), (44, z9A)]
theorem z4X : ΓOK Tryz.prog ji := z8 (z7e) (z8 (VP) (z8 (z7S) (zf)))
def jj : HT := ⟨tabL [], tabH []⟩
noncomputable def vc : GS := inl T ji jj jh (zo Tryz.f109) (Tryz.f109.ntmps)
theorem Vp : GSOK Tryz.prog 109 vc := yR tok z4X fmo (Ht := jj) (fn := Tryz.f109) (Tryz.func109) (c := jh) (by kernel_rfl) (by kernel_rfl) (by kernel_rfl)
end Go.Proofs.Y
namespace Go.Proofs.Y
open Go.Rb Go.Kx
noncomputable def zbV : Code := zj Tryz.f89
noncomputable def zbW : FuncId → Option GS := tabG [(90, z35), (109, vc)]
theorem zls : ΓOK Tryz.prog zbW := z8 (z4y) (z8 (Vp) (zf))
def zbX : HT := ⟨tabL [(4, .it [] (dyn [.t 17 (.int .i64)]))], tabH []⟩
noncomputable def z5W : GS := inl T zbW zbX zbV (zo Tryz.f89) (Tryz.f89.ntmps)
theorem z7f : GSOK Tryz.prog 89 z5W := yR tok zls fmo (Ht := zbX) (fn := Tryz.f89) (Tryz.func89) (c := zbV) (by kernel_rfl) (by kernel_rfl) (by kernel_rfl)
end Go.Proofs.Y
namespace Go.Proofs.Y
open Go.Rb Go.Kx
noncomputable def JK : Code := zj Tryz.f63
noncomputable def JL : FuncId → Option GS := tabG [(89, z5W), (109, vc)]
theorem z6z : ΓOK Tryz.prog JL := z8 (z7f) (z8 (Vp) (zf))
def JM : HT := ⟨tabL [], tabH []⟩
abbrev vw : List IT := [.v (.one (.sl 95 (.cons (.sl 126 (.cons (.int .i64) (.cons (.int .i64) (.cons (.int .i64) (.one (.sl 4 (.one .bool))))))) (.one (.sl 73 (.cons (.int .i64) (.one (.int .i64)))))))) true, .v (.one (.sl 95 (.cons (.sl 126 (.cons (.int .i64) (.cons (.int .i64) (.cons (.int .i64) (.one (.sl 4 (.one .bool))))))) (.one (.sl 73 (.cons (.int .i64) (.one (.int .i64)))))))) true]
abbrev jR : List OT := [⟨.one .bool, false, []⟩]
set_option maxRecDepth 100000
noncomputable def Zj : List (List (Int × Int × Int × List Bool) × List (Int × Int)) → List (List (Int × Int × Int × List Bool) × List (Int × Int)) → Option Bool := fun a b => ifB (neI (lenI a) (lenI b)) (some false) (zi maxR (fun (x : Int) => ifB (ltI x (lenI a)) (z6 (atI a x) fun y => z6 (atI b x) fun y_1 => ifB (neI (lenI y.1) (lenI y_1.1)) (mapO Sum.inr (some false)) (zi maxR (fun (x_1 : Int) => ifB (ltI x_1 (lenI y.1)) (z6 (atI y.1 x_1) fun y => z6 (atI y_1.1 x_1) fun y_2 => z6 (yT (y.1, y.2.1, y.2.2.1, y.2.2.2) (y_2.1, y_2.2.1, y_2.2.2.1, y_2.2.2.2)) fun y => ifB (notB y) (mapO Sum.inr (mapO Sum.inr (some false))) (some (Sum.inl (wadd .i64 x_1 1)))) (mapO Sum.inr (z6 (z34 y.2 y_1.2) fun y => ifB (notB y) (mapO Sum.inr (some false)) (some (Sum.inl (wadd .i64 x 1)))))) 0)) (mapO Sum.inr (some true))) 0)
theorem z4b (x : PI vw) : Zj (x.1) (x.2) = fnE T JL JM JK (zo Tryz.f63) vw jR x := by kernel_rfl
noncomputable abbrev vO : GS := zq false vw jR fun x => Zj (x.1) (x.2)
theorem VQ : GSOK Tryz.prog 63 vO := zm tok z6z fmo (Ht := JM) (fn := Tryz.f63) (Tryz.func63) (c := JK) (by kernel_rfl) (by kernel_rfl) (by kernel_rfl) (by decide +kernel) (by decide) z4b
end Go.Proofs.Y
namespace Go.Proofs.Y
open Go.Rb Go.Kx
noncomputable def zbY : Code := zj Tryz.f35
noncomputable def zbZ : FuncId → Option GS := tabG [(89, z5W), (90, z35)]
theorem zlt : ΓOK Tryz.prog zbZ := z8 (z7f) (z8 (z4y) (zf))
def zc0 : HT := ⟨tabL [], tabH []⟩
abbrev z4c : List IT := [.v (.one (.sl 95 (.cons (.sl 126 (.cons (.int .i64) (.cons (.int .i64) (.cons (.int .i64) (.one (.sl 4 (.one .bool))))))) (.one (.sl 73 (.cons (.int .i64) (.one (.int .i64)))))))) true, .v (.one (.sl 95 (.cons (.sl 126 (.cons (.int .i64) (.cons (.int .i64) (.cons (.int .i64) (.one (.sl 4 (.one .bool))))))) (.one (.sl 73 (.cons (.int .i64) (.one (.int .i64)))))))) true]
abbrev zan : List OT := [⟨.one .bool, false, []⟩]
set_option maxRecDepth 100000
noncomputable def Ys : List (List (Int × Int × Int × List Bool) × List (Int × Int)) → List (List (Int × Int × Int × List Bool) × List (Int × Int)) → Option Bool := fun a b => ifB (neI (lenI a) (lenI b)) (some false) (zi maxR (fun (x : Int) => ifB (ltI x (lenI a)) (z6 (atI a x) fun y => z6 (atI b x) fun y_1 => z6 (z34 y.2 y_1.2) fun y_2 => ifB y_2 (ifB (neI (lenI y.1) (lenI y_1.1)) (mapO Sum.inr (some false)) (zi maxR (fun (x_1 : Int) => ifB (ltI x_1 (lenI y.1)) (z6 (atI y.1 x_1) fun y => z6 (atI y_1.1 x_1) fun y_3 => z6 (jP (y.1, y.2.1, y.2.2.1, y.2.2.2) (y_3.1, y_3.2.1, y_3.2.2.1, y_3.2.2.2)) fun y => ifB (notB y) (mapO Sum.inr (mapO Sum.inr (some false))) (some (Sum.inl (wadd .i64 x_1 1)))) (mapO Sum.inr (some (Sum.inl (wadd .i64 x 1))))) 0)) (mapO Sum.inr (some false))) (mapO Sum.inr (some true))) 0)
theorem zg8 (x : PI z4c) : Ys (x.1) (x.2) = fnE T zbZ zc0 zbY (zo Tryz.f35) z4c zan x := by kernel_rfl
noncomputable abbrev zc1 : GS := zq false z4c zan fun x => Ys (x.1) (x.2)
theorem zg9 : GSOK Tryz.prog 35 zc1 := zm tok zlt fmo (Ht := zc0) (fn := Tryz.f35) (Tryz.func35) (c := zbY) (by kernel_rfl) (by kernel_rfl) (by kernel_rfl) (by decide +kernel) (by decide) zg8
end Go.Proofs.Y
namespace Go.Proofs.Y
open Go.Rb Go.Kx
set_option maxRecDepth 100000
noncomputable def z5X : Int → Int → Option Int := fun a b => ifB (eqI b 0) none (ifB (ltI (wrem a b) 0) (some (wadd .i64 (wrem a b) b)) (some (wrem a b)))
end Go.Proofs.Y
namespace Go.Proofs.Y
open Go.Rb Go.Kx
noncomputable def jS : Code := zj Tryz.f70
noncomputable def jT : FuncId → Option GS := tabG []
theorem z5Y : ΓOK Tryz.prog jT := zf
def jU : HT := ⟨tabL [], tabH []⟩
abbrev vd : List IT := []
abbrev jk : List OT := [⟨.one (.sl 95 (.cons (.sl 126 (.cons (.int .i64) (.cons (.int .i64) (.cons (.int .i64) (.one (.sl 4 (.one .bool))))))) (.one (.sl 73 (.cons (.int .i64) (.one (.int .i64))))))), true, [true]⟩]
set_option maxRecDepth 100000
noncomputable def Z5 : Option (List (List (Int × Int × Int × List Bool) × List (Int × Int))) := ifB (z3l 48 4) (some (repI 4 ([], []))) none
theorem z3K (x : PI vd) : Z5  = fnE T jT jU jS (zo Tryz.f70) vd jk x := by kernel_rfl
noncomputable abbrev jV : GS := zq false vd jk fun x => Z5 
theorem z3L : GSOK Tryz.prog 70 jV := zm tok z5Y fmo (Ht := jU) (fn := Tryz.f70) (Tryz.func70) (c := jS) (by kernel_rfl) (by kernel_rfl) (by kernel_rfl) (by decide +kernel) (by decide) z3K
end Go.Proofs.Y
namespace Go.Proofs.Y
open Go.Rb Go.Kx
noncomputable def ze7 : Code := zj Tryz.f48
noncomputable def ze8 : FuncId → Option GS := tabG [(78, YT), (97, z7P)]
theorem zni : ΓOK Tryz.prog ze8 := z8 (YG) (z8 (z8w) (zf))
def ze9 : HT := ⟨tabL [], tabH []⟩
abbrev z5Z : List IT := [.v (.one (.sl 95 (.cons (.sl 126 (.cons (.int .i64) (.cons (.int .i64) (.cons (.int .i64) (.one (.sl 4 (.one .bool))))))) (.one (.sl 73 (.cons (.int .i64) (.one (.int .i64)))))))) true, .v (.one (.int .i64)) false]
abbrev zc2 : List OT := [⟨.one (.sl 73 (.cons (.int .i64) (.one (.int .i64)))), false, [true]⟩, ⟨.one (.int .i64), false, []⟩]
set_option maxRecDepth 100000
noncomputable def j5 : List (List (Int × Int × Int × List Bool) × List (Int × Int)) → Int → Option (List (Int × Int) × Int) := fun a b => z6 (yL a) fun y => ifB (neI y 0) (some ([], y)) (ifB (ltI b 0) (some ([], 5)) (ifB (geI b (lenI a)) (some ([], 5)) (z6 (atI a b) fun y => z6 (yy (y.1, y.2)) fun y => some (y.1, y.2))))
theorem zhA (x : PI z5Z) : j5 (x.1) (x.2) = fnE T ze8 ze9 ze7 (zo Tryz.f48) z5Z zc2 x := by kernel_rfl
noncomputable abbrev z7T : GS := zq false z5Z zc2 fun x => j5 (x.1) (x.2)
theorem z8L : GSOK Tryz.prog 48 z7T := zm tok zni fmo (Ht := ze9) (fn := Tryz.f48) (Tryz.func48) (c := ze7) (by kernel_rfl) (by kernel_rfl) (by kernel_rfl) (by decide +kernel) (by decide) zhA
end Go.Proofs.Y
namespace Go.Proofs.Y
open Go.Rb Go.Kx
noncomputable def z7g : Code := zj Tryz.f96
noncomputable def z7h : FuncId → Option GS := tabG []
theorem zga : ΓOK Tryz.prog z7h := zf
def z7i : HT := ⟨tabL [], tabH []⟩
noncomputable def jl : GS := inl T z7h z7i z7g (zo Tryz.f96) (Tryz.f96.ntmps)
theorem jW : GSOK Tryz.prog 96 jl := yR tok zga fmo (Ht := z7i) (fn := Tryz.f96) (Tryz.func96) (c := z7g) (by kernel_rfl) (by kernel_rfl) (by kernel_rfl)
end Go.Proofs.Y
namespace Go.Proofs.Y
open Go.Rb Go.Kx
noncomputable def zc3 : Code := zj Tryz.f125
noncomputable def zc4 : FuncId → Option GS := tabG [(96, jl)]
theorem zlu : ΓOK Tryz.prog zc4 := z8 (jW) (zf)
def zc5 : HT := ⟨tabL [(2, .it [] (dyn [.t 8 (.int .i64)]))], tabH []⟩
noncomputable def zc6 : GS := inl T zc4 zc5 zc3 (zo Tryz.f125) (Tryz.f125.ntmps)
theorem zgb : GSOK Tryz.prog 125 zc6 := yR tok zlu fmo (Ht := zc5) (fn := Tryz.f125) (Tryz.func125) (c := zc3) (by kernel_rfl) (by kernel_rfl) (by kernel_rfl)
end Go.Proofs.Y
namespace Go.Proofs.Y
open Go.Rb Go.Kx
noncomputable def zao : Code := zj Tryz.f95
noncomputable def zap : FuncId → Option GS := tabG [(125, zc6), (96, jl)]
theorem zjG : ΓOK Tryz.prog zap := z8 (zgb) (z8 (jW) (zf))
def zaq : HT := ⟨tabL [(5, .it [] (dyn [.t 5 (.int .i64), .t 6 (.int .i64), .a 0 73 (.cons (.int .i64) (.one (.int .i64)))]))], tabH [(5, [.touch 0])]⟩
noncomputable def zar : GS := inl T zap zaq zao (zo Tryz.f95) (Tryz.f95.ntmps)
theorem zeP : GSOK Tryz.prog 95 zar := yR tok zjG fmo (Ht := zaq) (fn := Tryz.f95) (Tryz.func95) (c := zao) (by kernel_rfl) (by kernel_rfl) (by kernel_rfl)
end Go.Proofs.Y
namespace Go.Proofs.Y
open Go.Rb Go.Kx
noncomputable def zas : Code := zj Tryz.f46
noncomputable def zat : FuncId → Option GS := tabG [(48, z7T), (96, jl), (95, zar)]
theorem zjH : ΓOK Tryz.prog zat := z8 (z8L) (z8 (jW) (z8 (zeP) (zf)))
def zau : HT := ⟨tabL [], tabH []⟩
abbrev z36 : List IT := [.v (.one (.sl 95 (.cons (.sl 126 (.cons (.int .i64) (.cons (.int .i64) (.cons (.int .i64) (.one (.sl 4 (.one .bool))))))) (.one (.sl 73 (.cons (.int .i64) (.one (.int .i64)))))))) true, .v (.one (.int .i64)) false, .v (.one (.int .i64)) false, .v (.one (.int .i64)) false]
abbrev z8M : List OT := [⟨.one (.sl 73 (.cons (.int .i64) (.one (.int .i64)))), false, []⟩, ⟨.one (.int .i64), false, []⟩]
set_option maxRecDepth 100000
noncomputable def VS : List (List (Int × Int × Int × List Bool) × List (Int × Int)) → Int → Int → Int → Option (List (Int × Int) × Int) := fun a b c d => z6 (j5 a b) fun y => ifB (neI y.2 0) (some ([], y.2)) (zi maxR (fun (x : Int) => ifB (ltI x (lenI y.1)) (ifB (ltL x y.1) (z6 (atN y.1 (natI x)) fun y_1 => ifB (ltI y_1.1 c) (mapO Sum.inr (ifB (eqI x (-1)) (some (y.1, 0)) (zi maxR (fun (x : Int × Int × List (Int × Int)) => ifB (ltI x.2.1 (lenI x.2.2)) (ifB (ltL x.2.1 x.2.2) (z6 (atN x.2.2 (natI x.2.1)) fun y => ifB (ltI y.1 c) (some (Sum.inl (x.1, wadd .i64 x.2.1 1, x.2.2))) (ifB (notB (geI y.1 d)) (ifB (ltL x.1 x.2.2) (z6 (atN x.2.2 (natI x.1)) fun y_2 => some (Sum.inl (wadd .i64 x.1 1, wadd .i64 x.2.1 1, setN x.2.2 (natI x.1) (y.1, y.2)))) none) (some (Sum.inl (x.1, wadd .i64 x.2.1 1, x.2.2))))) none) (mapO Sum.inr (ifB (in1 x.2.2 x.1) (ifB (inN x.2.2 (addN 0 (natI x.1)) (Zh (lenN x.2.2) x.1)) (ifB (in1 (zL x.2.2 (addN 0 (natI x.1)) (repN (Zh (lenN x.2.2) x.1) (0, 0))) x.1) (ifB (inN (zL x.2.2 (addN 0 (natI x.1)) (repN (Zh (lenN x.2.2) x.1) (0, 0))) 0 (natI x.1)) (some (subN (zL x.2.2 (addN 0 (natI x.1)) (repN (Zh (lenN x.2.2) x.1) (0, 0))) 0 (natI x.1), 0)) none) none) none) none))) (x, wadd .i64 x 1, y.1)))) (ifB (geI y_1.1 d) (mapO Sum.inr (ifB (eqI x (-1)) (some (y.1, 0)) (zi maxR (fun (x : Int × Int × List (Int × Int)) => ifB (ltI x.2.1 (lenI x.2.2)) (ifB (ltL x.2.1 x.2.2) (z6 (atN x.2.2 (natI x.2.1)) fun y => ifB (ltI y.1 c) (some (Sum.inl (x.1, wadd .i64 x.2.1 1, x.2.2))) (ifB (notB (geI y.1 d)) (ifB (ltL x.1 x.2.2) (z6 (atN x.2.2 (natI x.1)) fun y_2 => some (Sum.inl (wadd .i64 x.1 1, wadd .i64 x.2.1 1, setN x.2.2 (natI x.1) (y.1, y.2)))) none) (some (Sum.inl (x.1, wadd .i64 x.2.1 1, x.2.2))))) none) (mapO Sum.inr (ifB (in1 x.2.2 x.1) (ifB (inN x.2.2 (addN 0 (natI x.1)) (Zh (lenN x.2.2) x.1)) (ifB (in1 (zL x.2.2 (addN 0 (natI x.1)) (repN (Zh (lenN x.2.2) x.1) (0, 0))) x.1) (ifB (inN (zL x.2.2 (addN 0 (natI x.1)) (repN (Zh (lenN x.2.2) x.1) (0, 0))) 0 (natI x.1)) (some (subN (zL x.2.2 (addN 0 (natI x.1)) (repN (Zh (lenN x.2.2) x.1) (0, 0))) 0 (natI x.1), 0)) none) none) none) none))) (x, wadd .i64 x 1, y.1)))) (some (Sum.inl (wadd .i64 x 1))))) none) (mapO Sum.inr (some (y.1, 0)))) 0)
theorem zeQ (x : PI z36) : VS (x.1) (x.2.1) (x.2.2.1) (x.2.2.2) = fnE T zat zau zas (zo Tryz.f46) z36 z8M x := by kernel_rfl
noncomputable abbrev zav : GS := zq false z36 z8M fun x => VS (x.1) (x.2.1) (x.2.2.1) (x.2.2.2)
theorem zeR : GSOK Tryz.prog 46 zav := zm tok zjH fmo (Ht := zau) (fn := Tryz.f46) (Tryz.func46) (c := zas) (by kernel_rfl) (by kernel_rfl) (by kernel_rfl) (by decide +kernel) (by decide) zeQ
end Go.Proofs.Y
namespace Go.Proofs.Y
open Go.Rb Go.Kx
set_option maxRecDepth 100000
end Go.Proofs.Y
namespace Go.Rb
def z2i (n : Int) (k : Nat) : Bool := n / 2 ^ k % 2 == 1
def y7 (w : Nat) (n : Int) : List Bool := (List.range w).map fun j => z2i n (w - 1 - j)
def zdi (n w : Int) : Prop := 0 ≤ w ∧ w ≤ 40 ∧ 0 ≤ n ∧ n < 2 ^ w.toNat
instance (n w : Int) : Decidable (zdi n w) := by unfold zdi; infer_instance
def putR (l : List Bool) (n w : Int) : List Bool × Int := if zdi n w then (l ++ y7 w.toNat n, 0) else ([], 3)
def val (l : List Bool) : Int := l.foldl (fun n b => 2 * n + (if b then 1 else 0)) 0
def zX (l : List Bool) (w : Int) : Int × Int := if w < 0 ∨ w > 40 then (0, 3) else if (l.length : Int) < w then (0, 8) else (val (l.take w.toNat), 0)
theorem yY (w : Nat) (n : Int) : (y7 w n).length = w := by simp [y7]
theorem zqq {w : Nat} {n : Int} {j : Nat} (h : j < w) : (y7 w n).getD j default = z2i n (w - 1 - j) := by
 simp [y7, List.getD, h]
theorem z9B (k : Nat) : (0 : Int) < 2 ^ k := Int.pow_pos (by omega)
theorem zs2 {a : Int} (h0 : 0 ≤ a) (h1 : a ≤ 9223372036854775807) : IntKind.wrap .i64 ((BitVec.ofInt (IntKind.i64.bits) a &&& BitVec.ofInt (IntKind.i64.bits) 1).toNat : Int) = a % 2 := by
 have hb : IntKind.i64.bits = 64 := rfl
 rw [hb]
 obtain ⟨m, rfl⟩ : ∃ m : Nat, a = (m : Int) := ⟨a.toNat, by omega⟩
 have h2 : (BitVec.ofInt 64 (m : Int)).toNat = m := by
  simp only [BitVec.toNat_ofInt]
  omega
 have h3 : (BitVec.ofInt 64 (1 : Int)).toNat = 1 := by decide
 rw [BitVec.toNat_and, h2, h3, Nat.and_one_is_mod, z2h (by omega) (by omega)]
 omega
theorem zs3 {a : Int} (h0 : 0 ≤ a) (k : Nat) : a.fdiv (2 ^ k) = a / 2 ^ k := Int.fdiv_eq_ediv_of_nonneg a (by have := z9B k; omega)
theorem zpc {a : Int} (h0 : 0 ≤ a) (k : Nat) : 0 ≤ a / 2 ^ k ∧ a / 2 ^ k ≤ a := by
 have := z9B k
 refine ⟨Int.ediv_nonneg h0 (by omega), Int.ediv_le_self _ h0⟩
theorem zlv {n : Int} {w : Nat} (h0 : 0 ≤ n) : n / 2 ^ w = 0 ↔ n < 2 ^ w := by
 have h1 := z9B w
 constructor
 ·intro h
  have := Int.lt_ediv_add_one_mul_self n h1
  rw [h] at this
  omega
 ·intro h
  exact Int.ediv_eq_zero_of_lt h0 h
theorem zlw (l : List Bool) (b : Bool) : val (l ++ [b]) = 2 * val l + (if b then 1 else 0) := by simp [val]
theorem zqr : ∀ (l : List Bool), 0 ≤ val l ∧ val l < 2 ^ l.length := by
 intro l
 have key : ∀ (l : List Bool) (a : Int) (k : Nat), 0 ≤ a → a < 2 ^ k → 0 ≤ l.foldl (fun n b => 2 * n + (if b then 1 else 0)) a ∧ l.foldl (fun n b => 2 * n + (if b then 1 else 0)) a < 2 ^ (k + l.length) := by
  intro l
  induction l with
  | nil => intro a k h0 h1; exact ⟨h0, h1⟩
  | cons b l ih =>
   intro a k h0 h1
   rw [List.foldl_cons, List.length_cons, show k + (l.length + 1) = (k + 1) + l.length from by omega]
   refine ih _ (k + 1) ?_ ?_
   ·split <;> omega
   ·rw [Int.pow_succ]
    split <;> omega
 have := key l 0 0 (by omega) (by decide)
 simpa [val] using this
end Go.Rb
namespace Go.Rb
theorem zs4 {a b : Nat} (h : a ≤ b) : (2 : Int) ^ a ≤ 2 ^ b := by
 have := Nat.pow_le_pow_right (n := 2) (by omega) h
 exact_mod_cast this
theorem zve {k : Nat} (h : k ≤ 40) : 0 < (2 : Int) ^ k ∧ (2 : Int) ^ k ≤ 1099511627776 := ⟨z9B k, zs4 (b := 40) h⟩
end Go.Rb
namespace Go.Rb
theorem zgc (w : Nat) (n : Int) : y7 (w + 1) n = y7 w (n / 2) ++ [z2i n 0] := by
 apply List.ext_getElem
 ·simp [yY]
 ·intro i h1 h2
  rw [List.getElem_append]
  rw [yY] at h1
  split
  ·rename_i h3
   rw [yY] at h3
   simp only [y7, List.getElem_map, List.getElem_range, z2i]
   rw [Int.ediv_ediv_of_nonneg (by omega), show w + 1 - 1 - i = (w - 1 - i) + 1 from by omega, Int.pow_succ, Int.mul_comm]
  ·rename_i h3
   rw [yY] at h3
   have hi : i = w := by omega
   subst hi
   simp [y7, yY]
theorem ziD : ∀ (w : Nat) (n : Int), 0 ≤ n → n < 2 ^ w → val (y7 w n) = n
 | 0, n, h0, h1 => by
  have : n = 0 := by simp at h1; omega
  subst this; rfl
 | w + 1, n, h0, h1 => by
  rw [Int.pow_succ] at h1
  rw [zgc, zlw, ziD w (n / 2) (by omega) (by omega)]
  simp only [z2i, Int.pow_zero, Int.ediv_one]
  by_cases h : n % 2 = 1
  ·simp [h]; omega
  ·simp [h]; omega
theorem zqs : ∀ l : List Bool, y7 l.length (val l) = l := by
 intro l
 induction h : l.length generalizing l with
 | zero => rw [List.length_eq_zero_iff] at h; subst h; rfl
 | succ w ih =>
  have hl : l ≠ [] := by intro h0; subst h0; simp at h
  rw [zgc]
  obtain ⟨k, b, rfl⟩ : ∃ k b, l = k ++ [b] := ⟨l.dropLast, l.getLast hl, (List.dropLast_concat_getLast hl).symm⟩
  have hk : k.length = w := by simpa using h
  rw [zlw]
  have e1 : (2 * val k + (if b then 1 else 0)) / 2 = val k := by cases b <;> simp <;> omega
  have e2 : z2i (2 * val k + (if b then 1 else 0)) 0 = b := by
   simp only [z2i, Int.pow_zero, Int.ediv_one]
   cases b
   ·simp
   ·simp only [if_true, beq_iff_eq]; omega
  rw [e1, e2, ih k hk]
/-! ### Numbers one after the other -/
end Go.Rb
namespace Go.Rb
def ZH (v : Int) : Int := if v < 0 then -2 * v - 1 else 2 * v
theorem z38 (v : Int) : (v < 0 ∧ ZH v = -2 * v - 1) ∨ (0 ≤ v ∧ ZH v = 2 * v) := by unfold ZH; split <;> omega
def unf (n : Int) : Int := if n % 2 = 1 then (-(n + 1)).tdiv 2 else n.tdiv 2
theorem z8N {n : Int} (h : 0 ≤ n) : (n % 2 = 1 ∧ unf n = -(n / 2 + 1) ∧ (0 - (n + 1)).tdiv 2 = unf n) ∨ (n % 2 = 0 ∧ unf n = n / 2 ∧ n.tdiv 2 = unf n) := by
 unfold unf
 have h1 : n.tdiv 2 = n / 2 := Int.tdiv_eq_ediv_of_nonneg h
 have h2 : (-(n + 1)).tdiv 2 = -((n + 1) / 2) := by rw [Int.neg_tdiv, Int.tdiv_eq_ediv_of_nonneg (by omega)]
 split
 ·left; refine ⟨by assumption, ?_, by rw [Int.zero_sub]⟩; rw [h2]; omega
 ·right; refine ⟨by omega, h1, rfl⟩
theorem zs5 (v : Int) : unf (ZH v) = v := by
 have h := z38 v
 have h1 := z8N (n := ZH v) (by omega)
 omega
theorem zs6 {n : Int} (h : 0 ≤ n) : ZH (unf n) = n := by
 have h1 := z8N h
 have h2 := z38 (unf n)
 omega
theorem pow8 {k : Nat} (h : k ≤ 8) : 1 ≤ (8 : Int) ^ k ∧ (8 : Int) ^ k ≤ 16777216 := by
 have h1 : (8 : Int) ^ k ≤ 8 ^ 8 := by
  have := Nat.pow_le_pow_right (n := 8) (by omega) h
  exact_mod_cast this
 have h2 : (0 : Int) < 8 ^ k := Int.pow_pos (by omega)
 exact ⟨by omega, h1⟩
def zenc : Nat → Int → List Bool
 | 0, _ => []
 | f + 1, m => y7 4 ((if m ≥ 8 then 8 else 0) + m % 8) ++ (if m ≥ 8 then zenc f (m / 8) else [])
theorem jX {f : Nat} {m : Int} (hf : 1 ≤ f) (h : m < 8) : zenc f m = y7 4 (0 + m % 8) := by
 obtain ⟨g, rfl⟩ : ∃ g, f = g + 1 := ⟨f - 1, by omega⟩
 rw [zenc, if_neg (by omega), if_neg (by omega), List.append_nil]
theorem z1j {f : Nat} {m : Int} (hf : 1 ≤ f) (h : 8 ≤ m) : zenc f m = y7 4 (8 + m % 8) ++ zenc (f - 1) (m / 8) := by
 obtain ⟨g, rfl⟩ : ∃ g, f = g + 1 := ⟨f - 1, by omega⟩
 rw [zenc, if_pos h, if_pos h]; rfl
theorem z39 : ∀ (f : Nat) (m : Int), (zenc f m).length ≤ 4 * f
 | 0, _ => by simp [zenc]
 | f + 1, m => by
  have := z39 f (m / 8)
  rw [zenc, List.length_append, yY]
  split
  ·omega
  ·simp; omega
theorem z8O {m : Int} {f : Nat} (h : m < 8 ^ f) (h8 : 8 ≤ m) : 2 ≤ f ∧ m / 8 < 8 ^ (f - 1) := by
 match f, h with
 | 0, h => simp at h; omega
 | 1, h => simp at h; omega
 | f + 2, h =>
  refine ⟨by omega, ?_⟩
  rw [Int.pow_succ] at h
  show m / 8 < 8 ^ (f + 1)
  omega
def z2j (l : List Bool) (v : Int) : List Bool × Int := if v < -4000000 ∨ v > 4000000 then ([], 3) else (l ++ zenc 8 (ZH v), 0)
theorem put4 (k : List Bool) {n : Int} (h0 : 0 ≤ n) (h1 : n < 16) : putR k n 4 = (k ++ y7 4 n, 0) := by
 unfold putR
 rw [if_pos ⟨by omega, by omega, h0, by simpa using h1⟩]; rfl
theorem putm {k : List Bool} {m : Int} (h : 0 ≤ m) : putR k (8 + m % 8) 4 = (k ++ y7 4 (8 + m % 8), 0) ∧ putR k (0 + m % 8) 4 = (k ++ y7 4 (0 + m % 8), 0) :=
 ⟨put4 k (by omega) (by omega), put4 k (by omega) (by omega)⟩
/-! ### Reading -/
def ZX : Nat → Nat → Int → Int → List Bool → Int × Int × Int
 | 0, _, _, _, _ => (0, 0, 3)
 | f + 1, k, n, sc, l =>
  if l.length < 4 then (0, 0, 8) else
  if (zX l 4).1 = 0 ∧ k > 0 then (0, 0, 4) else
  if n + (zX l 4).1 % 8 * sc > 8000000 then (0, 0, 3) else
  if (zX l 4).1 < 8 then (unf (n + (zX l 4).1 % 8 * sc), 4 * (k : Int) + 4, 0) else ZX f (k + 1) (n + (zX l 4).1 % 8 * sc) (sc * 8) (l.drop 4)
def zw (l : List Bool) : Int × Int × Int := ZX 8 0 0 1 l
theorem rd4 (d : List Bool) : (d.length < 4 ∧ (zX d 4).1 = 0 ∧ (zX d 4).2 = 8) ∨ (4 ≤ d.length ∧ (zX d 4).1 = val (d.take 4) ∧ (zX d 4).2 = 0 ∧ 0 ≤ (zX d 4).1 ∧ (zX d 4).1 < 16) := by
 unfold zX
 rw [if_neg (by omega)]
 by_cases h : (d.length : Int) < 4
 ·rw [if_pos h]; left; exact ⟨by omega, rfl, rfl⟩
 ·rw [if_neg h]
  have h1 := zqr (d.take 4)
  rw [List.length_take, Nat.min_eq_left (by omega)] at h1
  right; exact ⟨by omega, rfl, rfl, h1.1, by simpa using h1.2⟩
section
variable {f k : Nat} {n sc : Int} {l : List Bool}
theorem z8P (hf : 1 ≤ f) (h : l.length < 4) : ZX f k n sc l = (0, 0, 8) := by
 obtain ⟨g, rfl⟩ : ∃ g, f = g + 1 := ⟨f - 1, by omega⟩
 rw [ZX, if_pos h]
theorem z8Q (hf : 1 ≤ f) (h : 4 ≤ l.length) (h0 : (zX l 4).1 = 0) (hk : 0 < k) : ZX f k n sc l = (0, 0, 4) := by
 obtain ⟨g, rfl⟩ : ∃ g, f = g + 1 := ⟨f - 1, by omega⟩
 rw [ZX, if_neg (by omega), if_pos ⟨h0, hk⟩]
theorem z60 (hf : 1 ≤ f) (h : 4 ≤ l.length) (h0 : ¬ ((zX l 4).1 = 0 ∧ 0 < k)) (h1 : n + (zX l 4).1 % 8 * sc > 8000000) : ZX f k n sc l = (0, 0, 3) := by
 obtain ⟨g, rfl⟩ : ∃ g, f = g + 1 := ⟨f - 1, by omega⟩
 rw [ZX, if_neg (by omega), if_neg h0, if_pos h1]
theorem z3a (hf : 1 ≤ f) (h : 4 ≤ l.length) (h0 : ¬ ((zX l 4).1 = 0 ∧ 0 < k)) (h1 : ¬ n + (zX l 4).1 % 8 * sc > 8000000) (h2 : (zX l 4).1 < 8) : ZX f k n sc l = (unf (n + (zX l 4).1 % 8 * sc), 4 * (k : Int) + 4, 0) := by
 obtain ⟨g, rfl⟩ : ∃ g, f = g + 1 := ⟨f - 1, by omega⟩
 rw [ZX, if_neg (by omega), if_neg h0, if_neg h1, if_pos h2]
theorem z5h (hf : 1 ≤ f) (h : 4 ≤ l.length) (h0 : ¬ ((zX l 4).1 = 0 ∧ 0 < k)) (h1 : ¬ n + (zX l 4).1 % 8 * sc > 8000000) (h2 : ¬ (zX l 4).1 < 8) : ZX f k n sc l = ZX (f - 1) (k + 1) (n + (zX l 4).1 % 8 * sc) (sc * 8) (l.drop 4) := by
 obtain ⟨g, rfl⟩ : ∃ g, f = g + 1 := ⟨f - 1, by omega⟩
 rw [ZX, if_neg (by omega), if_neg h0, if_neg h1, if_neg h2]; rfl
end
theorem zlx {a b c : Int} (h0 : 0 ≤ a) (h1 : a ≤ 7) (h2 : 0 ≤ b) (h3 : b ≤ c) : 0 ≤ a * b ∧ a * b ≤ 7 * c := by
 refine ⟨Int.mul_nonneg h0 h2, ?_⟩
 have h4 : a * b ≤ 7 * b := Int.mul_le_mul_of_nonneg_right h1 h2
 omega
theorem zeS : ∀ (f k : Nat) (n sc : Int) (l : List Bool), (ZX f k n sc l).2.2 = 0 → 4 * (k : Int) ≤ (ZX f k n sc l).2.1 ∧ (ZX f k n sc l).2.1 ≤ 4 * (k : Int) + l.length
 | 0, k, n, sc, l, h => by simp [ZX] at h
 | f + 1, k, n, sc, l, h => by
  by_cases h1 : l.length < 4
  ·rw [z8P (by omega) h1] at h; simp at h
  ·by_cases h2 : (zX l 4).1 = 0 ∧ 0 < k
   ·rw [z8Q (by omega) (by omega) h2.1 h2.2] at h; simp at h
   ·by_cases h3 : n + (zX l 4).1 % 8 * sc > 8000000
    ·rw [z60 (by omega) (by omega) h2 h3] at h; simp at h
    ·by_cases h4 : (zX l 4).1 < 8
     ·rw [z3a (by omega) (by omega) h2 h3 h4]; simp only; omega
     ·rw [z5h (by omega) (by omega) h2 h3 h4] at h ⊢
      have := zeS _ _ _ _ _ h
      rw [List.length_drop] at this
      simp only [Nat.add_sub_cancel] at this ⊢
      push_cast at this
      omega
theorem ziE : ∀ (f k : Nat) (n sc : Int) (l : List Bool), ¬ (ZX f k n sc l).2.2 = 0 → (ZX f k n sc l).1 = 0 ∧ (ZX f k n sc l).2.1 = 0
 | 0, k, n, sc, l, h => ⟨rfl, rfl⟩
 | f + 1, k, n, sc, l, h => by
  by_cases h1 : l.length < 4
  ·rw [z8P (by omega) h1]; exact ⟨rfl, rfl⟩
  ·by_cases h2 : (zX l 4).1 = 0 ∧ 0 < k
   ·rw [z8Q (by omega) (by omega) h2.1 h2.2]; exact ⟨rfl, rfl⟩
   ·by_cases h3 : n + (zX l 4).1 % 8 * sc > 8000000
    ·rw [z60 (by omega) (by omega) h2 h3]; exact ⟨rfl, rfl⟩
    ·by_cases h4 : (zX l 4).1 < 8
     ·rw [z3a (by omega) (by omega) h2 h3 h4] at h; simp at h
     ·rw [z5h (by omega) (by omega) h2 h3 h4] at h ⊢
      exact ziE _ _ _ _ _ h
theorem z7j {l : List Bool} (h : (zw l).2.2 = 0) : 0 ≤ (zw l).2.1 ∧ (zw l).2.1 ≤ l.length := by
 have := zeS 8 0 0 1 l h
 unfold zw
 omega
theorem zpd {l : List Bool} (h : ¬ (zw l).2.2 = 0) : (zw l).1 = 0 ∧ (zw l).2.1 = 0 := ziE 8 0 0 1 l h
def YQ (l : List Bool) : Int × List Bool × Int := ((zw l).1, (if (zw l).2.2 = 0 then l.drop (zw l).2.1.toNat else []), (zw l).2.2)
/-! ### The document's way -/
def dig : Nat → Int → List Int
 | 0, _ => []
 | f + 1, m => m % 8 :: (if m ≥ 8 then dig f (m / 8) else [])
def grp (more : Bool) (d : Int) : List Bool := [more, decide (d ≥ 4), decide (d.tmod 4 ≥ 2), d.tmod 2 == 1]
def YD (D : List Int) (i : Nat) : List Bool := ((List.range i).map fun (j : Nat) => grp (decide ((j : Int) < D.length - 1)) (D.getD j default)).flatten
theorem zea (D : List Int) (i : Nat) : YD D (i + 1) = YD D i ++ grp (decide ((i : Int) < D.length - 1)) (D.getD i default) := by simp [YD, List.range_succ]
theorem zpe (D : List Int) (i : Nat) : (YD D i).length = 4 * i := by
 induction i with
 | zero => simp [YD]
 | succ i ih => rw [zea, List.length_append, ih]; simp [grp]; omega
theorem zly {d : Int} (b : Bool) (h0 : 0 ≤ d) (h1 : d < 8) : grp b d = y7 4 ((if b then 8 else 0) + d) := by
 have h : d = 0 ∨ d = 1 ∨ d = 2 ∨ d = 3 ∨ d = 4 ∨ d = 5 ∨ d = 6 ∨ d = 7 := by omega
 cases b <;> rcases h with rfl | rfl | rfl | rfl | rfl | rfl | rfl | rfl <;> decide
theorem znj (d : Int) (D : List Int) : YD (d :: D) (D.length + 1) = grp (decide (0 < D.length)) d ++ YD D D.length := by
 unfold YD
 rw [List.range_succ_eq_map, List.map_cons, List.flatten_cons, List.map_map]
 congr 1
 ·congr 1
  simp only [List.length_cons]
  apply decide_eq_decide.2
  omega
 ·congr 1
  apply List.map_congr_left
  intro j _
  simp only [Function.comp, List.getD_cons_succ, List.length_cons]
  congr 1
  apply decide_eq_decide.2
  omega
theorem ztA {f : Nat} {m : Int} (h : 1 ≤ f) : 0 < (dig f m).length := by
 obtain ⟨g, rfl⟩ : ∃ g, f = g + 1 := ⟨f - 1, by omega⟩
 simp [dig]
theorem zlz : ∀ (f : Nat) (m : Int), 0 ≤ m → m < 8 ^ f → 1 ≤ f → YD (dig f m) (dig f m).length = zenc f m
 | 0, m, _, _, h => by omega
 | f + 1, m, h0, h1, _ => by
  rw [dig, List.length_cons, znj]
  by_cases h8 : m ≥ 8
  ·have h2 := z8O h1 h8
   rw [if_pos h8, z1j (by omega) h8]
   have hp := ztA (f := f) (m := m / 8) (by omega)
   rw [zlz f (m / 8) (by omega) h2.2 (by omega), zly _ (by omega) (by omega)]
   simp [hp]
  ·rw [if_neg h8, jX (by omega) (by omega), zly _ (by omega) (by omega)]
   simp [YD]
theorem zs7 {f : Nat} {m : Int} (hf : 1 ≤ f) (h0 : 0 ≤ m) : dig f m = (m % 8) :: (if m / 8 > 0 then dig (f - 1) (m / 8) else []) := by
 obtain ⟨g, rfl⟩ : ∃ g, f = g + 1 := ⟨f - 1, by omega⟩
 rw [dig]
 by_cases h8 : m ≥ 8
 ·rw [if_pos h8, if_pos (by omega)]; rfl
 ·rw [if_neg h8, if_neg (by omega)]
theorem zqt {v : Int} (h : -4000000 ≤ v ∧ v ≤ 4000000) : YD (dig 8 (ZH v)) (dig 8 (ZH v)).length = zenc 8 (ZH v) := by
 have h1 := z38 v
 exact zlz 8 _ (by omega) (by show _ < (16777216 : Int); omega) (by omega)
/-! A group as the document takes it apart. -/
def dAt (b : List Bool) (i : Nat) : Int := (if 0 < i ∧ b.getD 0 default then 4 else 0) + (if 1 < i ∧ b.getD 1 default then 2 else 0) + (if 2 < i ∧ b.getD 2 default then 1 else 0)
theorem zs8 {b : List Bool} {i : Nat} (h : i < 3) : dAt b (i + 1) = dAt b i + (if b.getD i default then (4 : Int) / 2 ^ i else 0) := by
 have h3 : i = 0 ∨ i = 1 ∨ i = 2 := by omega
 rcases h3 with rfl | rfl | rfl <;> simp [dAt]
theorem zgd (b : List Bool) (i : Nat) : 0 ≤ dAt b i ∧ dAt b i ≤ 7 := by
 unfold dAt
 split <;> split <;> split <;> omega
theorem group {l : List Bool} (h : 4 ≤ l.length) : (zX l 4).1 = (if l.getD 0 default then 8 else 0) + dAt ((l.take 4).drop 1) 3 := by
 match l, h with
 | a :: b :: c :: d :: r, _ =>
  have h1 := rd4 (a :: b :: c :: d :: r)
  simp only [List.length_cons] at h1
  have h2 : (zX (a :: b :: c :: d :: r) 4).1 = val [a, b, c, d] := by
   rcases h1 with h1 | h1
   ·omega
   ·exact h1.2.1
  rw [h2]
  show val [a, b, c, d] = (if a = true then 8 else 0) + dAt [b, c, d] 3
  cases a <;> cases b <;> cases c <;> cases d <;> decide
theorem ztB {l : List Bool} (h : 4 ≤ l.length) (hb : l.getD 0 default = false) : (zX l 4).1 = dAt ((l.take 4).drop 1) 3 := by rw [group h, hb]; simp
theorem ztC {l : List Bool} (h : 4 ≤ l.length) (hb : l.getD 0 default = true) : (zX l 4).1 = 8 + dAt ((l.take 4).drop 1) 3 := by rw [group h, hb]; simp
theorem zqu {l : List Bool} (h : 4 ≤ l.length) : (zX l 4).1 % 8 = dAt ((l.take 4).drop 1) 3 := by
 have h1 := group h
 have h2 := zgd ((l.take 4).drop 1) 3
 split at h1 <;> omega
end Go.Rb
namespace Go.Rb
theorem zt0 {x : Int} (h0 : 0 ≤ x) (h1 : x < 16) (r : List Bool) : (zX (y7 4 x ++ r) 4).1 = x ∧ 4 ≤ (y7 4 x ++ r).length ∧ (y7 4 x ++ r).drop 4 = r := by
 have hl : (y7 4 x).length = 4 := yY 4 x
 have h2 : 4 ≤ (y7 4 x ++ r).length := by rw [List.length_append, hl]; omega
 refine ⟨?_, h2, ?_⟩
 ·have h3 := rd4 (y7 4 x ++ r)
  have h4 : (y7 4 x ++ r).take 4 = y7 4 x := by rw [List.take_append_of_le_length (by omega), List.take_of_length_le (by omega)]
  rw [h4, ziD 4 x h0 (by simpa using h1)] at h3
  omega
 ·rw [List.drop_append_of_le_length (by omega), List.drop_of_length_le (by omega), List.nil_append]
theorem zqv (m sc : Int) : m % 8 * sc + m / 8 * (sc * 8) = m * sc := by
 have h1 : m / 8 * (sc * 8) = 8 * (m / 8) * sc := by rw [Int.mul_comm sc 8, ← Int.mul_assoc, Int.mul_comm (m / 8) 8]
 rw [h1, ← Int.add_mul]
 congr 1
 omega
theorem ziF : ∀ (f k : Nat) (n sc m : Int) (r : List Bool), 1 ≤ f → 0 ≤ m → m < 8 ^ f → 0 ≤ n → 1 ≤ sc → n + m * sc ≤ 8000000 → (0 < k → 1 ≤ m) →
  ZX f k n sc (zenc f m ++ r) = (unf (n + m * sc), 4 * (k : Int) + (zenc f m).length, 0)
 | 0, k, n, sc, m, r, hf, _, _, _, _, _, _ => by omega
 | f + 1, k, n, sc, m, r, hf, h0, h1, hn, hsc, hb, hk => by
  by_cases h8 : m < 8
  ·rw [jX hf h8]
   have hr := zt0 (x := 0 + m % 8) (by omega) (by omega) r
   have hx : (zX (y7 4 (0 + m % 8) ++ r) 4).1 % 8 = m := by rw [hr.1]; omega
   rw [z3a hf hr.2.1 (by rw [hr.1]; omega) (by rw [hx]; omega) (by rw [hr.1]; omega), hx, yY]
   rfl
  ·have h2 := z8O h1 (by omega)
   rw [z1j hf (by omega), List.append_assoc]
   have hr := zt0 (x := 8 + m % 8) (by omega) (by omega) (zenc (f + 1 - 1) (m / 8) ++ r)
   have hx : (zX (y7 4 (8 + m % 8) ++ (zenc (f + 1 - 1) (m / 8) ++ r)) 4).1 % 8 = m % 8 := by rw [hr.1]; omega
   have hs := zqv m sc
   have hp1 : 0 ≤ m % 8 * sc := Int.mul_nonneg (by omega) (by omega)
   have hp2 : 0 ≤ m / 8 * (sc * 8) := Int.mul_nonneg (by omega) (by omega)
   rw [z5h hf hr.2.1 (by rw [hr.1]; omega) (by rw [hx]; omega) (by rw [hr.1]; omega), hx, hr.2.2]
   simp only [Nat.add_sub_cancel] at h2 ⊢
   rw [ziF f (k + 1) _ _ (m / 8) r (by omega) (by omega) h2.2 (by omega) (by omega) (by omega) (by omega), List.length_append, yY]
   rw [show n + m % 8 * sc + m / 8 * (sc * 8) = n + m * sc from by omega]
   refine Prod.ext rfl (Prod.ext ?_ rfl)
   push_cast
   omega
theorem zc7 : ∀ (f k : Nat) (n sc : Int) (l : List Bool), 0 ≤ n → 1 ≤ sc → (ZX f k n sc l).2.2 = 0 →
  ∃ m, 0 ≤ m ∧ m < 8 ^ f ∧ (0 < k → 1 ≤ m) ∧ n + m * sc ≤ 8000000 ∧ (ZX f k n sc l).1 = unf (n + m * sc) ∧ (ZX f k n sc l).2.1 = 4 * (k : Int) + (zenc f m).length ∧ l = zenc f m ++ l.drop (zenc f m).length
 | 0, k, n, sc, l, _, _, h => by simp [ZX] at h
 | f + 1, k, n, sc, l, hn, hsc, h => by
  by_cases h1 : l.length < 4
  ·rw [z8P (by omega) h1] at h; simp at h
  have hrd := rd4 l
  have hlt : (l.take 4).length = 4 := by rw [List.length_take]; omega
  have htk : y7 4 (zX l 4).1 = l.take 4 := by
   have h9 := zqs (l.take 4)
   rw [hlt] at h9
   rw [show (zX l 4).1 = val (l.take 4) from by omega]
   exact h9
  by_cases h2 : (zX l 4).1 = 0 ∧ 0 < k
  ·rw [z8Q (by omega) (by omega) h2.1 h2.2] at h; simp at h
  by_cases h3 : n + (zX l 4).1 % 8 * sc > 8000000
  ·rw [z60 (by omega) (by omega) h2 h3] at h; simp at h
  by_cases h4 : (zX l 4).1 < 8
  ·have hx : (zX l 4).1 % 8 = (zX l 4).1 := by omega
   have hp : (1 : Int) ≤ 8 ^ f := by have : (0 : Int) < 8 ^ f := Int.pow_pos (by omega); omega
   refine ⟨(zX l 4).1, by omega, by rw [Int.pow_succ]; omega, by omega, by rw [← hx]; omega, ?_, ?_, ?_⟩
   ·rw [z3a (by omega) (by omega) h2 h3 h4, hx]
   ·rw [z3a (by omega) (by omega) h2 h3 h4, jX (by omega) h4, yY]; rfl
   ·rw [jX (by omega) h4, Int.zero_add, hx, htk, hlt, List.take_append_drop]
  ·rw [z5h (by omega) (by omega) h2 h3 h4] at h ⊢
   have hp1 : 0 ≤ (zX l 4).1 % 8 * sc := Int.mul_nonneg (by omega) (by omega)
   simp only [Nat.add_sub_cancel] at h ⊢
   obtain ⟨m, g1, g2, g3, g4, g5, g6, g7⟩ := zc7 f (k + 1) _ _ _ (by omega) (by omega) h
   have g3' := g3 (by omega)
   have hs := zqv ((zX l 4).1 % 8 + 8 * m) sc
   rw [show ((zX l 4).1 % 8 + 8 * m) % 8 = (zX l 4).1 % 8 from by omega, show ((zX l 4).1 % 8 + 8 * m) / 8 = m from by omega] at hs
   have hz : zenc (f + 1) ((zX l 4).1 % 8 + 8 * m) = l.take 4 ++ zenc f m := by
    rw [z1j (by omega) (by omega), ← htk]
    rw [show 8 + ((zX l 4).1 % 8 + 8 * m) % 8 = (zX l 4).1 from by omega, show ((zX l 4).1 % 8 + 8 * m) / 8 = m from by omega]
    rfl
   refine ⟨(zX l 4).1 % 8 + 8 * m, by omega, by rw [Int.pow_succ]; omega, by omega, by omega, ?_, ?_, ?_⟩
   ·rw [g5]; congr 1; omega
   ·rw [g6, hz, List.length_append, hlt]; push_cast; omega
   ·rw [hz, List.length_append, hlt, List.append_assoc, ← List.drop_drop, ← g7, List.take_append_drop]
theorem z3b {v : Int} (h : -4000000 ≤ v ∧ v ≤ 4000000) (l : List Bool) : z2j l v = (l ++ zenc 8 (ZH v), 0) := by
 unfold z2j
 rw [if_neg (by omega)]
theorem zs9 {v : Int} (h : -4000000 ≤ v ∧ v ≤ 4000000) (r : List Bool) : YQ (zenc 8 (ZH v) ++ r) = (v, r, 0) := by
 have h1 := z38 v
 have h2 := ziF 8 0 0 1 (ZH v) r (by omega) (by omega) (by show _ < (16777216 : Int); omega) (by omega) (by omega) (by omega) (by omega)
 unfold YQ zw
 rw [h2]
 simp only [Int.zero_add, Int.mul_one, zs5, if_true]
 refine Prod.ext rfl (Prod.ext ?_ rfl)
 simp
theorem zqw {l : List Bool} (h : (YQ l).2.2 = 0) : z2j [] (YQ l).1 = ((z2j [] (YQ l).1).1, 0) ∧ (z2j [] (YQ l).1).1 ++ (YQ l).2.1 = l := by
 have h' : (ZX 8 0 0 1 l).2.2 = 0 := h
 obtain ⟨m, g1, g2, g3, g4, g5, g6, g7⟩ := zc7 8 0 0 1 l (by omega) (by omega) h'
 rw [Int.zero_add, Int.mul_one] at g4 g5
 have hu := z8N g1
 have hv : (YQ l).1 = unf m := g5
 have hr : (YQ l).2.1 = l.drop (zenc 8 m).length := by
  show (if (ZX 8 0 0 1 l).2.2 = 0 then l.drop (ZX 8 0 0 1 l).2.1.toNat else []) = _
  rw [if_pos h', g6]
  congr 1
  omega
 rw [hv, hr, z3b (by omega), zs6 g1]
 exact ⟨rfl, by rw [List.nil_append]; exact g7.symm⟩
end Go.Rb
namespace Go.Rb
def PtIn (p : Pt) : Prop := 0 ≤ p.1 ∧ p.1 ≤ 100000 ∧ -1000000 ≤ p.2 ∧ p.2 ≤ 1000000
def chk : Int → List Pt → Int
 | _, [] => 0
 | last, p :: r => if p.1 < 0 ∨ p.1 > 100000 ∨ p.2 < -1000000 ∨ p.2 > 1000000 then 3 else if last ≥ p.1 then 7 else chk p.1 r
def zZ (l : List Pt) : Int := if l.length > 40 then 2 else chk (-1) l
def z7k (l : List Pt) (i : Nat) : Int := if i = 0 then -1 else (l.getD (i - 1) default).1
theorem vo {α : Type} [Inhabited α] {l : List α} {i : Nat} (h : i < l.length) : l.drop i = l.getD i default :: l.drop (i + 1) := by
 rw [List.drop_eq_getElem_cons h]; simp [List.getD, List.getElem?_eq_getElem h]
theorem zsa {l : List Pt} {i : Nat} (h : i < l.length) : chk (z7k l i) (l.drop i) =
  if (l.getD i default).1 < 0 ∨ (l.getD i default).1 > 100000 ∨ (l.getD i default).2 < -1000000 ∨ (l.getD i default).2 > 1000000 then 3 else if z7k l i ≥ (l.getD i default).1 then 7 else chk (z7k l (i + 1)) (l.drop (i + 1)) := by
 rw [vo h, chk]
 simp [z7k]
theorem zoh : ∀ {l : List Pt} {last : Int}, chk last l = 0 → ∀ p ∈ l, PtIn p
 | [], _, _, p, hp => by cases hp
 | q :: l, last, h, p, hp => by
  rw [chk] at h
  split at h
  ·cases h
  ·split at h
   ·cases h
   ·rcases List.mem_cons.1 hp with rfl | hp
    ·unfold PtIn; omega
    ·exact zoh h p hp
theorem Yt {l : List Pt} (h : zZ l = 0) : l.length ≤ 40 := by
 unfold zZ at h
 split at h
 ·cases h
 ·omega
theorem z2k {l : List Pt} (h : zZ l = 0) : chk (-1) l = 0 := by
 unfold zZ at h
 split at h
 ·cases h
 ·exact h
theorem z9C {l : List Pt} (h : zZ l = 0) : ∀ p ∈ l, PtIn p := zoh (z2k h)
theorem y9 {α : Type} [Inhabited α] {l : List α} {i : Nat} (h : i < l.length) : l.getD i default ∈ l := by
 have : l.getD i default = l[i] := by simp [List.getD, List.getElem?_eq_getElem h]
 rw [this]; exact List.getElem_mem h
end Go.Rb
namespace Go.Rb
abbrev badP (p : Pt) : Prop := p.1 < 0 ∨ p.1 > 100000 ∨ p.2 < -1000000 ∨ p.2 > 1000000
def chkP (p : Pt) : Int := if badP p then 3 else 0
theorem zhB (p : Pt) : (badP p ∧ chkP p = 3) ∨ (PtIn p ∧ chkP p = 0) := by
 unfold chkP
 by_cases h : badP p
 ·left; exact ⟨h, if_pos h⟩
 ·right; exact ⟨by unfold badP at h; unfold PtIn; omega, if_neg h⟩
def YC (l : List Pt) (i : Nat) : Pt := if i = 0 then ⟨0, 0⟩ else l.getD (i - 1) default
def vH (l : List Pt) (i : Nat) : Int := if i = 0 then 0 else (l.getD (i - 1) default).1 - (YC l (i - 1)).1
theorem zpf (l : List Pt) (i : Nat) : YC l (i + 1) = l.getD i default := by simp [YC]
theorem zpg (l : List Pt) (i : Nat) : vH l (i + 1) = (l.getD i default).1 - (YC l i).1 := by simp [vH]
def ve (last : Pt) (step : Int) (p : Pt) : List Bool := zenc 8 (ZH (p.1 - last.1 - step)) ++ zenc 8 (ZH (p.2 - last.2))
def Yf (l : List Pt) (i : Nat) : List Bool := ((List.range i).map fun j => ve (YC l j) (vH l j) (l.getD j default)).flatten
theorem z7U (l : List Pt) (i : Nat) : Yf l (i + 1) = Yf l i ++ ve (YC l i) (vH l i) (l.getD i default) := by simp [Yf, List.range_succ]
theorem zqx (a : Pt) (s : Int) (p : Pt) : (ve a s p).length ≤ 64 := by
 have h1 := z39 8 (ZH (p.1 - a.1 - s))
 have h2 := z39 8 (ZH (p.2 - a.2))
 unfold ve; rw [List.length_append]; omega
theorem zge (l : List Pt) (i : Nat) : (Yf l i).length ≤ 64 * i := by
 induction i with
 | zero => simp [Yf]
 | succ i ih =>
  have := zqx (YC l i) (vH l i) (l.getD i default)
  rw [z7U, List.length_append]; omega
def Jm (l : List Pt) : List Bool × Int := if zZ l = 0 then (Yf l l.length, 0) else ([], zZ l)
theorem zt1 {l : List Pt} (h : zZ l = 0) {i : Nat} (hi : i < l.length) : PtIn (l.getD i default) ∧ PtIn (YC l i) ∧ -100000 ≤ vH l i ∧ vH l i ≤ 100000 := by
 have hall := z9C h
 have hp : ∀ j, j < l.length → PtIn (l.getD j default) := fun j hj => hall _ (y9 hj)
 have hl : ∀ j, j ≤ l.length → PtIn (YC l j) := by
  intro j hj
  unfold YC
  split
  ·unfold PtIn; decide
  ·exact hp _ (by omega)
 refine ⟨hp i hi, hl i (by omega), ?_⟩
 unfold vH
 split
 ·omega
 ·have h1 := hp (i - 1) (by omega)
  have h2 := hl (i - 1) (by omega)
  unfold PtIn at h1 h2
  omega
theorem second {l : List Pt} {i : Nat} : (i = 0 → (YC l i).1 = 0 ∧ (YC l i).2 = 0 ∧ vH l i = 0) ∧ (0 < i → (YC l i) = l.getD (i - 1) default) ∧ (i = 1 → vH l i = (l.getD (i - 1) default).1) ∧
  (1 < i → vH l i = (l.getD (i - 1) default).1 - (l.getD (i - 2) default).1) := by
 refine ⟨?_, ?_, ?_, ?_⟩
 ·rintro rfl; simp [YC, vH, ]
 ·intro h; unfold YC; rw [if_neg (by omega)]
 ·rintro rfl; simp [YC, vH, ]
 ·intro h
  unfold vH YC
  rw [if_neg (by omega), if_neg (by omega), show i - 1 - 1 = i - 2 from by omega]
/-! ### Unpacking -/
def vf (k : Nat) (last p : Pt) : Int := if badP p then 3 else if 0 < k ∧ last.1 ≥ p.1 then 7 else 0
def nxt (last : Pt) (step : Int) (b : List Bool) : Pt := ⟨last.1 + step + (zw b).1, last.2 + (zw (b.drop (zw b).2.1.toNat)).1⟩
def Zd (b : List Bool) : List Bool := b.drop (zw b).2.1.toNat
def z3s (b : List Bool) : List Bool := (Zd b).drop (zw (Zd b)).2.1.toNat
def unpk : Nat → Nat → Pt → Int → List Pt → List Bool → List Pt × Int
 | 0, _, _, _, acc, b => if b.length > 0 then ([], 8) else (acc, 0)
 | f + 1, k, last, step, acc, b =>
  if ¬ (zw b).2.2 = 0 then ([], (zw b).2.2) else
  if ¬ (zw (Zd b)).2.2 = 0 then ([], (zw (Zd b)).2.2) else
  if ¬ vf k last (nxt last step b) = 0 then ([], vf k last (nxt last step b)) else
  unpk f (k + 1) (nxt last step b) ((nxt last step b).1 - last.1) (acc ++ [nxt last step b]) (z3s b)
def ZU (b : List Bool) (n : Int) : List Pt × Int := if n < 0 ∨ n > 40 then ([], 2) else unpk n.toNat 0 ⟨0, 0⟩ 0 [] b
section
variable {f k : Nat} {last : Pt} {step : Int} {acc : List Pt} {b : List Bool}
theorem un_a (hf : 1 ≤ f) (h : ¬ (zw b).2.2 = 0) : unpk f k last step acc b = ([], (zw b).2.2) := by
 obtain ⟨g, rfl⟩ : ∃ g, f = g + 1 := ⟨f - 1, by omega⟩
 rw [unpk, if_pos h]
theorem un_b (hf : 1 ≤ f) (h : (zw b).2.2 = 0) (h1 : ¬ (zw (Zd b)).2.2 = 0) : unpk f k last step acc b = ([], (zw (Zd b)).2.2) := by
 obtain ⟨g, rfl⟩ : ∃ g, f = g + 1 := ⟨f - 1, by omega⟩
 rw [unpk, if_neg (by omega), if_pos h1]
theorem un_c (hf : 1 ≤ f) (h : (zw b).2.2 = 0) (h1 : (zw (Zd b)).2.2 = 0) (h2 : ¬ vf k last (nxt last step b) = 0) : unpk f k last step acc b = ([], vf k last (nxt last step b)) := by
 obtain ⟨g, rfl⟩ : ∃ g, f = g + 1 := ⟨f - 1, by omega⟩
 rw [unpk, if_neg (by omega), if_neg (by omega), if_pos h2]
theorem un_d (hf : 1 ≤ f) (h : (zw b).2.2 = 0) (h1 : (zw (Zd b)).2.2 = 0) (h2 : vf k last (nxt last step b) = 0) :
  unpk f k last step acc b = unpk (f - 1) (k + 1) (nxt last step b) ((nxt last step b).1 - last.1) (acc ++ [nxt last step b]) (z3s b) := by
 obtain ⟨g, rfl⟩ : ∃ g, f = g + 1 := ⟨f - 1, by omega⟩
 rw [unpk, if_neg (by omega), if_neg (by omega), if_neg (by omega)]; rfl
theorem un_e (h : b.length > 0) : unpk 0 k last step acc b = ([], 8) := by rw [unpk, if_pos h]
theorem un_f (h : ¬ b.length > 0) : unpk 0 k last step acc b = (acc, 0) := by rw [unpk, if_neg h]
end
theorem z9D (k : Nat) (last p : Pt) : (badP p ∧ vf k last p = 3) ∨ (PtIn p ∧ 0 < k ∧ p.1 ≤ last.1 ∧ vf k last p = 7) ∨ (PtIn p ∧ (k = 0 ∨ last.1 < p.1) ∧ vf k last p = 0) := by
 unfold vf
 by_cases h : badP p
 ·left; exact ⟨h, if_pos h⟩
 ·have hp : PtIn p := by unfold badP at h; unfold PtIn; omega
  right
  rw [if_neg h]
  by_cases h2 : 0 < k ∧ last.1 ≥ p.1
  ·left; rw [if_pos h2]; exact ⟨hp, h2.1, h2.2, rfl⟩
  ·right; rw [if_neg h2]; exact ⟨hp, by omega, rfl⟩
theorem zqy {acc : List Pt} {last p : Pt} {k : Nat} (hk : acc.length = k) (hl : PtIn last) (hlast : 0 < k → acc.getD (k - 1) default = last) : zZ (acc.drop (acc.length - 1) ++ [p]) = vf k last p := by
 by_cases h0 : k = 0
 ·have : acc = [] := List.eq_nil_of_length_eq_zero (by omega)
  subst this
  subst h0
  simp only [List.drop_nil, List.nil_append, zZ, List.length_cons, List.length_nil, chk, vf, badP]
  unfold PtIn at hl
  rw [if_neg (by omega)]
  by_cases hb : p.1 < 0 ∨ p.1 > 100000 ∨ p.2 < -1000000 ∨ p.2 > 1000000
  ·rw [if_pos hb, if_pos hb]
  ·rw [if_neg hb, if_neg hb, if_neg (by omega), if_neg (by omega)]
 ·have hd : acc.drop (acc.length - 1) = [last] := by
   rw [vo (by omega), List.drop_of_length_le (by omega), hk, hlast (by omega)]
  rw [hd]
  simp only [List.cons_append, List.nil_append, zZ, List.length_cons, List.length_nil, chk, vf, badP]
  unfold PtIn at hl
  rw [if_neg (by omega), if_neg (by omega), if_neg (by omega)]
  by_cases hb : p.1 < 0 ∨ p.1 > 100000 ∨ p.2 < -1000000 ∨ p.2 > 1000000
  ·rw [if_pos hb, if_pos hb]
  ·rw [if_neg hb, if_neg hb]
   by_cases hc : last.1 ≥ p.1
   ·rw [if_pos hc, if_pos ⟨by omega, hc⟩]
   ·rw [if_neg hc, if_neg (by omega)]
theorem z7l (l : List Bool) : -4000001 ≤ (zw l).1 ∧ (zw l).1 ≤ 4000000 := by
 by_cases h : (zw l).2.2 = 0
 ·obtain ⟨m, g1, g2, g3, g4, g5, _⟩ := zc7 8 0 0 1 l (by omega) (by omega) h
  rw [Int.zero_add, Int.mul_one] at g4 g5
  have hu := z8N g1
  have hv : (zw l).1 = unf m := g5
  omega
 ·rw [(zpd h).1]; omega
theorem zeb {b : List Bool} (h : (zw b).2.2 = 0) : (YQ b).2.1 = Zd b := by unfold YQ Zd; exact if_pos h
theorem zc8 (b : List Bool) : (Zd b).length ≤ b.length := by unfold Zd; rw [List.length_drop]; omega
theorem ziG (b : List Bool) : (z3s b).length ≤ b.length := by
 have := zc8 b
 unfold z3s; rw [List.length_drop]; omega
theorem zsb {b : List Bool} (h : (zw b).2.2 = 0) (h1 : (zw (Zd b)).2.2 = 0) : b.drop ((zw b).2.1 + (zw (Zd b)).2.1).toNat = z3s b := by
 have g1 := z7j h
 have g2 := z7j h1
 unfold z3s Zd
 unfold Zd at g2
 rw [List.drop_drop]
 congr 1
 omega
theorem zlA : ∀ (f k : Nat) (last : Pt) (step : Int) (acc : List Pt) (b : List Bool), (unpk f k last step acc b).1.length ≤ acc.length + f
 | 0, k, last, step, acc, b => by
  by_cases h : b.length > 0
  ·rw [un_e h]; simp
  ·rw [un_f h]; simp
 | f + 1, k, last, step, acc, b => by
  by_cases h1 : (zw b).2.2 = 0
  ·by_cases h2 : (zw (Zd b)).2.2 = 0
   ·by_cases h3 : vf k last (nxt last step b) = 0
    ·rw [un_d (by omega) h1 h2 h3]
     have := zlA (f + 1 - 1) (k + 1) (nxt last step b) ((nxt last step b).1 - last.1) (acc ++ [nxt last step b]) (z3s b)
     rw [List.length_append] at this
     simp only [List.length_cons, List.length_nil] at this
     omega
    ·rw [un_c (by omega) h1 h2 h3]; simp
   ·rw [un_b (by omega) h1 h2]; simp
  ·rw [un_a (by omega) h1]; simp
theorem z7V (b : List Bool) (n : Int) : (ZU b n).1.length ≤ 40 := by
 unfold ZU
 split
 ·simp
 ·have := zlA n.toNat 0 ⟨0, 0⟩ 0 [] b
  simp only [List.length_nil] at this
  omega
end Go.Rb
namespace Go.Rb
def YI : Pt → Int → List Pt → List Bool
 | _, _, [] => []
 | last, st, p :: r => ve last st p ++ YI p (p.1 - last.1) r
theorem zlB (l : List Pt) : ∀ (d i : Nat), i + d = l.length → Yf l i ++ YI (YC l i) (vH l i) (l.drop i) = Yf l l.length
 | 0, i, h => by
  rw [List.drop_of_length_le (by omega), show i = l.length from by omega]
  simp [YI]
 | d + 1, i, h => by
  rw [← zlB l d (i + 1) (by omega), z7U, vo (show i < l.length by omega), YI, zpf, zpg, List.append_assoc]
theorem z7m (l : List Pt) : YI ⟨0, 0⟩ 0 l = Yf l l.length := by
 have h := zlB l l.length 0 (by omega)
 simpa [Yf, YC, vH] using h
theorem zoi (m : Int) : 4 ≤ (zenc 8 m).length := by
 rw [zenc, List.length_append, yY]; omega
theorem zsc (a : Pt) (s : Int) (p : Pt) : 8 ≤ (ve a s p).length := by
 have h1 := zoi (p.1 - a.1 - s |> ZH)
 have h2 := zoi (ZH (p.2 - a.2))
 unfold ve; rw [List.length_append]; omega
theorem zgf {v : Int} (h : -4000000 ≤ v ∧ v ≤ 4000000) (r : List Bool) : (zw (zenc 8 (ZH v) ++ r)).1 = v ∧ (zw (zenc 8 (ZH v) ++ r)).2.2 = 0 ∧ Zd (zenc 8 (ZH v) ++ r) = r := by
 have h1 := zs9 h r
 refine ⟨congrArg Prod.fst h1, congrArg (fun x => x.2.2) h1, ?_⟩
 have h2 : (YQ (zenc 8 (ZH v) ++ r)).2.1 = r := congrArg (fun x => x.2.1) h1
 rw [← zeb (congrArg (fun x => x.2.2) h1), h2]
theorem zc9 {b : List Bool} (h : (zw b).2.2 = 0) : b = zenc 8 (ZH (zw b).1) ++ Zd b ∧ -4000000 ≤ (zw b).1 ∧ (zw b).1 ≤ 4000000 := by
 have h1 := zqw (l := b) h
 have hr : -4000000 ≤ (zw b).1 ∧ (zw b).1 ≤ 4000000 := by
  apply Classical.byContradiction
  intro hc
  have h2 : (z2j [] (YQ b).1).2 = 3 := by
   unfold z2j
   rw [if_pos (by show (zw b).1 < _ ∨ (zw b).1 > _; omega)]
  rw [h1.1] at h2
  simp at h2
 refine ⟨?_, hr⟩
 have h3 := h1.2
 rw [z3b (v := (YQ b).1) hr, zeb h, List.nil_append] at h3
 exact h3.symm
def L0 (k : Nat) (last : Pt) : Int := if k = 0 then -1 else last.1
theorem zeT {L : Int} {p : Pt} {r : List Pt} (h : chk L (p :: r) = 0) : PtIn p ∧ L < p.1 ∧ chk p.1 r = 0 := by
 rw [chk] at h
 split at h
 ·cases h
 ·split at h
  ·cases h
  ·exact ⟨by unfold PtIn; omega, by omega, h⟩
theorem zlC {L : Int} {p : Pt} {r : List Pt} (h1 : PtIn p) (h2 : L < p.1) (h3 : chk p.1 r = 0) : chk L (p :: r) = 0 := by
 unfold PtIn at h1
 rw [chk, if_neg (by omega), if_neg (by omega)]; exact h3
theorem zph {k : Nat} {last p : Pt} (h1 : PtIn p) (h2 : L0 k last < p.1) : vf k last p = 0 := by
 have h := z9D k last p
 unfold L0 at h2
 unfold badP at h
 unfold PtIn at h h1
 split at h2 <;> omega
theorem zqz {last p : Pt} {st : Int} (hl : PtIn last) (hs : -100000 ≤ st ∧ st ≤ 100000) (hp : PtIn p) (rest : List Bool) :
  (zw (ve last st p ++ rest)).2.2 = 0 ∧ (zw (Zd (ve last st p ++ rest))).2.2 = 0 ∧ nxt last st (ve last st p ++ rest) = p ∧ z3s (ve last st p ++ rest) = rest := by
 unfold PtIn at hl hp
 have h1 := zgf (v := p.1 - last.1 - st) (by omega) (zenc 8 (ZH (p.2 - last.2)) ++ rest)
 have h2 := zgf (v := p.2 - last.2) (by omega) rest
 have e : ve last st p ++ rest = zenc 8 (ZH (p.1 - last.1 - st)) ++ (zenc 8 (ZH (p.2 - last.2)) ++ rest) := by unfold ve; rw [List.append_assoc]
 have hb : Zd (ve last st p ++ rest) = zenc 8 (ZH (p.2 - last.2)) ++ rest := by rw [e, h1.2.2]
 refine ⟨by rw [e]; exact h1.2.1, by rw [hb]; exact h2.2.1, ?_, ?_⟩
 ·show (⟨last.1 + st + (zw (ve last st p ++ rest)).1, last.2 + (zw (Zd (ve last st p ++ rest))).1⟩ : Pt) = p
  rw [hb, h2.1, e, h1.1]
  cases p
  simp only [Prod.mk.injEq, ]
  omega
 ·show Zd (Zd (ve last st p ++ rest)) = rest
  rw [hb, h2.2.2]
theorem zca : ∀ (r : List Pt) (k : Nat) (last : Pt) (st : Int) (acc : List Pt) (more : List Bool), PtIn last → (-100000 ≤ st ∧ st ≤ 100000) → chk (L0 k last) r = 0 →
  unpk r.length k last st acc (YI last st r ++ more) = if more.length > 0 then ([], 8) else (acc ++ r, 0)
 | [], k, last, st, acc, more, _, _, _ => by simp [YI, unpk]
 | p :: r, k, last, st, acc, more, hl, hs, hc => by
  obtain ⟨h1, h2, h3⟩ := zeT hc
  have hi := zqz hl hs h1 (YI p (p.1 - last.1) r ++ more)
  rw [YI, List.append_assoc, List.length_cons, un_d (by omega) hi.1 hi.2.1 (by rw [hi.2.2.1]; exact zph h1 h2), hi.2.2.1, hi.2.2.2, Nat.add_sub_cancel]
  have hl' := hl
  have h1' := h1
  unfold PtIn at hl' h1'
  rw [zca r (k + 1) p (p.1 - last.1) (acc ++ [p]) more h1 (by omega) (by unfold L0; rw [if_neg (by omega)]; exact h3), List.append_assoc]
  rfl
theorem zcb : ∀ (r1 r2 : List Pt) (last : Pt) (st : Int), ∃ last' st', YI last st (r1 ++ r2) = YI last st r1 ++ YI last' st' r2
 | [], r2, last, st => ⟨last, st, rfl⟩
 | p :: r1, r2, last, st => by
  obtain ⟨a, b, h⟩ := zcb r1 r2 p (p.1 - last.1)
  exact ⟨a, b, by rw [List.cons_append, YI, h, YI, List.append_assoc]⟩
theorem zlD : ∀ (l : List Pt) (L : Int) (k : Nat), chk L l = 0 → chk L (l.take k) = 0
 | [], _, _, _ => by simp [chk]
 | p :: l, L, 0, _ => rfl
 | p :: l, L, k + 1, h => by
  obtain ⟨h1, h2, h3⟩ := zeT h
  rw [List.take_succ_cons]
  exact zlC h1 h2 (zlD l p.1 k h3)
theorem znk {l : List Pt} (h : zZ l = 0) (k : Nat) : zZ (l.take k) = 0 := by
 have h1 := Yt h
 unfold zZ
 rw [if_neg (by rw [List.length_take]; omega)]
 exact zlD l (-1) k (z2k h)
theorem z3c : PtIn ⟨0, 0⟩ := by unfold PtIn; decide
theorem ziH {l : List Pt} (h : zZ l = 0) : Jm l = (Yf l l.length, 0) ∧ ZU (Yf l l.length) l.length = (l, 0) ∧ (0 < l.length → ¬ (ZU (Yf l l.length) (l.length - 1)).2 = 0) := by
 have hl := Yt h
 refine ⟨by unfold Jm; rw [if_pos h], ?_, ?_⟩
 ·unfold ZU
  rw [if_neg (by omega)]
  have h1 := zca l 0 ⟨0, 0⟩ 0 [] [] z3c (by omega) (z2k h)
  rw [List.append_nil, z7m] at h1
  rw [show ((l.length : Int)).toNat = l.length from by omega, h1]
  simp
 ·intro h0
  unfold ZU
  rw [if_neg (by omega), show ((l.length : Int) - 1).toNat = (l.take (l.length - 1)).length from by rw [List.length_take]; omega]
  obtain ⟨a, b, hab⟩ := zcb (l.take (l.length - 1)) (l.drop (l.length - 1)) ⟨0, 0⟩ 0
  rw [List.take_append_drop] at hab
  rw [← z7m, hab, zca _ 0 ⟨0, 0⟩ 0 [] _ z3c (by omega) (z2k (znk h _))]
  rw [if_pos]
  ·decide
  ·rw [vo (by omega), YI, List.length_append]
   have := zsc a b (l.getD (l.length - 1) default)
   omega
theorem zlE : ∀ (f k : Nat) (last : Pt) (st : Int) (acc : List Pt) (b : List Bool), PtIn last → (unpk f k last st acc b).2 = 0 →
  ∃ r, r.length = f ∧ (unpk f k last st acc b).1 = acc ++ r ∧ b = YI last st r ∧ chk (L0 k last) r = 0
 | 0, k, last, st, acc, b, _, h => by
  by_cases hb : b.length > 0
  ·rw [un_e hb] at h; simp at h
  ·rw [un_f hb]
   exact ⟨[], rfl, by simp, by simpa [YI] using hb, rfl⟩
 | f + 1, k, last, st, acc, b, hl, h => by
  by_cases h1 : (zw b).2.2 = 0
  ·by_cases h2 : (zw (Zd b)).2.2 = 0
   ·by_cases h3 : vf k last (nxt last st b) = 0
    ·rw [un_d (by omega) h1 h2 h3, Nat.add_sub_cancel] at h ⊢
     have hse := z9D k last (nxt last st b)
     have hp : PtIn (nxt last st b) ∧ (k = 0 ∨ last.1 < (nxt last st b).1) := by
      rcases hse with g | g | g
      ·omega
      ·omega
      ·exact ⟨g.1, g.2.1⟩
     obtain ⟨r, g1, g2, g3, g4⟩ := zlE f (k + 1) _ _ _ _ hp.1 h
     have s1 := zc9 h1
     have s2 := zc9 h2
     refine ⟨nxt last st b :: r, by simp [g1], by rw [g2, List.append_assoc]; rfl, ?_, ?_⟩
     ·rw [YI, ← g3]
      show b = (zenc 8 (ZH (last.1 + st + (zw b).1 - last.1 - st)) ++ zenc 8 (ZH (last.2 + (zw (Zd b)).1 - last.2))) ++ Zd (Zd b)
      rw [show last.1 + st + (zw b).1 - last.1 - st = (zw b).1 from by omega, show last.2 + (zw (Zd b)).1 - last.2 = (zw (Zd b)).1 from by omega, List.append_assoc, ← s2.1]
      exact s1.1
     ·refine zlC hp.1 ?_ ?_
      ·have := hp.1
       unfold PtIn at this
       unfold L0
       split <;> omega
      ·unfold L0 at g4
       rw [if_neg (by omega)] at g4
       exact g4
    ·rw [un_c (by omega) h1 h2 h3] at h; exact absurd h h3
   ·rw [un_b (by omega) h1 h2] at h; exact absurd h h2
  ·rw [un_a (by omega) h1] at h; exact absurd h h1
theorem zpi {b : List Bool} {n : Int} (h : (ZU b n).2 = 0) : Jm (ZU b n).1 = (b, 0) ∧ ((ZU b n).1.length : Int) = n ∧ zZ (ZU b n).1 = 0 := by
 unfold ZU at h ⊢
 by_cases hn : n < 0 ∨ n > 40
 ·rw [if_pos hn] at h; simp at h
 ·rw [if_neg hn] at h ⊢
  obtain ⟨r, g1, g2, g3, g4⟩ := zlE _ _ _ _ _ _ z3c h
  rw [g2, List.nil_append]
  have hc : zZ r = 0 := by
   unfold zZ
   rw [if_neg (by omega)]
   exact g4
  refine ⟨?_, by omega, hc⟩
  unfold Jm
  rw [if_pos hc, ← z7m, ← g3]
/-! ### Beginnings -/
/-! ### Steady points -/
end Go.Rb
namespace Go.Rb
def zgg : Bk := ⟨0, 0, 0, []⟩
def mkB (l : List Pt) : Bk := ⟨l.length, (l.getD 0 default).1, (l.getD (l.length - 1) default).1, Yf l l.length⟩
def VF (l : List Pt) : Bk × Int := if ¬ (Jm l).2 = 0 then (zgg, (Jm l).2) else if l.length = 0 then (zgg, 4) else (⟨l.length, (l.getD 0 default).1, (l.getD (l.length - 1) default).1, (Jm l).1⟩, 0)
def ptsR (x : Bk) : List Pt × Int :=
 if ¬ (ZU x.2.2.2 x.1).2 = 0 then ([], (ZU x.2.2.2 x.1).2) else
 if (ZU x.2.2.2 x.1).1.length = 0 ∨ ¬ ((ZU x.2.2.2 x.1).1.getD 0 default).1 = x.2.1 ∨ ¬ ((ZU x.2.2.2 x.1).1.getD ((ZU x.2.2.2 x.1).1.length - 1) default).1 = x.2.2.1 then ([], 4) else ((ZU x.2.2.2 x.1).1, 0)
def YE (x y : Bk) : Bk × Int := if ¬ (ptsR x).2 = 0 then (zgg, (ptsR x).2) else if ¬ (ptsR y).2 = 0 then (zgg, (ptsR y).2) else VF ((ptsR x).1 ++ (ptsR y).1)
theorem z3d (x : Bk) : (ptsR x).1.length ≤ 40 := by
 have := z7V x.2.2.2 x.1
 unfold ptsR
 split
 ·simp
 ·split
  ·simp
  ·exact this
theorem zsd {l : List Pt} (h : l.length ≤ 40) : (mkB l).2.2.2.length ≤ 2560 := by
 have := zge l l.length
 show (Yf l l.length).length ≤ 2560
 omega
theorem z61 {l : List Pt} (h : zZ l = 0) (h0 : 0 < l.length) : VF l = (mkB l, 0) ∧ ptsR (mkB l) = (l, 0) := by
 have hb := ziH h
 refine ⟨?_, ?_⟩
 ·unfold VF
  rw [hb.1, if_neg (by simp), if_neg (by omega)]; rfl
 ·have hu : ZU (mkB l).2.2.2 (mkB l).1 = (l, 0) := hb.2.1
  unfold ptsR
  rw [hu, if_neg (by simp), if_neg (not_or.2 ⟨by show ¬ l.length = 0; omega, not_or.2 ⟨fun h => h rfl, fun h => h rfl⟩⟩)]
theorem zqA {a b : List Pt} (ha : zZ a = 0) (hb : zZ b = 0) (ha0 : 0 < a.length) (hb0 : 0 < b.length) (h : zZ (a ++ b) = 0) : YE (mkB a) (mkB b) = (mkB (a ++ b), 0) := by
 unfold YE
 rw [(z61 ha ha0).2, (z61 hb hb0).2, if_neg (by simp), if_neg (by simp)]
 exact (z61 h (by rw [List.length_append]; omega)).1
end Go.Rb
namespace Go.Proofs.Y
open Go.Rb Go.Kx
theorem zcc {a : List Bool} (h : a.length ≤ 140737488355328) : z0Q a = some a := z1i 1 a (by omega) (by omega)
theorem ziI {a b : List Bool} (h : a.length < 4611686018427387904) : z5T a b = some (decide (a = b)) := z3J eqB (fun x y => by cases x <;> cases y <;> rfl) a b h
theorem zhC {n k : Int} (h0 : 0 ≤ n) (hk : 0 ≤ k ∧ k ≤ 40) : wshr .i64 n k = n / 2 ^ k.toNat := by
 unfold wshr
 rw [show min k.toNat IntKind.i64.bits = k.toNat from by show min k.toNat 64 = _; omega, zs3 h0]
theorem zuB {n k : Int} (h0 : 0 ≤ n) (h1 : n ≤ 9223372036854775807) (hk : 0 ≤ k ∧ k ≤ 40) : eqI (wand .i64 (wshr .i64 n k) 1) 1 = z2i n k.toNat := by
 have h2 := zpc h0 k.toNat
 rw [zhC h0 hk]
 unfold wand eqI z2i
 rw [zs2 h2.1 (by omega)]
theorem zqB (l : List Bool) (n w : Int) (hl : l.length ≤ 140737488355200) (hn : n ≤ 9223372036854775807) : Ji l n w = some (putR l n w) := by
 unfold Ji putR
 rw [zh, zz, zh, zh, zl, zcc (by omega), z7]
 by_cases hw0 : w < 0
 ·rw [if_pos hw0, if_neg (by unfold zdi; omega)]
 rw [if_neg hw0]
 by_cases hw1 : 40 < w
 ·rw [if_pos hw1, if_neg (by unfold zdi; omega)]
 rw [if_neg hw1]
 by_cases hn0 : n < 0
 ·rw [if_pos hn0, if_neg (by unfold zdi; omega)]
 rw [if_neg hn0, if_neg hw0, zhC (by omega) ⟨by omega, by omega⟩]
 by_cases hs : n / 2 ^ w.toNat = 0
 ·rw [if_pos hs, if_pos ⟨by omega, by omega, by omega, (zlv (by omega)).1 hs⟩]
  have hws : wsub .i64 w 1 = w - 1 := ZT ⟨by omega, by omega⟩
  rw [hws]
  have key := yz (f := fun (x : Int × List Bool) => ifB (geI (Prod.fst x) 0) (ifB (ltI (Prod.fst x) 0) none (ifB (zg 1 (Prod.snd x) [eqI (wand IntKind.i64 (wshr IntKind.i64 n (Prod.fst x)) 1) 1])
    (some (Sum.inl (wsub IntKind.i64 (Prod.fst x) 1, cat (Prod.snd x) [eqI (wand IntKind.i64 (wshr IntKind.i64 n (Prod.fst x)) 1) 1]))) none)) (mapO Sum.inr (some (Prod.snd x, (0 : Int)))))
   (G := fun x => some (x.2 ++ (y7 w.toNat n).drop (w - 1 - x.1).toNat, 0)) (P := fun x => -1 ≤ x.1 ∧ x.1 ≤ w - 1 ∧ (x.2.length : Int) ≤ l.length + (w - 1 - x.1)) (μ := fun x => (x.1 + 1).toNat) ?_ maxR (w - 1, l) ⟨by show -1 ≤ w - 1; omega, by show w - 1 ≤ w - 1; omega, by show (l.length : Int) ≤ l.length + (w - 1 - (w - 1)); omega⟩ (by show (w - 1 + 1).toNat < maxR; unfold maxR; omega)
  ·rw [key]
   simp
  ·rintro ⟨k, acc⟩ ⟨h0, h1, h2⟩ K hk
   simp only at h0 h1 h2
   simp only [zB, zt, Z9, zd, Zy, zx, Z1, ZB, Zu, zh, Zz, zz, zR, ze, zl, zC, ZE, ZK, ZP, zI, ZF, Zv, Zw, Zx, Zr, Zb, zH, ZQ, zy, Z3, Zc, Z4, ZA, ZR, Zs, z7, Z2, Zf, Zg, zb, ZL, zY, zU, Z8, ZS, Zi, zM, ZG, List.length_cons, List.length_nil]
   by_cases hk0 : 0 ≤ k
   ·rw [if_pos hk0, if_neg (by omega), if_pos ⟨by omega, by omega⟩, zuB (by omega) hn ⟨hk0, by omega⟩, ZT ⟨by omega, by omega⟩]
    rw [hk _ ⟨by show -1 ≤ k - 1; omega, by show k - 1 ≤ w - 1; omega, by show (((acc ++ [z2i n k.toNat]).length : Nat) : Int) ≤ l.length + (w - 1 - (k - 1)); rw [List.length_append, List.length_cons, List.length_nil]; omega⟩ (by show (k - 1 + 1).toNat < (k + 1).toNat; omega)]
    have hlt : (w - 1 - k).toNat < (y7 w.toNat n).length := by rw [yY]; omega
    show some (acc ++ [z2i n k.toNat] ++ (y7 w.toNat n).drop (w - 1 - (k - 1)).toNat, (0 : Int)) = some (acc ++ (y7 w.toNat n).drop (w - 1 - k).toNat, 0)
    rw [vo hlt, zqq (by omega), show (w - 1 - (k - 1)).toNat = (w - 1 - k).toNat + 1 by omega, show w.toNat - 1 - (w - 1 - k).toNat = k.toNat by omega]
    simp
   ·rw [if_neg hk0, List.drop_of_length_le (by rw [yY]; omega), List.append_nil]
 ·rw [if_neg hs, if_neg (by intro hc; exact hs ((zlv (by omega)).2 hc.2.2.2))]
theorem ztD (l : List Bool) (w : Int) (hl : l.length ≤ 140737488355328) : z0q l w = some (zX l w) := by
 unfold z0q zX
 rw [zh, zz, zh, zI, zb]
 by_cases hw0 : w < 0
 ·rw [if_pos hw0, if_pos (by omega)]
 rw [if_neg hw0]
 by_cases hw1 : 40 < w
 ·rw [if_pos hw1, if_pos (by omega)]
 rw [if_neg hw1, if_neg (show ¬ (w < 0 ∨ w > 40) by omega)]
 by_cases hw2 : (l.length : Int) < w
 ·rw [if_pos hw2, if_pos hw2]
 rw [if_neg hw2, if_neg hw2, if_pos ⟨by omega, by omega⟩, zU]
 have hlen : (l.take w.toNat).length = w.toNat := by rw [List.length_take]; omega
 generalize l.take w.toNat = a at hlen
 show _ = some (a.foldl (fun n b => 2 * n + (if b then 1 else 0)) (0 : Int), (0 : Int))
 refine zP a (fun j (s : Int) => (s, (j : Int))) (G := fun rest (s : Int) => some (rest.foldl (fun (n : Int) b => 2 * n + (if b then 1 else 0)) s, (0 : Int))) (P := fun j s => 0 ≤ s ∧ s < 2 ^ j) ?_ ?_ (s0 := 0) ⟨by omega, by decide⟩ (by omega)
 ·rintro j s hj ⟨h0, h1⟩ k hk
  have h2 := (zve (k := j) (by omega)).2
  have h3 : (2 : Int) ^ (j + 1) = 2 ^ j * 2 := Int.pow_succ _ _
  simp only [zB, zt, Z9, zd, Zy, zx, Z1, ZB, Zu, zh, Zz, zz, zR, ze, zl, zC, ZE, ZK, ZP, zI, ZF, Zv, Zw, Zx, Zr, Zb, zH, ZQ, zy, Z3, Zc, Z4, ZA, ZR, Zs, z7, Z2, Zf, Zg, zb, ZL, zY, zU, Z8, ZS, Zi, zM, ZG, za]
  rw [if_pos (by omega), zO hj, z7, zD (by omega), vq ⟨by omega, by omega⟩]
  rw [ZM ⟨by omega, by omega⟩, hk _ ⟨by omega, by omega⟩, hk _ ⟨by omega, by omega⟩, List.foldl_cons, z8H]
  cases a.getD j default <;> simp [Int.mul_comm]
 ·rintro s ⟨h0, h1⟩ k
  simp only [zB, zt, Z9, zd, Zy, zx, Z1, ZB, Zu, zh, Zz, zz, zR, ze, zl, zC, ZE, ZK, ZP, zI, ZF, Zv, Zw, Zx, Zr, Zb, zH, ZQ, zy, Z3, Zc, Z4, ZA, ZR, Zs, z7, Z2, Zf, Zg, zb, ZL, zY, zU, Z8, ZS, Zi, zM, ZG]
  rw [if_neg (by omega)]
  rfl
end Go.Proofs.Y
namespace Go.Proofs.Y
open Go.Rb Go.Kx
theorem zpj {n : Int} (h : 0 ≤ n) : wrem n 8 = n % 8 := by unfold wrem; exact Int.tmod_eq_emod_of_nonneg h
theorem zt2 {n : Int} (h : 0 ≤ n) : wrem n 2 = n % 2 := by unfold wrem; exact Int.tmod_eq_emod_of_nonneg h
theorem zt3 {n : Int} (h : 0 ≤ n) (h1 : n ≤ 9223372036854775807) : wquo .i64 n 8 = n / 8 := by
 unfold wquo; rw [Int.tdiv_eq_ediv_of_nonneg h]; exact z2h (by omega) (by omega)
theorem ztE {v : Int} (h : -4000000 ≤ v ∧ v ≤ 4000000) : z2f v = some (ZH v) := by
 unfold z2f ZH
 rw [zh]
 split
 ·rw [vq ⟨by omega, by omega⟩, ZT ⟨by omega, by omega⟩]
 ·rw [vq ⟨by omega, by omega⟩]
theorem zoj : ∀ (f : Nat) (m : Int), 1 ≤ f → 0 ≤ m → m < 8 ^ f → zenc (f + 1) m = zenc f m
 | 0, m, h, _, _ => absurd h (by omega)
 | f + 1, m, _, h0, h1 => by
  by_cases h8 : m < 8
  ·rw [jX (by omega) h8, jX (by omega) h8]
  ·have h2 := z8O (f := f + 1) h1 (by omega)
   rw [z1j (f := f + 2) (by omega) (by omega), z1j (f := f + 1) (by omega) (by omega)]
   exact congrArg _ (zoj f (m / 8) (by omega) (by omega) h2.2)
theorem zok (l : List Bool) (v : Int) (hl : l.length ≤ 140737488355100) : z1h l v = some (z2j l v) := by
 unfold z1h z2j
 rw [zh, zz]
 by_cases h0 : v < -4000000
 ·rw [if_pos h0, if_pos (.inl h0)]
 rw [if_neg h0]
 by_cases h1 : 4000000 < v
 ·rw [if_pos h1, if_pos (.inr h1)]
 rw [if_neg h1, if_neg (show ¬ (v < -4000000 ∨ v > 4000000) by omega), ztE ⟨by omega, by omega⟩, z7]
 have hf := z38 v
 refine yz (G := fun x => some (x.1 ++ zenc 8 x.2, (0 : Int))) (P := fun (x : List Bool × Int) => 0 ≤ x.2 ∧ ∃ f, 1 ≤ f ∧ f ≤ 8 ∧ x.2 < 8 ^ f ∧ x.1.length ≤ l.length + 4 * (8 - f)) (μ := fun x => x.2.toNat) ?_ maxR (l, ZH v) ⟨by show 0 ≤ ZH v; omega, 8, by omega, by omega, by show ZH v < 8 ^ 8; omega, by show l.length ≤ _; omega⟩ (by show (ZH v).toNat < maxR; unfold maxR; omega)
 rintro ⟨acc, n⟩ ⟨g0, f, g1, g2, g3, g4⟩ k hk
 simp only at g0 g3 g4
 have h8 := (pow8 g2).2
 simp only [zB, zt, Z9, zd, Zy, zx, Z1, ZB, Zu, zh, Zz, zz, zR, ze, zl, zC, ZE, ZK, ZP, zI, ZF, Zv, Zw, Zx, Zr, Zb, zH, ZQ, zy, Z3, Zc, Z4, ZA, ZR, Zs, z7, Z2, Zf, Zg, zb, ZL, zY, zU, Z8, ZS, Zi, zM, ZG]
 rw [zpj g0, ZM ⟨by omega, by omega⟩, ZM ⟨by omega, by omega⟩, zqB _ _ _ (by omega) (by omega), zqB _ _ _ (by omega) (by omega), z7, z7, (putm g0).1, (putm g0).2, zt3 g0 (by omega)]
 split
 ·rename_i hge
  have hd := z8O g3 hge
  rw [hk _ ⟨by show 0 ≤ n / 8; omega, f - 1, by omega, by omega, hd.2, by show (acc ++ y7 4 (8 + n % 8)).length ≤ _; rw [List.length_append, yY]; omega⟩ (by show (n / 8).toNat < n.toNat; omega)]
  show some (acc ++ y7 4 (8 + n % 8) ++ zenc 8 (n / 8), (0 : Int)) = _
  rw [z1j (f := 8) (m := n) (by omega) hge, List.append_assoc]
  congr 4
  refine (zoj 7 (n / 8) (by omega) (by omega) ?_).trans rfl
  have : n < 8 ^ 8 := by have : (8 : Int) ^ 8 = 16777216 := by decide
                         omega
  show n / 8 < 8 ^ 7
  omega
 ·rename_i hlt
  show some (acc ++ y7 4 (0 + n % 8), (0 : Int)) = _
  rw [jX (f := 8) (m := n) (by omega) (by omega)]
theorem zlF (l : List Bool) (hl : l.length ≤ 140737488355328) : Jh l = some (zw l) := by
 unfold Jh zw
 refine yz (G := fun (x : Int × Int × Int) => some (ZX (8 - x.2.2.toNat) x.2.2.toNat x.1 x.2.1 (l.drop (4 * x.2.2.toNat)))) (P := fun (x : Int × Int × Int) => 0 ≤ x.2.2 ∧ x.2.2 ≤ 8 ∧ 0 ≤ x.1 ∧ x.1 ≤ 8000000 ∧ x.2.1 = 8 ^ x.2.2.toNat) (μ := fun x => 8 - x.2.2.toNat) ?_ maxR (0, 1, 0) ⟨by decide, by decide, by decide, by decide, by decide⟩ (by decide)
 rintro ⟨n, sc, kk⟩ ⟨g0, g1, g2, g3, g4⟩ K hk
 simp only at g0 g1 g2 g3 g4
 obtain ⟨k, rfl⟩ : ∃ k : Nat, kk = k := ⟨kk.toNat, by omega⟩
 rw [Int.toNat_natCast] at g4
 have hp := pow8 (k := k) (by omega)
 have hmin : minI (lenI l) (wmul .i64 4 (k : Int)) = min (l.length : Int) (4 * k) := by
  rw [vq ⟨by omega, by omega⟩]; rfl
 have hdrop : yB l (minI (lenI l) (wmul .i64 4 (k : Int))) = l.drop (4 * k) := by
  rw [hmin, Z8]
  by_cases h : (l.length : Int) ≤ 4 * k
  ·rw [List.drop_of_length_le (by omega), List.drop_of_length_le (by omega)]
  ·congr 1; omega
 have hin : in1 l (minI (lenI l) (wmul .i64 4 (k : Int))) = true := by
  rw [hmin, in1, ← Bool.decide_and]; exact decide_eq_true ⟨by omega, by omega⟩
 have hrd := ztD (l.drop (4 * k)) 4 (by rw [List.length_drop]; omega)
 have h4 : wadd .i64 (wmul .i64 4 (k : Int)) 4 = 4 * (k : Int) + 4 := by rw [vq ⟨by omega, by omega⟩, ZM ⟨by omega, by omega⟩]
 simp only [hin, hdrop, hrd, h4, Z1, z7, Int.toNat_natCast]
 simp only [za, zd, zt, zx]
 rw [zh]
 by_cases h8 : (k : Int) < 8
 ·rw [if_pos h8]
  rcases rd4 (l.drop (4 * k)) with ⟨r1, r2, r3⟩ | ⟨r1, r2, r3, r4, r5⟩
  ·rw [zl, r3, if_neg (by decide), z8P (by omega) r1]
  ·rw [zl, r3, if_pos rfl]
   generalize hx : (zX (List.drop (4 * k) l) 4).fst = x at *
   have hm := zlx (a := x % 8) (b := sc) (c := 16777216) (by omega) (by omega) (by omega) (by omega)
   have hsc : sc ≤ 2097152 := by
    rw [g4]
    exact (by decide : ∀ k : Fin 8, (8 : Int) ^ k.val ≤ 2097152) ⟨k, by omega⟩
   rw [zpj r4, vq ⟨by omega, by omega⟩, ZM ⟨by omega, by omega⟩, vq (a := sc) (b := 8) ⟨by omega, by omega⟩, zD (by omega)]
   have hmm := zlx (a := x % 8) (b := sc) (c := 2097152) (by omega) (by omega) (by omega) hsc
   generalize hN : n + x % 8 * sc = N at *
   have hwa : wadd .i64 N 1 = N + 1 := ZM ⟨by omega, by omega⟩
   have hwn : wneg .i64 (N + 1) = 0 - (N + 1) := zhy ⟨by omega, by omega⟩
   rw [hwa, hwn, zt2 (by omega)]
   -- what is read
   have tail : ¬ (x = 0 ∧ 0 < k) → ifB (gtI N 8000000) (some (0, 0, 3)) (ifB (ltI x 8) (ifB (eqI (N % 2) 1) (some (wquo IntKind.i64 (0 - (N + 1)) 2, 4 * (k : Int) + 4, 0)) (some (wquo IntKind.i64 N 2, 4 * (k : Int) + 4, 0))) (K (N, sc * 8, ((k + 1 : Nat) : Int)))) =
     some (ZX (8 - k) k n sc (List.drop (4 * k) l)) := by
    intro hnf
    rw [zz]
    by_cases hr : 8000000 < N
    ·rw [if_pos hr, z60 (by omega) r1 (by rw [hx]; exact hnf) (by rw [hx, hN]; exact hr)]
    rw [if_neg hr, zh]
    by_cases hd : x < 8
    ·rw [if_pos hd, z3a (by omega) r1 (by rw [hx]; exact hnf) (by rw [hx, hN]; omega) (by rw [hx]; exact hd), hx, hN, ze]
     rcases z8N (n := N) (by omega) with ⟨u1, u2, u3⟩ | ⟨u1, u2, u3⟩
     ·rw [if_pos u1]
      unfold wquo
      rw [u3, z2h (by omega) (by omega)]
     ·rw [if_neg (by omega)]
      unfold wquo
      rw [u3, z2h (by omega) (by omega)]
    ·rw [if_neg hd, z5h (by omega) r1 (by rw [hx]; exact hnf) (by rw [hx, hN]; omega) (by rw [hx]; exact hd), hx, hN]
     rw [hk _ ⟨by show (0 : Int) ≤ ((k + 1 : Nat) : Int); omega, by show ((k + 1 : Nat) : Int) ≤ 8; omega, by show 0 ≤ N; omega, by show N ≤ 8000000; omega, by show sc * 8 = 8 ^ (((k + 1 : Nat) : Int)).toNat; rw [Int.toNat_natCast, g4, Int.pow_succ]⟩ (by show 8 - (((k + 1 : Nat) : Int)).toNat < 8 - ((k : Int)).toNat; omega)]
     simp only [Int.toNat_natCast, List.drop_drop]
     rfl
   rw [ze]
   by_cases h0 : x = 0
   ·rw [if_pos h0, zz]
    by_cases hk0 : (0 : Int) < k
    ·rw [if_pos hk0, z8Q (by omega) r1 (by rw [hx]; exact h0) (by omega)]
    ·rw [if_neg hk0]; exact tail (by omega)
   ·rw [if_neg h0]; exact tail (by omega)
 ·rw [if_neg h8]
  have : k = 8 := by omega
  subst this
  rfl
end Go.Proofs.Y
namespace Go.Proofs.Y
open Go.Rb Go.Kx
theorem jm (a b c : Int) : zk a b c = some (decide (b ≤ a ∧ a ≤ c)) := by
 unfold zk
 rw [Zz]
 split
 ·simp [leI, *]
 ·simp [*]
theorem zol : ∀ (f : Nat) (m : Int), (dig f m).length ≤ f
 | 0, _ => by simp [dig]
 | f + 1, m => by
  rw [dig, List.length_cons]
  split
  ·have := zol f (m / 8); omega
  ·simp
theorem zpk (l : List Bool) (D : List Int) (hl : l.length ≤ 140737488355100) (hD : D.length ≤ 8) : zi maxR (fun (x_1 : Int × List Bool) => ifB (ltI (Prod.fst x_1) (lenI D)) (ifB (ltL (Prod.fst x_1) D)
   (z6 (atN D (natI (Prod.fst x_1))) fun (y : Int) => ifB (zg 1 (Prod.snd x_1) [ltI (Prod.fst x_1) (wsub IntKind.i64 (lenI D) 1), geI y 4, geI (wrem y 4) 2, eqI (wrem y 2) 1])
    (some (Sum.inl (wadd IntKind.i64 (Prod.fst x_1) 1, cat (Prod.snd x_1) [ltI (Prod.fst x_1) (wsub IntKind.i64 (lenI D) 1), geI y 4, geI (wrem y 4) 2, eqI (wrem y 2) 1]))) none) none)
   (mapO Sum.inr (some (Prod.snd x_1, (0 : Int))))) (0, l) = some (l ++ YD D D.length, 0) := by
 refine zP D (fun j (s : List Bool) => ((j : Int), s)) (G := fun _ _ => some (l ++ YD D D.length, (0 : Int))) (P := fun j s => s = l ++ YD D j) ?_ ?_ (s0 := l) (by simp [YD]) (by omega)
 ·rintro j s hj rfl k hk
  have hc := zpe D j
  simp only [zB, zt, Z9, zd, Zy, zx, Z1, ZB, Zu, zh, Zz, zz, zR, ze, zl, zC, ZE, ZK, ZP, zI, ZF, Zv, Zw, Zx, Zr, Zb, zH, ZQ, zy, Z3, Zc, Z4, ZA, ZR, Zs, z7, Z2, Zf, Zg, zb, ZL, zY, zU, Z8, ZS, Zi, zM, ZG]
  rw [if_pos (by omega), if_pos ⟨by omega, by omega⟩, Int.toNat_natCast, yu hj, z7, zD (by omega), if_pos (by simp only [List.length_append, List.length_cons, List.length_nil, hc]; omega)]
  rw [hk _ ?_]
  rw [zea, List.append_assoc]
  congr 2
  unfold grp wsub wrem ltI geI eqI
  rw [z2h (by omega) (by omega)]
 ·rintro s rfl k
  simp only [zB, zt, Z9, zd, Zy, zx, Z1, ZB, Zu, zh, Zz, zz, zR, ze, zl, zC, ZE, ZK, ZP, zI, ZF, Zv, Zw, Zx, Zr, Zb, zH, ZQ, zy, Z3, Zc, Z4, ZA, ZR, Zs, z7, Z2, Zf, Zg, zb, ZL, zY, zU, Z8, ZS, Zi, zM, ZG]
  rw [if_neg (by omega)]
theorem zlG (l : List Bool) (v : Int) (hl : l.length ≤ 140737488355100) : Z6 l v = some (z2j l v) := by
 unfold Z6 z2j
 rw [jm, z7, zC, zQ, zcc (by omega)]
 by_cases hv : -4000000 ≤ v ∧ v ≤ 4000000
 ·rw [if_pos hv, if_neg (by omega), ← zqt hv]
  have hf := z38 v
  have key : ∀ N0 : Int, 0 ≤ N0 → N0 < 16777216 → zi maxR (fun (x : Int × Bool × List Int) => ifB (Prod.fst (Prod.snd x)) (ifB (zg 8 (Prod.snd (Prod.snd x)) [wrem (Prod.fst x) 8])
     (some (Sum.inl (wquo IntKind.i64 (Prod.fst x) 8, false, cat (Prod.snd (Prod.snd x)) [wrem (Prod.fst x) 8]))) none)
    (ifB (gtI (Prod.fst x) 0) (ifB (zg 8 (Prod.snd (Prod.snd x)) [wrem (Prod.fst x) 8])
      (some (Sum.inl (wquo IntKind.i64 (Prod.fst x) 8, false, cat (Prod.snd (Prod.snd x)) [wrem (Prod.fst x) 8]))) none)
     (mapO Sum.inr (z6 (some l) fun (y : List Bool) => zi maxR (fun (x_1 : Int × List Bool) => ifB (ltI (Prod.fst x_1) (lenI (Prod.snd (Prod.snd x)))) (ifB (ltL (Prod.fst x_1) (Prod.snd (Prod.snd x)))
      (z6 (atN (Prod.snd (Prod.snd x)) (natI (Prod.fst x_1))) fun (y : Int) => ifB (zg 1 (Prod.snd x_1) [ltI (Prod.fst x_1) (wsub IntKind.i64 (lenI (Prod.snd (Prod.snd x))) 1), geI y 4, geI (wrem y 4) 2, eqI (wrem y 2) 1])
       (some (Sum.inl (wadd IntKind.i64 (Prod.fst x_1) 1, cat (Prod.snd x_1) [ltI (Prod.fst x_1) (wsub IntKind.i64 (lenI (Prod.snd (Prod.snd x))) 1), geI y 4, geI (wrem y 4) 2, eqI (wrem y 2) 1]))) none) none)
      (mapO Sum.inr (some (Prod.snd x_1, (0 : Int))))) (0, y))))) (N0, true, []) = some (l ++ YD (dig 8 N0) (dig 8 N0).length, 0) := by
   intro N0 hN0 hN1
   refine yz (G := fun _ => some (l ++ YD (dig 8 N0) (dig 8 N0).length, (0 : Int))) (P := fun (x : Int × Bool × List Int) => 0 ≤ x.1 ∧ x.1 < 16777216 ∧ ∃ f, 1 ≤ f ∧ f ≤ 8 ∧ x.1 < 8 ^ f ∧ x.2.2 ++ (if x.2.1 = true ∨ x.1 > 0 then dig f x.1 else []) = dig 8 N0) (μ := fun x => 2 * x.1.toNat + (if x.2.1 = true then 1 else 0)) ?_ maxR (N0, true, []) ⟨hN0, hN1, 8, by omega, by omega, hN1, by simp⟩ (by show 2 * N0.toNat + 1 < maxR; unfold maxR; omega)
   rintro ⟨n, fst, D⟩ ⟨g0, g1, f, g2, g3, g4, g5⟩ k hk
   simp only at g0 g1 g4 g5
   have hDl : D.length ≤ 8 := by
    have h1 := zol 8 N0
    rw [← g5, List.length_append] at h1
    omega
   simp only [za, zd, zt, zB, zY, z7, zy]
   rw [zpj g0, zt3 g0 (by omega), if_pos (by simp; omega)]
   have next : (fst = true ∨ n > 0) → k (n / 8, false, D ++ [n % 8]) = some (l ++ YD (dig 8 N0) (dig 8 N0).length, 0) := by
    intro hc
    rw [if_pos hc, zs7 g2 g0] at g5
    refine hk _ ⟨by show 0 ≤ n / 8; omega, by show n / 8 < _; omega, ?_⟩ ?_
    ·by_cases h8 : 8 ≤ n
     ·have hd := z8O g4 h8
      refine ⟨f - 1, by omega, by omega, hd.2, ?_⟩
      show D ++ [n % 8] ++ (if false = true ∨ n / 8 > 0 then dig (f - 1) (n / 8) else []) = _
      rw [if_pos (by omega)] at g5
      rw [if_pos (.inr (by omega)), ← g5]; simp
     ·refine ⟨f, by omega, by omega, by show n / 8 < _; omega, ?_⟩
      show D ++ [n % 8] ++ (if false = true ∨ n / 8 > 0 then dig f (n / 8) else []) = _
      rw [if_neg (by omega)] at g5
      rw [if_neg (by simp; omega), ← g5]; simp
    ·show 2 * (n / 8).toNat + (if false = true then 1 else 0) < 2 * n.toNat + (if fst = true then 1 else 0)
     rcases hc with hc | hc
     ·rw [if_pos hc]; simp; omega
     ·simp; omega
   cases fst with
   | true => exact next (.inl rfl)
   | false =>
    rw [ZB, zz]
    by_cases hn : 0 < n
    ·rw [if_pos hn]; exact next (.inr hn)
    ·rw [if_neg hn]
     rw [if_neg (by simp; omega), List.append_nil] at g5
     show zi maxR _ (0, l) = _
     rw [← g5]
     have hc := zpk l D hl hDl
     simp only [zY, zy] at hc
     exact hc
  rw [zh]
  split
  ·have e1 : wsub .i64 (wmul .i64 2 (wneg .i64 v)) 1 = ZH v := by
    rw [zhy ⟨by omega, by omega⟩, vq ⟨by omega, by omega⟩, ZT ⟨by omega, by omega⟩]; omega
   rw [e1]; exact key (ZH v) (by omega) (by omega)
  ·have e1 : wmul .i64 2 v = ZH v := by rw [vq ⟨by omega, by omega⟩]; omega
   rw [e1]; exact key (ZH v) (by omega) (by omega)
 ·rw [if_neg hv, if_pos (by omega)]
theorem zgh (l : List Bool) (hl : l.length ≤ 140737488355328) : yD l = some (YQ l) := by
 unfold yD YQ zw
 refine (yz (G := fun (x : List Bool × Int × Int × Int) => some ((ZX (8 - x.2.2.2.toNat) x.2.2.2.toNat x.2.1 x.2.2.1 x.1).1, (if (ZX (8 - x.2.2.2.toNat) x.2.2.2.toNat x.2.1 x.2.2.1 x.1).2.2 = 0 then x.1.drop ((ZX (8 - x.2.2.2.toNat) x.2.2.2.toNat x.2.1 x.2.2.1 x.1).2.1 - 4 * x.2.2.2).toNat else []), (ZX (8 - x.2.2.2.toNat) x.2.2.2.toNat x.2.1 x.2.2.1 x.1).2.2))
  (P := fun (x : List Bool × Int × Int × Int) => 0 ≤ x.2.2.2 ∧ x.2.2.2 ≤ 8 ∧ 0 ≤ x.2.1 ∧ x.2.1 ≤ 8000000 ∧ x.2.2.1 = 8 ^ x.2.2.2.toNat ∧ x.1.length ≤ 140737488355328) (μ := fun x => 8 - x.2.2.2.toNat) ?_ maxR (l, 0, 1, 0) ⟨Int.le_refl 0, (by decide : (0 : Int) ≤ 8), Int.le_refl 0, (by decide : (0 : Int) ≤ 8000000), rfl, hl⟩ (by show 8 - Int.toNat 0 < maxR; unfold maxR; omega)).trans (by simp)
 rintro ⟨r, n, sc, kk⟩ ⟨g0, g1, g2, g3, g4, g5⟩ K hk
 simp only at g0 g1 g2 g3 g4 g5
 obtain ⟨k, rfl⟩ : ∃ k : Nat, kk = k := ⟨kk.toNat, by omega⟩
 rw [Int.toNat_natCast] at g4
 simp only [Int.toNat_natCast]
 rw [za, zd, ze]
 by_cases hk8 : (k : Int) = 8
 ·rw [if_pos hk8]
  have : k = 8 := by omega
  subst this
  rfl
 rw [if_neg hk8, za, zd, zh, zb]
 have hp := pow8 (k := k) (by omega)
 by_cases h4 : (r.length : Int) < 4
 ·rw [if_pos h4, z8P (by omega) (by omega)]; rfl
 rw [if_neg h4, za, zB, ZF, if_pos ⟨by omega, by omega, by omega⟩]
 have hsl : sliI r 1 4 = (r.take 4).drop 1 := rfl
 rw [hsl]
 have hbl : ((r.take 4).drop 1).length = 3 := by rw [List.length_drop, List.length_take]; omega
 have hgm := zqu (l := r) (by omega)
 have hgt := ztC (l := r) (by omega)
 have hgf := ztB (l := r) (by omega)
 have hd := zgd ((r.take 4).drop 1) 3
 have hsc : sc ≤ 2097152 := by
  rw [g4]
  exact (by decide : ∀ k : Fin 8, (8 : Int) ^ k.val ≤ 2097152) ⟨k, by omega⟩
 have hmm := zlx (a := dAt ((r.take 4).drop 1) 3) (b := sc) (c := 2097152) hd.1 hd.2 (by omega) hsc
 generalize hb : (r.take 4).drop 1 = b at *
 rw [ztz (fun j => (dAt b j, (j : Int))) 3 (x0 := (0, 0)) (by simp [dAt]) (by omega)]
 rotate_left
 ·intro j hj
  have hdj := zgd b j
  have hdj1 := zgd b (j + 1)
  have hnx := zs8 (b := b) (i := j) hj
  have h3 : j = 0 ∨ j = 1 ∨ j = 2 := by omega
  have hshr : wshr .i64 4 (j : Int) = (4 : Int) / 2 ^ j := by rw [zhC (by omega) ⟨by omega, by omega⟩, Int.toNat_natCast]
  have hq : 0 ≤ (4 : Int) / 2 ^ j ∧ (4 : Int) / 2 ^ j ≤ 4 := by rcases h3 with rfl | rfl | rfl <;> decide
  rw [zh, zb, if_pos (by omega), zO (by omega), z7, zh, if_neg (by omega), zD (by omega), hshr, ZM ⟨by omega, by omega⟩, z8H]
  split
  ·rename_i hb1; rw [hnx, if_pos hb1]
  ·rename_i hb1; rw [hnx, if_neg hb1, Int.add_zero]
 show yq (yq (ifB (ltI ((3 : Nat) : Int) (lenI b)) _ (mapO Sum.inr _)) _) K = _
 rw [za, zd, zh, zb, if_neg (by omega)]
 simp only []
 generalize hdd : dAt b 3 = d at *
 have e1 : wmul .i64 d sc = d * sc := vq ⟨by omega, by omega⟩
 have e2 : wadd .i64 n (d * sc) = n + d * sc := ZM ⟨by omega, by omega⟩
 have e3 : wadd .i64 (k : Int) 1 = ((k + 1 : Nat) : Int) := zD (by omega)
 have e4 : wmul .i64 sc 8 = sc * 8 := vq ⟨by omega, by omega⟩
 have hat : atI r 0 = some (r.getD 0 default) := zO (l := r) (j := 0) (by omega)
 have hin : in1 r 4 = true := by rw [in1, ← Bool.decide_and]; exact decide_eq_true ⟨by omega, by omega⟩
 simp only [e1, e2, e3, e4, hat, hin, z7, Z1, Z8]
 generalize hN : n + d * sc = N at *
 have tail : ¬ ((zX r 4).1 = 0 ∧ 0 < k) → yq (ifB (gtI N 8000000) (mapO Sum.inr (some ((0 : Int), ([] : List Bool), (3 : Int)))) (ifB (notB (r.getD 0 default))
   (mapO Sum.inr (ifB (eqI (wrem N 2) 0) (some (wquo IntKind.i64 N 2, r.drop (Int.toNat 4), 0)) (some (wneg IntKind.i64 (wadd IntKind.i64 (wquo IntKind.i64 N 2) 1), r.drop (Int.toNat 4), 0))))
   (some (Sum.inl (r.drop (Int.toNat 4), N, sc * 8, ((k + 1 : Nat) : Int)))))) K =
   some ((ZX (8 - k) k n sc r).1, (if (ZX (8 - k) k n sc r).2.2 = 0 then r.drop ((ZX (8 - k) k n sc r).2.1 - 4 * (k : Int)).toNat else []), (ZX (8 - k) k n sc r).2.2) := by
  intro hnf
  rw [za, zd, zz]
  by_cases hr : 8000000 < N
  ·rw [if_pos hr, z60 (by omega) (by omega) hnf (by rw [hgm, hN]; exact hr)]; rfl
  rw [if_neg hr, za, zd, zt, zC]
  cases hr0 : r.getD 0 default with
  | false =>
   have hx := hgf hr0
   rw [ZB, z3a (by omega) (by omega) hnf (by rw [hgm, hN]; omega) (by rw [hx]; omega), hgm, hN, zt2 (by omega), ze]
   have hdr : (4 * (k : Int) + 4 - 4 * (k : Int)).toNat = Int.toNat 4 := by omega
   simp only [if_true, hdr]
   rcases z8N (n := N) (by omega) with ⟨u1, u2, u3⟩ | ⟨u1, u2, u3⟩
   ·rw [if_neg (by omega), u2]
    have hq : wquo .i64 N 2 = N / 2 := by unfold wquo; rw [Int.tdiv_eq_ediv_of_nonneg (by omega)]; exact z2h (by omega) (by omega)
    rw [hq, ZM ⟨by omega, by omega⟩, zhy ⟨by omega, by omega⟩]
    congr 2; omega
   ·rw [if_pos u1]
    have hq : wquo .i64 N 2 = N / 2 := by unfold wquo; rw [Int.tdiv_eq_ediv_of_nonneg (by omega)]; exact z2h (by omega) (by omega)
    rw [hq, u2]
  | true =>
   have hx := hgt hr0
   rw [Z1, z5h (by omega) (by omega) hnf (by rw [hgm, hN]; omega) (by rw [hx]; omega), hgm, hN]
   have hlen : (r.drop (Int.toNat 4)).length ≤ 140737488355328 := by rw [List.length_drop]; omega
   rw [hk _ ⟨by show (0 : Int) ≤ ((k + 1 : Nat) : Int); omega, by show ((k + 1 : Nat) : Int) ≤ 8; omega, by show 0 ≤ N; omega, by show N ≤ 8000000; omega, by show sc * 8 = 8 ^ (((k + 1 : Nat) : Int)).toNat; rw [Int.toNat_natCast, g4, Int.pow_succ], hlen⟩ (by show 8 - (((k + 1 : Nat) : Int)).toNat < 8 - ((k : Int)).toNat; omega)]
   simp only [Int.toNat_natCast]
   rw [show 8 - (k + 1) = 8 - k - 1 by omega]
   have hz := zeS (8 - k - 1) (k + 1) N (sc * 8) (r.drop 4)
   have h44 : Int.toNat 4 = 4 := rfl
   rw [h44]
   generalize ZX (8 - k - 1) (k + 1) N (sc * 8) (r.drop 4) = z at *
   congr 3
   by_cases hz0 : z.2.2 = 0
   ·rw [if_pos hz0, if_pos hz0, List.drop_drop]
    congr 1
    have := hz hz0
    omega
   ·rw [if_neg hz0, if_neg hz0]
 rw [za, zz]
 by_cases hk0 : (0 : Int) < k
 ·rw [if_pos hk0, za, ze]
  by_cases hd0 : d = 0
  ·rw [if_pos hd0, za, zd, zC]
   cases hr0 : r.getD 0 default with
   | false =>
    have hx := hgf hr0
    rw [ZB, z8Q (by omega) (by omega) (by omega) (by omega)]; rfl
   | true =>
    have hx := hgt hr0
    rw [Z1, ← hr0]
    exact tail (by omega)
  ·rw [if_neg hd0]
   refine tail ?_
   cases hr0 : r.getD 0 default with
   | false => have hx := hgf hr0; omega
   | true => have hx := hgt hr0; omega
 ·rw [if_neg hk0]
  exact tail (by omega)
end Go.Proofs.Y
