/-
  What is proved, part by part: what shelf.Merge comes to. what shelf.Drop$1 comes to. what slices.IndexFunc[[]api.Block,api.Block] comes to. what slices.DeleteFunc[[]api.Block,api.Block] comes to. what shelf.Drop comes to. what store.Next comes to. what shelf.New comes to. what store.Replay comes to. What is stated: the program's data as plain Lean types. how loops run; plain operations in plain words. records and what is asked of them, as a plain function. slices cloned, held against each other, put together: in plain words, for elements of any kind. a record checked by the program. what slices.Equal[[]api.Point,api.Point] comes to. what slices.Equal[[]bool,bool] comes to. what block.Same comes to. what rainbookref.SameBlock comes to. what slices.EqualFunc[[]api.Block,[]api.Block,api.Block,api.Block] comes to. what shelf.Same$1 comes to. what rainbookref.SameShelf$1 comes to. what slices.EqualFunc[[]api.Row,[]api.Row,api.Row,api.Row] comes to. what rainbookref.SameShelf comes to. what shelf.Same comes to. what rainbooklaw.at comes to. what rainbookref.FreshShelf comes to. what shelf.All comes to. what query.Range$1 comes to. what slices.IndexFunc[[]api.Point,api.Point] comes to. what slices.DeleteFunc[[]api.Point,api.Point] comes to. what query.Range comes to. what rainbookref.Ranged comes to. numbers as bits, as plain functions. numbers as bits, further plain facts. numbers as bits: what is put is taken. small numbers in groups of four bits, as plain functions. what is put in groups of four bits is taken, and no two ways write one number. when points rise, as a plain function. points in bits, as plain functions. points that are packed are unpacked, just so many; what is unpacked is packed as it was; beginnings; steady points. blocks, as plain functions; of two merged both are there. numbers as bits: what the program's functions come to, in plain words. numbers either way as bits: what the program's functions come to, in plain words. numbers either way as bits: what the document's functions come to, in plain words. Conditions: none.
-/
import Derived.Test.YtnkegapccacndaaGreatDoorKPA
import Derived.Test.YtnkegapccacndaaGreatDoorKED
set_option linter.unusedVariables false
set_option linter.unusedSimpArgs false
set_option linter.unnecessarySimpa false
set_option maxRecDepth 4000
namespace Go.Proofs.Y
open Go.Rb Go.Kx
noncomputable def z8n : Code := zj Tryz.f82
noncomputable def z8o : FuncId → Option GS := tabG [(78, Yx), (107, j6), (115, z8m), (116, zgo)]
theorem zhj : ΓOK Tryz.prog z8o := z8 (Yl) (z8 (VC) (z8 (zcG) (z8 (ziR) (zg))))
def z8p : HT := ⟨tabL [], tabH [(15, [.frzq 3 0 0, .frzq 3 0 1, .frzq 3 0 2, .frzq 3 0 3, .frzq 3 0 4, .frzq 3 0 5, .frzq 3 0 6, .frzq 3 0 7, .pack 3 0 (.cons (.sl 126 (.cons (.int .i64) (.cons (.int .i64) (.cons (.int .i64) (.one (.sl 4 (.one .bool))))))) (.one (.sl 73 (.cons (.int .i64) (.one (.int .i64))))))])]⟩
abbrev z1M : List IT := [.v (.one (.sl 95 (.cons (.sl 126 (.cons (.int .i64) (.cons (.int .i64) (.cons (.int .i64) (.one (.sl 4 (.one .bool))))))) (.one (.sl 73 (.cons (.int .i64) (.one (.int .i64)))))))) true, .v (.one (.int .i64)) false, .v (.one (.int .i64)) false]
abbrev z6Q : List OT := [⟨.one (.sl 95 (.cons (.sl 126 (.cons (.int .i64) (.cons (.int .i64) (.cons (.int .i64) (.one (.sl 4 (.one .bool))))))) (.one (.sl 73 (.cons (.int .i64) (.one (.int .i64))))))), true, []⟩, ⟨.one (.int .i64), false, []⟩]
set_option maxRecDepth 100000
noncomputable def Vl : List (List (Int × Int × Int × List Bool) × List (Int × Int)) → Int → Int → Option (List (List (Int × Int × Int × List Bool) × List (Int × Int)) × Int) := fun a b c => z6 (yw a) fun y => ifB (neI y 0) (some ([], y)) (ifB (ltI b 0) (some ([], 5)) (ifB (geI b (lenI a)) (some ([], 5)) (z6 (Ye a) fun y => z6 (four y) fun (y : (List (Int × Int × Int × List Bool) × List (Int × Int)) × (List (Int × Int × Int × List Bool) × List (Int × Int)) × (List (Int × Int × Int × List Bool) × List (Int × Int)) × List (Int × Int × Int × List Bool) × List (Int × Int)) => z6 (Za y.1.1) fun y_1 => z6 (Zl y.1.2) fun y_2 => zi maxR (fun (x : Int × List (Int × Int × Int × List Bool)) => ifB (ltI x.1 (lenI y.1.1)) (z6 (atI y.1.1 x.1) fun y => z6 (zO (y.1, y.2.1, y.2.2.1, y.2.2.2)) fun y => ifB (ltL x.1 x.2) (z6 (atN x.2 (natI x.1)) fun y_3 => some (Sum.inl (wadd .i64 x.1 1, setN x.2 (natI x.1) (y.1, y.2.1, y.2.2.1, y.2.2.2)))) none) (mapO Sum.inr (z6 (Za y.2.1.1) fun y_3 => z6 (Zl y.2.1.2) fun y_4 => zi maxR (fun (x_1 : Int × List (Int × Int × Int × List Bool)) => ifB (ltI x_1.1 (lenI y.2.1.1)) (z6 (atI y.2.1.1 x_1.1) fun y => z6 (zO (y.1, y.2.1, y.2.2.1, y.2.2.2)) fun y => ifB (ltL x_1.1 x_1.2) (z6 (atN x_1.2 (natI x_1.1)) fun y_5 => some (Sum.inl (wadd .i64 x_1.1 1, setN x_1.2 (natI x_1.1) (y.1, y.2.1, y.2.2.1, y.2.2.2)))) none) (mapO Sum.inr (z6 (Za y.2.2.1.1) fun y_5 => z6 (Zl y.2.2.1.2) fun y_6 => zi maxR (fun (x_2 : Int × List (Int × Int × Int × List Bool)) => ifB (ltI x_2.1 (lenI y.2.2.1.1)) (z6 (atI y.2.2.1.1 x_2.1) fun y => z6 (zO (y.1, y.2.1, y.2.2.1, y.2.2.2)) fun y => ifB (ltL x_2.1 x_2.2) (z6 (atN x_2.2 (natI x_2.1)) fun y_7 => some (Sum.inl (wadd .i64 x_2.1 1, setN x_2.2 (natI x_2.1) (y.1, y.2.1, y.2.2.1, y.2.2.2)))) none) (mapO Sum.inr (z6 (Za y.2.2.2.1) fun y_7 => z6 (Zl y.2.2.2.2) fun y_8 => zi maxR (fun (x_3 : Int × List (Int × Int × Int × List Bool)) => ifB (ltI x_3.1 (lenI y.2.2.2.1)) (z6 (atI y.2.2.2.1 x_3.1) fun y => z6 (zO (y.1, y.2.1, y.2.2.1, y.2.2.2)) fun y => ifB (ltL x_3.1 x_3.2) (z6 (atN x_3.2 (natI x_3.1)) fun y_9 => some (Sum.inl (wadd .i64 x_3.1 1, setN x_3.2 (natI x_3.1) (y.1, y.2.1, y.2.2.1, y.2.2.2)))) none) (mapO Sum.inr (ifB (eqI b 0) (ifB (ltI c 0) (some ([], 3)) (ifB (geI c (wsub .i64 (lenI x.2) 1)) (some ([], 3)) (ifB (ltL c x.2) (z6 (atN x.2 (natI c)) fun y => ifB (ltL (wadd .i64 c 1) x.2) (z6 (atN x.2 (natI (wadd .i64 c 1))) fun y_9 => z6 (yV (y.1, y.2.1, y.2.2.1, y.2.2.2) (y_9.1, y_9.2.1, y_9.2.2.1, y_9.2.2.2)) fun y => ifB (neI y.2 0) (some ([], y.2)) (ifB (ltL c x.2) (z6 (atN x.2 (natI c)) fun y_10 => z6 (vu (setN x.2 (natI c) (y.1.1, y.1.2.1, y.1.2.2.1, y.1.2.2.2)) (wadd .i64 c 1) (wadd .i64 c 2)) fun y => some ([(y, y_2), (x_1.2, y_4), (x_2.2, y_6), (x_3.2, y_8)], 0)) none)) none) none))) (ifB (eqI b 1) (ifB (ltI c 0) (some ([], 3)) (ifB (geI c (wsub .i64 (lenI x_1.2) 1)) (some ([], 3)) (ifB (ltL c x_1.2) (z6 (atN x_1.2 (natI c)) fun y => ifB (ltL (wadd .i64 c 1) x_1.2) (z6 (atN x_1.2 (natI (wadd .i64 c 1))) fun y_9 => z6 (yV (y.1, y.2.1, y.2.2.1, y.2.2.2) (y_9.1, y_9.2.1, y_9.2.2.1, y_9.2.2.2)) fun y => ifB (neI y.2 0) (some ([], y.2)) (ifB (ltL c x_1.2) (z6 (atN x_1.2 (natI c)) fun y_10 => z6 (vu (setN x_1.2 (natI c) (y.1.1, y.1.2.1, y.1.2.2.1, y.1.2.2.2)) (wadd .i64 c 1) (wadd .i64 c 2)) fun y => some ([(x.2, y_2), (y, y_4), (x_2.2, y_6), (x_3.2, y_8)], 0)) none)) none) none))) (ifB (eqI b 2) (ifB (ltI c 0) (some ([], 3)) (ifB (geI c (wsub .i64 (lenI x_2.2) 1)) (some ([], 3)) (ifB (ltL c x_2.2) (z6 (atN x_2.2 (natI c)) fun y => ifB (ltL (wadd .i64 c 1) x_2.2) (z6 (atN x_2.2 (natI (wadd .i64 c 1))) fun y_9 => z6 (yV (y.1, y.2.1, y.2.2.1, y.2.2.2) (y_9.1, y_9.2.1, y_9.2.2.1, y_9.2.2.2)) fun y => ifB (neI y.2 0) (some ([], y.2)) (ifB (ltL c x_2.2) (z6 (atN x_2.2 (natI c)) fun y_10 => z6 (vu (setN x_2.2 (natI c) (y.1.1, y.1.2.1, y.1.2.2.1, y.1.2.2.2)) (wadd .i64 c 1) (wadd .i64 c 2)) fun y => some ([(x.2, y_2), (x_1.2, y_4), (y, y_6), (x_3.2, y_8)], 0)) none)) none) none))) (ifB (eqI b 3) (ifB (ltI c 0) (some ([], 3)) (ifB (geI c (wsub .i64 (lenI x_3.2) 1)) (some ([], 3)) (ifB (ltL c x_3.2) (z6 (atN x_3.2 (natI c)) fun y => ifB (ltL (wadd .i64 c 1) x_3.2) (z6 (atN x_3.2 (natI (wadd .i64 c 1))) fun y_9 => z6 (yV (y.1, y.2.1, y.2.2.1, y.2.2.2) (y_9.1, y_9.2.1, y_9.2.2.1, y_9.2.2.2)) fun y => ifB (neI y.2 0) (some ([], y.2)) (ifB (ltL c x_3.2) (z6 (atN x_3.2 (natI c)) fun y_10 => z6 (vu (setN x_3.2 (natI c) (y.1.1, y.1.2.1, y.1.2.2.1, y.1.2.2.2)) (wadd .i64 c 1) (wadd .i64 c 2)) fun y => some ([(x.2, y_2), (x_1.2, y_4), (x_2.2, y_6), (y, y_8)], 0)) none)) none) none))) none)))))) (0, y_7)))) (0, y_5)))) (0, y_3)))) (0, y_1))))
theorem zcH (x : PI z1M) : Vl (x.1) (x.2.1) (x.2.2) = fnE T z8o z8p z8n (zt Tryz.f82) z1M z6Q x := by kernel_rfl
noncomputable abbrev z8q : GS := zw false z1M z6Q fun x => Vl (x.1) (x.2.1) (x.2.2)
theorem zcI : GSOK Tryz.prog 82 z8q := zm tok zhj fmo (Ht := z8p) (fn := Tryz.f82) (Tryz.func82) (c := z8n) (by kernel_rfl) (by kernel_rfl) (by kernel_rfl) (by decide +kernel) (by decide) zcH
end Go.Proofs.Y
namespace Go.Proofs.Y
open Go.Rb Go.Kx
noncomputable def z6R : Code := zj Tryz.f118
noncomputable def z6S : FuncId → Option GS := tabG []
theorem zfi : ΓOK Tryz.prog z6S := zg
def z6T : HT := ⟨tabL [], tabH []⟩
noncomputable def jE : GS := inl T z6S z6T z6R (zt Tryz.f118) (Tryz.f118.ntmps)
theorem Jh : GSOK Tryz.prog 118 jE := yZ tok zfi fmo (Ht := z6T) (fn := Tryz.f118) (Tryz.func118) (c := z6R) (by kernel_rfl) (by kernel_rfl) (by kernel_rfl)
end Go.Proofs.Y
namespace Go.Proofs.Y
open Go.Rb Go.Kx
noncomputable def z9J : Code := zj Tryz.f147
noncomputable def z9K : FuncId → Option GS := tabG [(118, jE)]
theorem ziS : ΓOK Tryz.prog z9K := z8 (Jh) (zg)
def z9L : HT := ⟨tabL [(2, .it [] (dyn [.t 8 (.int .i64)]))], tabH []⟩
noncomputable def z9M : GS := inl T z9K z9L z9J (zt Tryz.f147) (Tryz.f147.ntmps)
theorem zdX : GSOK Tryz.prog 147 z9M := yZ tok ziS fmo (Ht := z9L) (fn := Tryz.f147) (Tryz.func147) (c := z9J) (by kernel_rfl) (by kernel_rfl) (by kernel_rfl)
end Go.Proofs.Y
namespace Go.Proofs.Y
open Go.Rb Go.Kx
noncomputable def z8r : Code := zj Tryz.f117
noncomputable def z8s : FuncId → Option GS := tabG [(147, z9M), (118, jE)]
theorem zhk : ΓOK Tryz.prog z8s := z8 (zdX) (z8 (Jh) (zg))
def z8t : HT := ⟨tabL [(5, .it [] (dyn [.t 5 (.int .i64), .t 6 (.int .i64), .a 0 126 (.cons (.int .i64) (.cons (.int .i64) (.cons (.int .i64) (.one (.sl 4 (.one .bool))))))]))], tabH [(5, [.touch 0])]⟩
abbrev z1N : List WA := [.f 118 (.one (.int .i64))]
abbrev z6U : List OT := [⟨.one (.sl 126 (.cons (.int .i64) (.cons (.int .i64) (.cons (.int .i64) (.one (.sl 4 (.one .bool))))))), false, []⟩]
set_option maxRecDepth 100000
noncomputable def Yf : List (Int × Int × Int × List Bool) → Int → Option (List (Int × Int × Int × List Bool)) := fun a b => zi maxR (fun (x : Int) => ifB (ltI x (lenI a)) (ifB (ltL x a) (z6 (atN a (natI x)) fun y => ifB (ltI y.2.2.1 b) (mapO Sum.inr (ifB (eqI x (-1)) (some a) (zi maxR (fun (x : Int × Int × List (Int × Int × Int × List Bool)) => ifB (ltI x.2.1 (lenI x.2.2)) (ifB (ltL x.2.1 x.2.2) (z6 (atN x.2.2 (natI x.2.1)) fun y => ifB (notB (ltI y.2.2.1 b)) (ifB (ltL x.1 x.2.2) (z6 (atN x.2.2 (natI x.1)) fun y_1 => some (Sum.inl (wadd .i64 x.1 1, wadd .i64 x.2.1 1, setN x.2.2 (natI x.1) (y.1, y.2.1, y.2.2.1, y.2.2.2)))) none) (some (Sum.inl (x.1, wadd .i64 x.2.1 1, x.2.2)))) none) (mapO Sum.inr (ifB (in1 x.2.2 x.1) (ifB (inN x.2.2 (addN 0 (natI x.1)) (Zd (lenN x.2.2) x.1)) (ifB (in1 (zI x.2.2 (addN 0 (natI x.1)) (repN (Zd (lenN x.2.2) x.1) (0, 0, 0, []))) x.1) (ifB (inN (zI x.2.2 (addN 0 (natI x.1)) (repN (Zd (lenN x.2.2) x.1) (0, 0, 0, []))) 0 (natI x.1)) (some (subN (zI x.2.2 (addN 0 (natI x.1)) (repN (Zd (lenN x.2.2) x.1) (0, 0, 0, []))) 0 (natI x.1))) none) none) none) none))) (x, wadd .i64 x 1, a)))) (some (Sum.inl (wadd .i64 x 1)))) none) (mapO Sum.inr (some a))) 0
theorem zcJ (rows : List (DenR (.cons (.int .i64) (.cons (.int .i64) (.cons (.int .i64) (.one (.sl 4 (.one .bool)))))))) (x : PW z1N) : Yf rows (x.1) = fnM T z8s z8t z8r (zt Tryz.f117) 126 (.cons (.int .i64) (.cons (.int .i64) (.cons (.int .i64) (.one (.sl 4 (.one .bool)))))) z1N z6U rows x := by kernel_rfl
noncomputable abbrev z8u : GS := zn1 126 (.cons (.int .i64) (.cons (.int .i64) (.cons (.int .i64) (.one (.sl 4 (.one .bool)))))) z1N z6U fun rows x => Yf rows (x.1)
theorem zcK : GSOK Tryz.prog 117 z8u := zlr tok zhk fmo (Ht := z8t) (fn := Tryz.f117) (Tryz.func117) (c := z8r) (by kernel_rfl) (by kernel_rfl) (by kernel_rfl) (by decide +kernel) (by decide) zcJ
end Go.Proofs.Y
namespace Go.Proofs.Y
open Go.Rb Go.Kx
noncomputable def z9N : Code := zj Tryz.f83
noncomputable def z9O : FuncId → Option GS := tabG [(78, Yx), (107, j6), (118, jE), (117, z8u)]
theorem ziT : ΓOK Tryz.prog z9O := z8 (Yl) (z8 (VC) (z8 (Jh) (z8 (zcK) (zg))))
def z9P : HT := ⟨tabL [(8, .unroll 5)], tabH [(7, [.frzb 3 (.one (.int .i64))]), (12, [.frzq 2 0 0, .frzq 2 0 1, .frzq 2 0 2, .frzq 2 0 3, .frzq 2 0 4, .frzq 2 0 5, .frzq 2 0 6, .frzq 2 0 7, .pack 2 0 (.cons (.sl 126 (.cons (.int .i64) (.cons (.int .i64) (.cons (.int .i64) (.one (.sl 4 (.one .bool))))))) (.one (.sl 73 (.cons (.int .i64) (.one (.int .i64))))))])]⟩
abbrev z2F : List IT := [.v (.one (.sl 95 (.cons (.sl 126 (.cons (.int .i64) (.cons (.int .i64) (.cons (.int .i64) (.one (.sl 4 (.one .bool))))))) (.one (.sl 73 (.cons (.int .i64) (.one (.int .i64)))))))) true, .v (.one (.int .i64)) false]
abbrev z8v : List OT := [⟨.one (.sl 95 (.cons (.sl 126 (.cons (.int .i64) (.cons (.int .i64) (.cons (.int .i64) (.one (.sl 4 (.one .bool))))))) (.one (.sl 73 (.cons (.int .i64) (.one (.int .i64))))))), true, []⟩, ⟨.one (.int .i64), false, []⟩]
set_option maxRecDepth 100000
noncomputable def j8 : List (List (Int × Int × Int × List Bool) × List (Int × Int)) → Int → Option (List (List (Int × Int × Int × List Bool) × List (Int × Int)) × Int) := fun a b => z6 (yw a) fun y => ifB (neI y 0) (some ([], y)) (ifB (ltI b 0) (some ([], 3)) (ifB (gtI b 100001) (some ([], 3)) (z6 (Ye a) fun y => z6 (four y) fun (y : (List (Int × Int × Int × List Bool) × List (Int × Int)) × (List (Int × Int × Int × List Bool) × List (Int × Int)) × (List (Int × Int × Int × List Bool) × List (Int × Int)) × List (Int × Int × Int × List Bool) × List (Int × Int)) => z6 (Za y.1.1) fun y_1 => z6 (Zl y.1.2) fun y_2 => zi maxR (fun (x : Int × List (Int × Int × Int × List Bool)) => ifB (ltI x.1 (lenI y.1.1)) (z6 (atI y.1.1 x.1) fun y => z6 (zO (y.1, y.2.1, y.2.2.1, y.2.2.2)) fun y => ifB (ltL x.1 x.2) (z6 (atN x.2 (natI x.1)) fun y_3 => some (Sum.inl (wadd .i64 x.1 1, setN x.2 (natI x.1) (y.1, y.2.1, y.2.2.1, y.2.2.2)))) none) (mapO Sum.inr (z6 (Za y.2.1.1) fun y_3 => z6 (Zl y.2.1.2) fun y_4 => zi maxR (fun (x_1 : Int × List (Int × Int × Int × List Bool)) => ifB (ltI x_1.1 (lenI y.2.1.1)) (z6 (atI y.2.1.1 x_1.1) fun y => z6 (zO (y.1, y.2.1, y.2.2.1, y.2.2.2)) fun y => ifB (ltL x_1.1 x_1.2) (z6 (atN x_1.2 (natI x_1.1)) fun y_5 => some (Sum.inl (wadd .i64 x_1.1 1, setN x_1.2 (natI x_1.1) (y.1, y.2.1, y.2.2.1, y.2.2.2)))) none) (mapO Sum.inr (z6 (Za y.2.2.1.1) fun y_5 => z6 (Zl y.2.2.1.2) fun y_6 => zi maxR (fun (x_2 : Int × List (Int × Int × Int × List Bool)) => ifB (ltI x_2.1 (lenI y.2.2.1.1)) (z6 (atI y.2.2.1.1 x_2.1) fun y => z6 (zO (y.1, y.2.1, y.2.2.1, y.2.2.2)) fun y => ifB (ltL x_2.1 x_2.2) (z6 (atN x_2.2 (natI x_2.1)) fun y_7 => some (Sum.inl (wadd .i64 x_2.1 1, setN x_2.2 (natI x_2.1) (y.1, y.2.1, y.2.2.1, y.2.2.2)))) none) (mapO Sum.inr (z6 (Za y.2.2.2.1) fun y_7 => z6 (Zl y.2.2.2.2) fun y_8 => zi maxR (fun (x_3 : Int × List (Int × Int × Int × List Bool)) => ifB (ltI x_3.1 (lenI y.2.2.2.1)) (z6 (atI y.2.2.2.1 x_3.1) fun y => z6 (zO (y.1, y.2.1, y.2.2.1, y.2.2.2)) fun y => ifB (ltL x_3.1 x_3.2) (z6 (atN x_3.2 (natI x_3.1)) fun y_9 => some (Sum.inl (wadd .i64 x_3.1 1, setN x_3.2 (natI x_3.1) (y.1, y.2.1, y.2.2.1, y.2.2.2)))) none) (mapO Sum.inr (z6 (Yf x.2 b) fun y => z6 (Yf x_1.2 b) fun y_9 => z6 (Yf x_2.2 b) fun y_10 => z6 (Yf x_3.2 b) fun y_11 => some ([(y, y_2), (y_9, y_4), (y_10, y_6), (y_11, y_8)], 0)))) (0, y_7)))) (0, y_5)))) (0, y_3)))) (0, y_1))))
theorem zdY (x : PI z2F) : j8 (x.1) (x.2) = fnE T z9O z9P z9N (zt Tryz.f83) z2F z8v x := by kernel_rfl
noncomputable abbrev z9Q : GS := zw false z2F z8v fun x => j8 (x.1) (x.2)
theorem zdZ : GSOK Tryz.prog 83 z9Q := zm tok ziT fmo (Ht := z9P) (fn := Tryz.f83) (Tryz.func83) (c := z9N) (by kernel_rfl) (by kernel_rfl) (by kernel_rfl) (by decide +kernel) (by decide) zdY
end Go.Proofs.Y
namespace Go.Proofs.Y
open Go.Rb Go.Kx
noncomputable def z9R : Code := zj Tryz.f31
noncomputable def z9S : FuncId → Option GS := tabG [(78, Yx), (79, z0N), (80, zbW), (81, z9I), (82, z8q), (83, z9Q)]
theorem ziU : ΓOK Tryz.prog z9S := z8 (Yl) (z8 (z0O) (z8 (zff) (z8 (zdU) (z8 (zcI) (z8 (zdZ) (zg))))))
def z9T : HT := ⟨tabL [], tabH []⟩
abbrev z2G : List IT := [.v (.one (.sl 95 (.cons (.sl 126 (.cons (.int .i64) (.cons (.int .i64) (.cons (.int .i64) (.one (.sl 4 (.one .bool))))))) (.one (.sl 73 (.cons (.int .i64) (.one (.int .i64)))))))) true, .v (.cons (.int .i64) (.cons (.int .i64) (.cons (.int .i64) (.one (.sl 77 (.cons (.int .i64) (.cons (.int .i64) (.one (.int .i64))))))))) true]
abbrev z8w : List OT := [⟨.one (.sl 95 (.cons (.sl 126 (.cons (.int .i64) (.cons (.int .i64) (.cons (.int .i64) (.one (.sl 4 (.one .bool))))))) (.one (.sl 73 (.cons (.int .i64) (.one (.int .i64))))))), true, []⟩, ⟨.one (.int .i64), false, []⟩]
set_option maxRecDepth 100000
noncomputable def yq : List (List (Int × Int × Int × List Bool) × List (Int × Int)) → Int × Int × Int × List (Int × Int × Int) → Option (List (List (Int × Int × Int × List Bool) × List (Int × Int)) × Int) := fun a b => z6 (yw a) fun y => ifB (neI y 0) (some ([], y)) (z6 (Zf (b.1, b.2.1, b.2.2.1, b.2.2.2)) fun y => ifB (neI y 0) (some ([], y)) (ifB (eqI b.1 1) (z6 (JB a b.2.2.2) fun y => some (y.1, y.2)) (ifB (eqI b.1 2) (z6 (j7 a b.2.1 b.2.2.1) fun y => some (y.1, y.2)) (ifB (eqI b.1 3) (z6 (Vl a b.2.1 b.2.2.1) fun y => some (y.1, y.2)) (z6 (j8 a b.2.2.1) fun y => some (y.1, y.2))))))
theorem ze0 (x : PI z2G) : yq (x.1) (x.2) = fnE T z9S z9T z9R (zt Tryz.f31) z2G z8w x := by kernel_rfl
noncomputable abbrev z4l : GS := zw false z2G z8w fun x => yq (x.1) (x.2)
theorem z5y : GSOK Tryz.prog 31 z4l := zm tok ziU fmo (Ht := z9T) (fn := Tryz.f31) (Tryz.func31) (c := z9R) (by kernel_rfl) (by kernel_rfl) (by kernel_rfl) (by decide +kernel) (by decide) ze0
end Go.Proofs.Y
namespace Go.Proofs.Y
open Go.Rb Go.Kx
noncomputable def zc3 : Code := zj Tryz.f75
noncomputable def zc4 : FuncId → Option GS := tabG []
theorem zkD : ΓOK Tryz.prog zc4 := zg
def zc5 : HT := ⟨tabL [], tabH []⟩
abbrev z4m : List IT := []
abbrev z9U : List OT := [⟨.one (.sl 95 (.cons (.sl 126 (.cons (.int .i64) (.cons (.int .i64) (.cons (.int .i64) (.one (.sl 4 (.one .bool))))))) (.one (.sl 73 (.cons (.int .i64) (.one (.int .i64))))))), true, []⟩]
set_option maxRecDepth 100000
noncomputable def yP : Option (List (List (Int × Int × Int × List Bool) × List (Int × Int))) := ifB (z3j 48 4) (some (repI 4 ([], []))) none
theorem zfj (x : PI z4m) : yP  = fnE T zc4 zc5 zc3 (zt Tryz.f75) z4m z9U x := by kernel_rfl
noncomputable abbrev JD : GS := zw false z4m z9U fun x => yP 
theorem jF : GSOK Tryz.prog 75 JD := zm tok zkD fmo (Ht := zc5) (fn := Tryz.f75) (Tryz.func75) (c := zc3) (by kernel_rfl) (by kernel_rfl) (by kernel_rfl) (by decide +kernel) (by decide) zfj
end Go.Proofs.Y
namespace Go.Proofs.Y
open Go.Rb Go.Kx
noncomputable def z6V : Code := zj Tryz.f28
noncomputable def z6W : FuncId → Option GS := tabG [(75, JD), (31, z4l)]
theorem zfk : ΓOK Tryz.prog z6W := z8 (jF) (z8 (z5y) (zg))
def z6X : HT := ⟨tabL [(5, .it [] (dyn [.t 15 (.int .i64), .c 2 0 (.sl 95 (.cons (.sl 126 (.cons (.int .i64) (.cons (.int .i64) (.cons (.int .i64) (.one (.sl 4 (.one .bool))))))) (.one (.sl 73 (.cons (.int .i64) (.one (.int .i64))))))), .c 4 0 (.sl 95 (.cons (.sl 126 (.cons (.int .i64) (.cons (.int .i64) (.cons (.int .i64) (.one (.sl 4 (.one .bool))))))) (.one (.sl 73 (.cons (.int .i64) (.one (.int .i64)))))))]))], tabH []⟩
abbrev z19 : List IT := [.v (.one (.sl 52 (.cons (.int .i64) (.cons (.int .i64) (.cons (.int .i64) (.one (.sl 77 (.cons (.int .i64) (.cons (.int .i64) (.one (.int .i64))))))))))) false]
abbrev z5z : List OT := [⟨.one (.sl 95 (.cons (.sl 126 (.cons (.int .i64) (.cons (.int .i64) (.cons (.int .i64) (.one (.sl 4 (.one .bool))))))) (.one (.sl 73 (.cons (.int .i64) (.one (.int .i64))))))), true, []⟩, ⟨.one (.int .i64), false, []⟩]
set_option maxRecDepth 100000
noncomputable def ZV : List (Int × Int × Int × List (Int × Int × Int)) → Option (List (List (Int × Int × Int × List Bool) × List (Int × Int)) × Int) := fun a => ifB (gtI (lenI a) 60) (some ([], 2)) (z6 yP fun y => zi maxR (fun (x : Int × List (List (Int × Int × Int × List Bool) × List (Int × Int)) × List (List (Int × Int × Int × List Bool) × List (Int × Int))) => ifB (ltI x.1 (lenI a)) (z6 (atI a x.1) fun y => z6 (yq x.2.2 (y.1, y.2.1, y.2.2.1, y.2.2.2)) fun y => ifB (neI y.2 0) (mapO Sum.inr (some ([], y.2))) (some (Sum.inl (wadd .i64 x.1 1, x.2.1, y.1)))) (mapO Sum.inr (some (x.2.2, 0)))) (0, [], y))
theorem zbr (x : PI z19) : ZV x = fnE T z6W z6X z6V (zt Tryz.f28) z19 z5z x := by kernel_rfl
noncomputable abbrev jG : GS := zw false z19 z5z fun x => ZV x
theorem Ji : GSOK Tryz.prog 28 jG := zm tok zfk fmo (Ht := z6X) (fn := Tryz.f28) (Tryz.func28) (c := z6V) (by kernel_rfl) (by kernel_rfl) (by kernel_rfl) (by decide +kernel) (by decide) zbr
end Go.Proofs.Y
namespace Go.Rb
abbrev Pt := Int × Int
abbrev Pt.t (p : Pt) : Int := Prod.fst p
abbrev Pt.v (p : Pt) : Int := Prod.snd p
abbrev Bk := Int × Int × Int × List Bool
abbrev Bk.n (b : Bk) : Int := Prod.fst b
abbrev Bk.fr (b : Bk) : Int := Prod.fst (Prod.snd b)
abbrev Bk.to (b : Bk) : Int := Prod.fst (Prod.snd (Prod.snd b))
abbrev Bk.bits (b : Bk) : List Bool := Prod.snd (Prod.snd (Prod.snd b))
abbrev Rowd := List Bk × List Pt
abbrev Rowd.blocks (r : Rowd) : List Bk := Prod.fst r
abbrev Rowd.head (r : Rowd) : List Pt := Prod.snd r
abbrev Shf := List Rowd
abbrev Ent := Int × Int × Int
abbrev Rc := Int × Int × Int × List Ent
def zrZ (n : Int) : Prop := -9223372036854775808 ≤ n ∧ n ≤ 9223372036854775807
theorem z1a {n : Int} (h1 : -9223372036854775808 ≤ n) (h2 : n ≤ 9223372036854775807) : IntKind.wrap .i64 n = n := by rw [IntKind.wrap_i64]; omega
theorem z2o {α : Type} [Inhabited α] {l : List α} {i : Nat} (h : i < l.length) : l.take (i + 1) = l.take i ++ [l.getD i default] := by
 rw [List.take_succ_eq_append_getElem h]; simp [List.getD, List.getElem?_eq_getElem h]
end Go.Rb
namespace Go.Kx
open Go.Rb
/-! ### Tests -/
theorem Z6 {α : Type} (x y : α) : ifB true x y = x := rfl
theorem Zw {α : Type} (x y : α) : ifB false x y = y := rfl
theorem Zo {α : Type} (b : Bool) (x : α) : ifB b x x = x := by cases b <;> rfl
theorem z6Y {α : Type} (b : Bool) (x y : α) : ifB b x y = if b = true then x else y := by cases b <;> rfl
theorem zQ {α : Type} (p : Prop) [Decidable p] (x y : α) : ifB (decide p) x y = if p then x else y := by by_cases h : p <;> simp [ifB, h]
theorem ze {α : Type} (a b : Int) (x y : α) : ifB (ltI a b) x y = if a < b then x else y := zQ _ _ _
theorem Zt {α : Type} (a b : Int) (x y : α) : ifB (leI a b) x y = if a ≤ b then x else y := zQ _ _ _
theorem zy {α : Type} (a b : Int) (x y : α) : ifB (gtI a b) x y = if b < a then x else y := zQ _ _ _
theorem zL {α : Type} (a b : Int) (x y : α) : ifB (geI a b) x y = if b ≤ a then x else y := zQ _ _ _
theorem zh {α : Type} (a b : Int) (x y : α) : ifB (eqI a b) x y = if a = b then x else y := by
 rw [z6Y]; simp only [eqI, beq_iff_eq]
theorem zk {α : Type} (a b : Int) (x y : α) : ifB (neI a b) x y = if a = b then y else x := by
 rw [z6Y]; simp only [neI, bne_iff_ne, ne_eq, ite_not]
theorem zC {α : Type} (b : Bool) (x y : α) : ifB (notB b) x y = ifB b y x := by cases b <;> rfl
theorem Zx {α : Type} (a b : Bool) (x y : α) : ifB (ifB a b false) x y = ifB a (ifB b x y) y := by cases a <;> rfl
theorem ZD {α : Type} (a b : Bool) (x y : α) : ifB (eqB a b) x y = if a = b then x else y := by
 rw [z6Y]; simp only [eqB, beq_iff_eq]
theorem ZF {α β : Type} (l : List β) (x y : α) : ifB (isE l) x y = if l = [] then x else y := by cases l <;> rfl
theorem zF {α β : Type} (l : List β) (a : Int) (x y : α) : ifB (in1 l a) x y = if 0 ≤ a ∧ a ≤ l.length then x else y := by rw [in1, ← Bool.decide_and]; exact zQ _ _ _
theorem Zy {α β : Type} (l : List β) (a b : Int) (x y : α) : ifB (in2 l a b) x y = if 0 ≤ a ∧ a ≤ b ∧ b ≤ l.length then x else y := by rw [in2, ← Bool.decide_and, ← Bool.decide_and]; exact zQ _ _ _
theorem Zp {α : Type} (c : Nat) (a : Int) (x y : α) : ifB (in1N c a) x y = if 0 ≤ a ∧ a ≤ c then x else y := by rw [in1N, ← Bool.decide_and]; exact zQ _ _ _
theorem Zq {α : Type} (c : Nat) (a b : Int) (x y : α) : ifB (in2N c a b) x y = if 0 ≤ a ∧ a ≤ b ∧ b ≤ c then x else y := by rw [in2N, ← Bool.decide_and, ← Bool.decide_and]; exact zQ _ _ _
theorem Zr {α : Type} (n c : Nat) (a : Int) (x y : α) : ifB (in1C n c a) x y = if 0 ≤ a ∧ a ≤ (max n c : Nat) then x else y := by rw [in1C, ← Bool.decide_and]; exact zQ _ _ _
theorem Zm {α : Type} (n c : Nat) (a b : Int) (x y : α) : ifB (in2C n c a b) x y = if 0 ≤ a ∧ a ≤ b ∧ b ≤ (max n c : Nat) then x else y := by rw [in2C, ← Bool.decide_and, ← Bool.decide_and]; exact zQ _ _ _
theorem Z7 {α β : Type} (l : List β) (o n : Nat) (x y : α) : ifB (inN l o n) x y = if o + n ≤ l.length then x else y := zQ _ _ _
theorem zG {α β : Type} (n : Int) (l : List β) (x y : α) : ifB (ltL n l) x y = if 0 ≤ n ∧ n < l.length then x else y := by rw [ltL, ← Bool.decide_and]; exact zQ _ _ _
theorem ZG {α : Type} (n : Int) (c : Nat) (x y : α) : ifB (ltN n c) x y = if 0 ≤ n ∧ n < c then x else y := by rw [ltN, ← Bool.decide_and]; exact zQ _ _ _
theorem zz {α β : Type} (n : Nat) (a b : List β) (x y : α) : ifB (zf n a b) x y = if (a.length + b.length + (a.length + b.length) / 4 + 192) * n ≤ 281474976710656 ∧ a.length + b.length ≤ 9223372036854775807 then x else y := by rw [zf, ← Bool.decide_and]; exact zQ _ _ _
theorem Z2 {α : Type} (b : Nat) (n : Int) (x y : α) : ifB (z3j b n) x y = if 0 ≤ n ∧ n * b ≤ 140737488355328 ∧ n ≤ 9223372036854775807 then x else y := by rw [z3j, ← Bool.decide_and, ← Bool.decide_and]; exact zQ _ _ _
theorem Z8 {α : Type} (b : Nat) (n : Int) (x y : α) : ifB (z0G b n) x y = if 1 ≤ n ∧ n * b ≤ 140737488355328 ∧ n ≤ 9223372036854775807 then x else y := by rw [z0G, ← Bool.decide_and, ← Bool.decide_and]; exact zQ _ _ _
theorem Z3 {α : Type} (a b : List UInt8) (x y : α) : ifB (JM a b) x y = if (a.length : Int) + b.length ≤ 9223372036854775807 then x else y := zQ _ _ _
theorem Zu {α : Type} (a b : List UInt8) (x y : α) : ifB (eqS a b) x y = if a = b then x else y := by
 rw [z6Y]; simp only [eqS, beq_iff_eq]
theorem ZH {α : Type} (a b : List Int) (x y : α) : ifB (eqL a b) x y = if a = b then x else y := zQ _ _ _
theorem Zn {α β : Type} (n : Nat) (l : List β) (c : Nat) (x y : α) : ifB (fits n l c) x y = if l = [] ∨ n + l.length ≤ c then x else y := by
 cases l with
 | nil => simp [ifB, fits]
 | cons a l => rw [fits]; simp only [List.isEmpty_cons, Bool.false_or, zQ, reduceCtorEq, false_or]
theorem z7 {α β : Type} (a : α) (f : α → Option β) : z6 (some a) f = f a := rfl
theorem zV {α β : Type} (f : α → Option β) : z6 none f = none := rfl
theorem Zb {α β : Type} (a : α) (f : α → β) : mapO f (some a) = some (f a) := rfl
theorem Zc {α β : Type} (f : α → β) : mapO f none = none := rfl
theorem znA {α : Type} (a : Option α) : ambO a a = a := by simp [ambO]
theorem zb {α : Type} (l : List α) : lenI l = (l.length : Int) := rfl
theorem ZE {α : Type} (l : List α) : lenN l = l.length := rfl
theorem zX {α : Type} (a b : List α) : cat a b = a ++ b := rfl
theorem zP {α : Type} (a : List α) (b : Int) : YA a b = a.take b.toNat := rfl
theorem Z1 {α : Type} (a : List α) (b : Int) : yh a b = a.drop b.toNat := rfl
theorem ZI {α : Type} (l : List α) (a b : Int) : sliI l a b = (l.take b.toNat).drop a.toNat := rfl
theorem Zk {α : Type} (l : List α) (n : Nat) (a : α) : setN l n a = l.set n a := rfl
theorem zJ (a : Int) : natI a = a.toNat := rfl
theorem Zz (a : Nat) : intN a = (a : Int) := rfl
theorem zN {α : Type} [Inhabited α] {l : List α} {j : Nat} (h : j < l.length) : atI l (j : Int) = some (l.getD j default) := by
 rw [atI, if_pos (by omega), Int.toNat_natCast, List.getElem?_eq_getElem h]; simp [List.getD, List.getElem?_eq_getElem h]
theorem zbh {α : Type} [Inhabited α] {l : List α} {j : Int} (h0 : 0 ≤ j) (h : j < l.length) : atI l j = some (l.getD j.toNat default) := by
 obtain ⟨k, rfl⟩ : ∃ k : Nat, j = k := ⟨j.toNat, by omega⟩
 exact zN (by omega)
theorem ym {α : Type} [Inhabited α] {l : List α} {j : Nat} (h : j < l.length) : atN l j = some (l.getD j default) := by
 rw [atN, List.getElem?_eq_getElem h]; simp [List.getD, List.getElem?_eq_getElem h]
theorem ZR {a b : Int} (h : -9223372036854775808 ≤ a + b ∧ a + b ≤ 9223372036854775807) : wadd .i64 a b = a + b := z1a h.1 h.2
theorem ZJ {a b : Int} (h : -9223372036854775808 ≤ a - b ∧ a - b ≤ 9223372036854775807) : wsub .i64 a b = a - b := z1a h.1 h.2
theorem YT {a b : Int} (h : -9223372036854775808 ≤ a * b ∧ a * b ≤ 9223372036854775807) : wmul .i64 a b = a * b := z1a h.1 h.2
theorem zfl {a : Int} (h : -9223372036854775808 ≤ 0 - a ∧ 0 - a ≤ 9223372036854775807) : wneg .i64 a = 0 - a := z1a h.1 h.2
theorem zD {j : Nat} (h : (j : Int) < 4611686018427387904) : wadd .i64 (j : Int) 1 = ((j + 1 : Nat) : Int) := by rw [ZR ⟨by omega, by omega⟩]; rfl
/-! ### Loops -/
def yn {α β : Type} (o : Option (Sum β α)) (k : β → Option α) : Option α :=
 match o with
 | none => none
 | some (.inl y) => k y
 | some (.inr a) => some a
theorem zB {α β : Type} (k : β → Option α) : yn none k = none := rfl
theorem zo {α β : Type} (y : β) (k : β → Option α) : yn (some (.inl y)) k = k y := rfl
theorem Z4 {α β : Type} (a : α) (k : β → Option α) : yn (some (.inr a)) k = some a := rfl
theorem zd {α β : Type} (o : Option α) (k : β → Option α) : yn (mapO Sum.inr o) k = o := by cases o <;> rfl
theorem Zs {α β : Type} (p : Prop) [Decidable p] (x y : Option (Sum β α)) (k : β → Option α) : yn (if p then x else y) k = if p then yn x k else yn y k := by split <;> rfl
theorem za {α β : Type} (b : Bool) (x y : Option (Sum β α)) (k : β → Option α) : yn (ifB b x y) k = ifB b (yn x k) (yn y k) := by cases b <;> rfl
theorem zx {α β γ : Type} (o : Option γ) (f : γ → Option (Sum β α)) (k : β → Option α) : yn (z6 o f) k = z6 o fun y => yn (f y) k := by cases o <;> rfl
theorem ye {α β : Type} {f : β → Option (Sum β α)} (G : β → Option α) (P : β → Prop) (μ : β → Nat)
  (h : ∀ x, P x → ∀ k : β → Option α, (∀ y, P y → μ y < μ x → k y = G y) → yn (f x) k = G x) : ∀ (n : Nat) (x : β), P x → μ x < n → zi n f x = G x
 | 0, x, _, hm => absurd hm (Nat.not_lt_zero _)
 | n + 1, x, hp, hm => by
  rw [jx, ← h x hp (zi n f) (fun y hy hl => ye G P μ h n y hy (by omega))]
  cases f x with
  | none => rfl
  | some s => cases s <;> rfl
theorem zS {α β γ σ : Type} [Inhabited γ] (l : List γ) (enc : Nat → σ → β) {f : β → Option (Sum β α)} (G : List γ → σ → Option α) (P : Nat → σ → Prop)
  (hs : ∀ (j : Nat) (s : σ), j < l.length → P j s → ∀ k : β → Option α, (∀ s', P (j + 1) s' → k (enc (j + 1) s') = G (l.drop (j + 1)) s') → yn (f (enc j s)) k = G (l.getD j default :: l.drop (j + 1)) s)
  (he : ∀ s, P l.length s → ∀ k : β → Option α, yn (f (enc l.length s)) k = G [] s) {s0 : σ} (h0 : P 0 s0) (hl : l.length < 9223372036854775808) : zi maxR f (enc 0 s0) = G l s0 := by
 have key : ∀ (d j : Nat) (s : σ) (n : Nat), j + d = l.length → P j s → d < n → zi n f (enc j s) = G (l.drop j) s := by
  intro d
  induction d with
  | zero =>
   intro j s n hj hp hn
   obtain ⟨n, rfl⟩ : ∃ m, n = m + 1 := ⟨n - 1, by omega⟩
   have hj' : j = l.length := by omega
   subst hj'
   rw [List.drop_length, ← he s hp (zi n f), jx]
   cases f (enc l.length s) with
   | none => rfl
   | some q => cases q <;> rfl
  | succ d ih =>
   intro j s n hj hp hn
   obtain ⟨n, rfl⟩ : ∃ m, n = m + 1 := ⟨n - 1, by omega⟩
   have hlt : j < l.length := by omega
   have hd : l.drop j = l.getD j default :: l.drop (j + 1) := by rw [List.drop_eq_getElem_cons hlt]; simp [List.getD, List.getElem?_eq_getElem hlt]
   rw [hd, ← hs j s hlt hp (zi n f) (fun s' hp' => ih (j + 1) s' n (by omega) hp' (by omega)), jx]
   cases f (enc j s) with
   | none => rfl
   | some q => cases q <;> rfl
 have := key l.length 0 s0 maxR (by omega) h0 (by unfold maxR; omega)
 simpa using this
end Go.Kx
namespace Go.Kx
theorem ze1 {α β : Type} {f : β → Option (Sum β α)} (seq : Nat → β) : ∀ (n m : Nat), (∀ j, j < n → f (seq j) = some (.inl (seq (j + 1)))) → zi (n + 1 + m) f (seq 0) = yn (f (seq n)) (zi m f)
 | 0, m, _ => by
  rw [Nat.zero_add, Nat.add_comm 1 m, jx]
  cases f (seq 0) with
  | none => rfl
  | some q => cases q <;> rfl
 | n + 1, m, h => by
  have h0 := h 0 (by omega)
  have h1 := ze1 (fun j => seq (j + 1)) n m (fun j hj => h (j + 1) (by omega))
  rw [show n + 1 + 1 + m = (n + 1 + m) + 1 by omega, jx, h0]
  exact h1
end Go.Kx
namespace Go.Kx
theorem zqr {α β : Type} {f : β → Option (Sum β α)} (seq : Nat → β) (n : Nat) {x0 : β} (h0 : x0 = seq 0) (hn : n < 9223372036854775807) (h : ∀ j, j < n → f (seq j) = some (.inl (seq (j + 1)))) : zi maxR f x0 = yn (f (seq n)) (zi (maxR - n - 1) f) := by
 have := ze1 seq n (maxR - n - 1) h
 rw [show n + 1 + (maxR - n - 1) = maxR by unfold maxR; omega] at this
 rw [h0]
 exact this
end Go.Kx
namespace Go.Rb
open Go.Kx
def JE (x : Ent) : Prop := x.1 < 0 ∨ 4 ≤ x.1 ∨ x.2.1 < 0 ∨ 100000 < x.2.1 ∨ x.2.2 < -1000000 ∨ 1000000 < x.2.2
instance badEntDec (x : Ent) : Decidable (JE x) := inferInstanceAs (Decidable (_ ∨ _))
def entE : List Ent → Int
 | [] => 0
 | x :: l => if JE x then 3 else entE l
def zK (r : Rc) : Int :=
 if r.1 < 1 ∨ 4 < r.1 then 4 else
 if r.1 = 1 then (if ¬ r.2.1 = 0 ∨ ¬ r.2.2.1 = 0 then 4 else if 10 < r.2.2.2.length then 2 else entE r.2.2.2) else
 if 0 < r.2.2.2.length ∨ (r.1 = 4 ∧ ¬ r.2.1 = 0) then 4 else if r.2.1 < 0 ∨ 4 ≤ r.2.1 ∨ r.2.2.1 < 0 ∨ 100001 < r.2.2.1 then 3 else 0
theorem JF {r : Rc} (h : zK r = 0) : 1 ≤ r.1 ∧ r.1 ≤ 4 ∧ (r.1 = 1 → r.2.1 = 0 ∧ r.2.2.1 = 0 ∧ r.2.2.2.length ≤ 10 ∧ entE r.2.2.2 = 0) ∧ (¬ r.1 = 1 → r.2.2.2 = [] ∧ 0 ≤ r.2.1 ∧ r.2.1 ≤ 3 ∧ 0 ≤ r.2.2.1 ∧ r.2.2.1 ≤ 100001 ∧ (r.1 = 4 → r.2.1 = 0)) := by
 unfold zK at h
 split at h
 ·cases h
 ·rename_i h1
  split at h
  ·rename_i h2
   split at h
   ·cases h
   ·rename_i h3
    split at h
    ·cases h
    ·rename_i h4
     exact ⟨by omega, by omega, fun _ => ⟨by omega, by omega, by omega, h⟩, fun h => absurd h2 h⟩
  ·rename_i h2
   split at h
   ·cases h
   ·rename_i h3
    split at h
    ·cases h
    ·rename_i h4
     refine ⟨by omega, by omega, fun h => absurd h h2, fun _ => ⟨List.eq_nil_of_length_eq_zero (by omega), by omega, by omega, by omega, by omega, fun h5 => ?_⟩⟩
     exact Classical.byContradiction fun h6 => h3 (.inr ⟨h5, h6⟩)
end Go.Rb
namespace Go.Kx
open Go.Rb
theorem z0m {α : Type} (b : Nat) (a : List α) (h : (a.length + a.length / 4 + 192) * b ≤ 281474976710656) (h2 : a.length ≤ 9223372036854775807) :
  ifB (isE a) (ambO (some []) (ifB (zf b [] a) (some (cat [] a)) none)) (ifB (zf b [] a) (some (cat [] a)) none) = some a := by
 simp only [zB, zo, Z4, zd, Zs, zx, Z6, Zw, Zo, ze, Zt, zy, zL, zh, zk, zC, Zx, ZD, ZF, zF, Zy, Zp, Zq, Zr, Zm, Z7, zG, ZG, zz, Z2, Z8, Z3, Zu, ZH, Zn, z7, zV, Zb, Zc, zb, ZE, zX, zP, Z1, ZI, Zk, zJ, Zz, List.length_nil, Nat.zero_add, List.nil_append]
 rw [if_pos (⟨h, h2⟩ : (a.length + a.length / 4 + 192) * b ≤ 281474976710656 ∧ a.length ≤ 9223372036854775807)]
 split
 ·rename_i h0; subst h0; exact znA _
 ·rfl
theorem ziV {α : Type} [Inhabited α] {a b : List α} (h : a.length = b.length) (hg : ∀ j, j < a.length → a.getD j default = b.getD j default) : a = b := by
 apply List.ext_getElem h
 intro i h1 h2
 have := hg i h1
 simpa [List.getD, List.getElem?_eq_getElem h1, List.getElem?_eq_getElem h2] using this
theorem z9V {α : Type} [Inhabited α] [DecidableEq α] (eqv : α → α → Bool) (he : ∀ x y, eqv x y = decide (x = y)) (a b : List α) (hl : a.length < 4611686018427387904) :
  ifB (neI (lenI a) (lenI b)) (some false) (zi maxR (fun (x : Int) => ifB (ltI x (lenI a)) (z6 (atI a x) fun (y : α) => z6 (atI b x) fun (y_1 : α) => ifB (notB (eqv y y_1)) (mapO Sum.inr (some false)) (some (Sum.inl (wadd IntKind.i64 x 1)))) (mapO Sum.inr (some true))) 0) = some (decide (a = b)) := by
 rw [zk]
 by_cases hab : (a.length : Int) = b.length
 ·rw [zb, zb, if_pos hab]
  have hn : a.length = b.length := by omega
  refine ye (G := fun _ => some (decide (a = b))) (P := fun (i : Int) => 0 ≤ i ∧ i ≤ a.length ∧ ∀ j : Nat, (j : Int) < i → a.getD j default = b.getD j default) (μ := fun (i : Int) => a.length - i.toNat) ?_ maxR 0 ⟨by omega, by omega, fun j hj => by omega⟩ (by unfold maxR; omega)
  rintro i ⟨h0, h1, h2⟩ k hk
  obtain ⟨j, rfl⟩ : ∃ j : Nat, i = j := ⟨i.toNat, by omega⟩
  simp only [zB, zo, Z4, zd, Zs, zx, Z6, Zw, Zo, ze, Zt, zy, zL, zh, zk, zC, Zx, ZD, ZF, zF, Zy, Zp, Zq, Zr, Zm, Z7, zG, ZG, zz, Z2, Z8, Z3, Zu, ZH, Zn, z7, zV, Zb, Zc, zb, ZE, zX, zP, Z1, ZI, Zk, zJ, Zz]
  by_cases hj : j < a.length
  ·rw [if_pos (by omega), zN hj, zN (by omega : j < b.length), z7, z7, he, zD (by omega), za, zo, Z4]
   by_cases hq : a.getD j default = b.getD j default
   ·rw [hk _ ⟨by omega, by omega, fun j' hj' => ?_⟩ (by omega)]
    ·rw [zQ, if_pos hq]
    ·by_cases h : j' = j
     ·subst h; exact hq
     ·exact h2 j' (by omega)
   ·have hne : a ≠ b := by rintro rfl; exact hq rfl
    rw [zQ, if_neg hq]
    simp [hne]
  ·rw [if_neg (by omega)]
   have : a = b := ziV hn fun j' hj' => h2 j' (by omega)
   simp [this]
 ·rw [zb, zb, if_neg hab]
  have : a ≠ b := by rintro rfl; exact hab rfl
  simp [this]
theorem z9W {α : Type} (a : List (List α)) {j : Nat} (h : j < a.length) : (a.take (j + 1)).flatten.length = (a.take j).flatten.length + (a.getD j default).length := by
 rw [z2o h]; simp
theorem z5A {α : Type} (a : List (List α)) (j : Nat) : (a.take j).flatten.length ≤ a.flatten.length := by
 have h : a.flatten = (a.take j).flatten ++ (a.drop j).flatten := by rw [← List.flatten_append, List.take_append_drop]
 rw [h, List.length_append]; omega
theorem zcL {α : Type} (a : List (List α)) {j : Nat} (h : j < a.length) : (a.take (j + 1)).flatten = (a.take j).flatten ++ a.getD j default := by
 rw [z2o h]; simp
theorem z3y {α : Type} (bytes : Nat) (z : α) (a : List (List α)) (ha : a.length < 4611686018427387904) (hb : 1 ≤ bytes) (h : a.flatten.length * bytes ≤ 140737488355328) (hbb : bytes ≤ 1048576) :
  zi maxR (fun (x : Int × Int) => ifB (ltI (Prod.snd x) (lenI a)) (z6 (atI a (Prod.snd x)) fun (y : List α) => ifB (ltI (wadd IntKind.i64 (Prod.fst x) (lenI y)) 0) none (some (Sum.inl (wadd IntKind.i64 (Prod.fst x) (lenI y), wadd IntKind.i64 (Prod.snd x) 1))))
   (mapO Sum.inr (ifB (ltI (Prod.fst x) 0) none (ifB (gtI (wsub IntKind.i64 (Prod.fst x) (wsub IntKind.i64 0 0)) 0)
    (ifB (z0G bytes (wsub IntKind.i64 (Prod.fst x) (wsub IntKind.i64 0 0))) (ifB (in1 (repI (wsub IntKind.i64 (Prod.fst x) (wsub IntKind.i64 0 0)) z) 0) (ifB (inN (repI (wsub IntKind.i64 (Prod.fst x) (wsub IntKind.i64 0 0)) z) 0 (natI 0))
     (zi maxR (fun (x : Int × List α) => ifB (ltI (Prod.fst x) (lenI a)) (z6 (atI a (Prod.fst x)) fun (y : List α) => ifB (zf bytes (Prod.snd x) y) (some (Sum.inl (wadd IntKind.i64 (Prod.fst x) 1, cat (Prod.snd x) y))) none) (mapO Sum.inr (some (Prod.snd x)))) (0, subN (repI (wsub IntKind.i64 (Prod.fst x) (wsub IntKind.i64 0 0)) z) 0 (natI 0)))
     none) none) none)
    (zi maxR (fun (x : Int × List α) => ifB (ltI (Prod.fst x) (lenI a)) (z6 (atI a (Prod.fst x)) fun (y : List α) => ifB (zf bytes (Prod.snd x) y) (some (Sum.inl (wadd IntKind.i64 (Prod.fst x) 1, cat (Prod.snd x) y))) none) (mapO Sum.inr (some (Prod.snd x)))) (0, [])))))) (0, 0) = some a.flatten := by
 have hfl : a.flatten.length ≤ 140737488355328 := by
  have : a.flatten.length * 1 ≤ a.flatten.length * bytes := Nat.mul_le_mul_left _ hb
  omega
 have second : zi maxR (fun (x : Int × List α) => ifB (ltI (Prod.fst x) (lenI a)) (z6 (atI a (Prod.fst x)) fun (y : List α) => ifB (zf bytes (Prod.snd x) y) (some (Sum.inl (wadd IntKind.i64 (Prod.fst x) 1, cat (Prod.snd x) y))) none) (mapO Sum.inr (some (Prod.snd x)))) (0, []) = some a.flatten := by
  refine zS a (fun j s => ((j : Int), s)) (G := fun _ _ => some a.flatten) (P := fun j s => s = (a.take j).flatten) ?_ ?_ (by simp) (by omega)
  ·rintro j s hj rfl k hk
   have h1 := z9W a hj
   have h2 := z5A a (j + 1)
   simp only [zB, zo, Z4, zd, Zs, zx, Z6, Zw, Zo, ze, Zt, zy, zL, zh, zk, zC, Zx, ZD, ZF, zF, Zy, Zp, Zq, Zr, Zm, Z7, zG, ZG, zz, Z2, Z8, Z3, Zu, ZH, Zn, z7, zV, Zb, Zc, zb, ZE, zX, zP, Z1, ZI, Zk, zJ, Zz]
   rw [if_pos (by omega), zN hj, z7, zD (by omega), ← zcL a hj, hk _ rfl, if_pos]
   refine ⟨?_, by omega⟩
   have h3 : ((a.take j).flatten.length + (a.getD j default).length) * bytes ≤ 140737488355328 := Nat.le_trans (Nat.mul_le_mul_right _ (by omega)) h
   generalize (a.take j).flatten.length + (a.getD j default).length = m at *
   have h4 : m / 4 * bytes ≤ m * bytes := Nat.mul_le_mul_right _ (by omega)
   have h5 : m / 4 * bytes * 4 ≤ m * bytes := by rw [Nat.mul_right_comm]; exact Nat.mul_le_mul_right _ (by omega)
   rw [Nat.add_mul, Nat.add_mul]
   omega
  ·rintro s rfl k
   simp only [zB, zo, Z4, zd, Zs, zx, Z6, Zw, Zo, ze, Zt, zy, zL, zh, zk, zC, Zx, ZD, ZF, zF, Zy, Zp, Zq, Zr, Zm, Z7, zG, ZG, zz, Z2, Z8, Z3, Zu, ZH, Zn, z7, zV, Zb, Zc, zb, ZE, zX, zP, Z1, ZI, Zk, zJ, Zz]
   rw [if_neg (by omega), List.take_length]
 refine zS a (fun j s => (s, (j : Int))) (G := fun _ _ => some a.flatten) (P := fun j s => s = ((a.take j).flatten.length : Int)) ?_ ?_ (by simp) (by omega)
 ·rintro j s hj rfl k hk
  have h1 := z9W a hj
  have h2 := z5A a (j + 1)
  simp only [zB, zo, Z4, zd, Zs, zx, Z6, Zw, Zo, ze, Zt, zy, zL, zh, zk, zC, Zx, ZD, ZF, zF, Zy, Zp, Zq, Zr, Zm, Z7, zG, ZG, zz, Z2, Z8, Z3, Zu, ZH, Zn, z7, zV, Zb, Zc, zb, ZE, zX, zP, Z1, ZI, Zk, zJ, Zz]
  rw [if_pos (by omega), zN hj, z7, zD (by omega), ZR ⟨by omega, by omega⟩, if_neg (by omega)]
  exact hk _ (by omega)
 ·rintro s rfl k
  rw [List.take_length]
  have hw : wsub .i64 (a.flatten.length : Int) (wsub .i64 0 0) = (a.flatten.length : Int) := by
   rw [ZJ (a := 0) (b := 0) ⟨by omega, by omega⟩, ZJ ⟨by omega, by omega⟩]; omega
  have hz : subN (repI (a.flatten.length : Int) z) 0 (natI 0) = [] := by simp [subN, natI]
  show yn (ifB (ltI ((a.length : Nat) : Int) (lenI a)) _ (mapO Sum.inr (ifB (ltI (a.flatten.length : Int) 0) none (ifB (gtI (wsub .i64 (a.flatten.length : Int) (wsub .i64 0 0)) 0) _ _)))) k = _
  rw [za, zd, ze, if_neg (show ¬ ((a.length : Nat) : Int) < lenI a by rw [zb]; omega), ze, if_neg (by omega)]
  show ifB (gtI (wsub .i64 (a.flatten.length : Int) (wsub .i64 0 0)) 0) (ifB (z0G bytes (wsub .i64 (a.flatten.length : Int) (wsub .i64 0 0))) (ifB (in1 (repI (wsub .i64 (a.flatten.length : Int) (wsub .i64 0 0)) z) 0) (ifB (inN (repI (wsub .i64 (a.flatten.length : Int) (wsub .i64 0 0)) z) 0 (natI 0))
   (zi maxR _ (0, subN (repI (wsub .i64 (a.flatten.length : Int) (wsub .i64 0 0)) z) 0 (natI 0))) none) none) none) (zi maxR _ (0, [])) = _
  rw [hw, hz, second, zy]
  split
  ·rw [Z8, if_pos, zF, if_pos ⟨by omega, by simp [repI]⟩, Z7, if_pos (by simp [repI, natI])]
   refine ⟨by omega, ?_, by omega⟩
   rw [← Int.natCast_mul]; omega
  ·rfl
theorem z1O {α : Type} (a b : List α) : [a, b].flatten = a ++ b := by simp
end Go.Kx
namespace Go.Proofs.Y
open Go.Rb Go.Kx
theorem z4n (r : Rc) (hl : r.2.2.2.length < 4611686018427387904) : Zf r = some (zK r) := by
 unfold Zf zK
 have hloop : zi maxR (fun (x : Int) => ifB (ltI x (lenI (Prod.snd (Prod.snd (Prod.snd r))))) (z6 (atI (Prod.snd (Prod.snd (Prod.snd r))) x) fun (y : Int × Int × Int) =>
   ifB (ltI (Prod.fst y) 0) (mapO Sum.inr (some 3)) (ifB (geI (Prod.fst y) 4) (mapO Sum.inr (some 3)) (ifB (ltI (Prod.fst (Prod.snd y)) 0) (mapO Sum.inr (some 3)) (ifB (gtI (Prod.fst (Prod.snd y)) 100000) (mapO Sum.inr (some 3))
    (ifB (ltI (Prod.snd (Prod.snd y)) (-1000000)) (mapO Sum.inr (some 3)) (ifB (gtI (Prod.snd (Prod.snd y)) 1000000) (mapO Sum.inr (some 3)) (some (Sum.inl (wadd IntKind.i64 x 1))))))))) (mapO Sum.inr (some 0))) 0 = some (entE r.2.2.2) := by
  generalize r.2.2.2 = l at *
  refine zS l (fun j (_ : Unit) => (j : Int)) (G := fun rest _ => some (entE rest)) (P := fun _ _ => True) ?_ ?_ (s0 := ()) trivial (by omega)
  ·rintro j _ hj _ k hk
   have hat := zN hj
   generalize l.getD j default = x at *
   simp only [za, zx, zd, zo]
   rw [ze, zb, if_pos (by omega), hat, z7, ze, zL, ze, zy, ze, zy, zD (by omega), hk () trivial, entE]
   by_cases hb : JE x
   ·rw [if_pos hb]
    unfold JE at hb
    repeat' split
    all_goals first | rfl | (exfalso; omega)
   ·rw [if_neg hb]
    unfold JE at hb
    repeat' split
    all_goals first | rfl | (exfalso; omega)
  ·rintro _ _ k
   simp only [za, zd]
   rw [ze, zb, if_neg (by omega)]; rfl
 rw [hloop]
 simp only [ze, zy, zh, zk, zL, zb]
 repeat' split
 all_goals first | rfl | (exfalso; omega)
end Go.Proofs.Y
namespace Go.Proofs.Y
open Go.Rb Go.Kx
noncomputable def ziW : Code := zj Tryz.f44
noncomputable def ziX : FuncId → Option GS := tabG []
theorem zp3 : ΓOK Tryz.prog ziX := zg
def ziY : HT := ⟨tabL [(4, .it [] (dyn [.t 13 (.int .i64)]))], tabH []⟩
abbrev z9X : List IT := [.v (.one (.sl 73 (.cons (.int .i64) (.one (.int .i64))))) false, .v (.one (.sl 73 (.cons (.int .i64) (.one (.int .i64))))) false]
abbrev zgp : List OT := [⟨.one .bool, false, []⟩]
set_option maxRecDepth 100000
noncomputable def j9 : List (Int × Int) → List (Int × Int) → Option Bool := fun a b => ifB (neI (lenI a) (lenI b)) (some false) (zi maxR (fun (x : Int) => ifB (ltI x (lenI a)) (z6 (atI a x) fun y => z6 (atI b x) fun y_1 => ifB (notB (eqL [y.1, y.2] [y_1.1, y_1.2])) (mapO Sum.inr (some false)) (some (Sum.inl (wadd .i64 x 1)))) (mapO Sum.inr (some true))) 0)
theorem zkE (x : PI z9X) : j9 (x.1) (x.2) = fnE T ziX ziY ziW (zt Tryz.f44) z9X zgp x := by kernel_rfl
noncomputable abbrev z4o : GS := zw false z9X zgp fun x => j9 (x.1) (x.2)
theorem z2a : GSOK Tryz.prog 44 z4o := zm tok zp3 fmo (Ht := ziY) (fn := Tryz.f44) (Tryz.func44) (c := ziW) (by kernel_rfl) (by kernel_rfl) (by kernel_rfl) (by decide +kernel) (by decide) zkE
end Go.Proofs.Y
namespace Go.Proofs.Y
open Go.Rb Go.Kx
noncomputable def ziZ : Code := zj Tryz.f124
noncomputable def zj0 : FuncId → Option GS := tabG []
theorem zp4 : ΓOK Tryz.prog zj0 := zg
def zj1 : HT := ⟨tabL [(4, .it [] (dyn [.t 13 (.int .i64)]))], tabH []⟩
abbrev z9Y : List IT := [.v (.one (.sl 4 (.one .bool))) false, .v (.one (.sl 4 (.one .bool))) false]
abbrev zgq : List OT := [⟨.one .bool, false, []⟩]
set_option maxRecDepth 100000
noncomputable def z4p : List Bool → List Bool → Option Bool := fun a b => ifB (neI (lenI a) (lenI b)) (some false) (zi maxR (fun (x : Int) => ifB (ltI x (lenI a)) (z6 (atI a x) fun y => z6 (atI b x) fun y_1 => ifB (notB (eqB y y_1)) (mapO Sum.inr (some false)) (some (Sum.inl (wadd .i64 x 1)))) (mapO Sum.inr (some true))) 0)
theorem zkF (x : PI z9Y) : z4p (x.1) (x.2) = fnE T zj0 zj1 ziZ (zt Tryz.f124) z9Y zgq x := by kernel_rfl
noncomputable abbrev zcM : GS := zw false z9Y zgq fun x => z4p (x.1) (x.2)
theorem zc6 : GSOK Tryz.prog 124 zcM := zm tok zp4 fmo (Ht := zj1) (fn := Tryz.f124) (Tryz.func124) (c := ziZ) (by kernel_rfl) (by kernel_rfl) (by kernel_rfl) (by decide +kernel) (by decide) zkF
end Go.Proofs.Y
namespace Go.Proofs.Y
open Go.Rb Go.Kx
noncomputable def z9Z : Code := zj Tryz.f92
noncomputable def za0 : FuncId → Option GS := tabG [(124, zcM)]
theorem zj2 : ΓOK Tryz.prog za0 := z8 (zc6) (zg)
def za1 : HT := ⟨tabL [], tabH []⟩
abbrev z2H : List IT := [.v (.cons (.int .i64) (.cons (.int .i64) (.cons (.int .i64) (.one (.sl 4 (.one .bool)))))) true, .v (.cons (.int .i64) (.cons (.int .i64) (.cons (.int .i64) (.one (.sl 4 (.one .bool)))))) true]
abbrev z8x : List OT := [⟨.one .bool, false, []⟩]
set_option maxRecDepth 100000
noncomputable def ja : Int × Int × Int × List Bool → Int × Int × Int × List Bool → Option Bool := fun a b => ifB (eqI a.1 b.1) (ifB (eqI a.2.1 b.2.1) (ifB (eqI a.2.2.1 b.2.2.1) (z6 (z4p a.2.2.2 b.2.2.2) fun y => some y) (some false)) (some false)) (some false)
theorem ze2 (x : PI z2H) : ja (x.1) (x.2) = fnE T za0 za1 z9Z (zt Tryz.f92) z2H z8x x := by kernel_rfl
noncomputable abbrev z4q : GS := zw false z2H z8x fun x => ja (x.1) (x.2)
theorem z5B : GSOK Tryz.prog 92 z4q := zm tok zj2 fmo (Ht := za1) (fn := Tryz.f92) (Tryz.func92) (c := z9Z) (by kernel_rfl) (by kernel_rfl) (by kernel_rfl) (by decide +kernel) (by decide) ze2
end Go.Proofs.Y
namespace Go.Proofs.Y
open Go.Rb Go.Kx
noncomputable def jY : Code := zj Tryz.f110
noncomputable def jZ : FuncId → Option GS := tabG [(124, zcM)]
theorem z4Z : ΓOK Tryz.prog jZ := z8 (zc6) (zg)
def J0 : HT := ⟨tabL [], tabH []⟩
abbrev YY : List IT := [.v (.cons (.int .i64) (.cons (.int .i64) (.cons (.int .i64) (.one (.sl 4 (.one .bool)))))) true, .v (.cons (.int .i64) (.cons (.int .i64) (.cons (.int .i64) (.one (.sl 4 (.one .bool)))))) true]
abbrev jb : List OT := [⟨.one .bool, false, []⟩]
set_option maxRecDepth 100000
noncomputable def yF : Int × Int × Int × List Bool → Int × Int × Int × List Bool → Option Bool := fun a b => ifB (eqI a.1 b.1) (ifB (eqI a.2.1 b.2.1) (ifB (eqI a.2.2.1 b.2.2.1) (z6 (z4p a.2.2.2 b.2.2.2) fun y => some y) (some false)) (some false)) (some false)
theorem z2I (x : PI YY) : yF (x.1) (x.2) = fnE T jZ J0 jY (zt Tryz.f110) YY jb x := by kernel_rfl
noncomputable abbrev vm : GS := zw false YY jb fun x => yF (x.1) (x.2)
theorem Vm : GSOK Tryz.prog 110 vm := zm tok z4Z fmo (Ht := J0) (fn := Tryz.f110) (Tryz.func110) (c := jY) (by kernel_rfl) (by kernel_rfl) (by kernel_rfl) (by decide +kernel) (by decide) z2I
end Go.Proofs.Y
namespace Go.Proofs.Y
open Go.Rb Go.Kx
noncomputable def za2 : Code := zj Tryz.f91
noncomputable def za3 : FuncId → Option GS := tabG [(92, z4q), (110, vm)]
theorem zj3 : ΓOK Tryz.prog za3 := z8 (z5B) (z8 (Vm) (zg))
def za4 : HT := ⟨tabL [(4, .it [] (dyn [.t 17 (.int .i64)]))], tabH []⟩
noncomputable def z4r : GS := inl T za3 za4 za2 (zt Tryz.f91) (Tryz.f91.ntmps)
theorem z5C : GSOK Tryz.prog 91 z4r := yZ tok zj3 fmo (Ht := za4) (fn := Tryz.f91) (Tryz.func91) (c := za2) (by kernel_rfl) (by kernel_rfl) (by kernel_rfl)
end Go.Proofs.Y
namespace Go.Proofs.Y
open Go.Rb Go.Kx
noncomputable def z6Z : Code := zj Tryz.f90
noncomputable def z70 : FuncId → Option GS := tabG [(44, z4o), (91, z4r), (92, z4q)]
theorem zfm : ΓOK Tryz.prog z70 := z8 (z2a) (z8 (z5C) (z8 (z5B) (zg)))
def z71 : HT := ⟨tabL [], tabH []⟩
noncomputable def z1P : GS := inl T z70 z71 z6Z (zt Tryz.f90) (Tryz.f90.ntmps)
theorem z39 : GSOK Tryz.prog 90 z1P := yZ tok zfm fmo (Ht := z71) (fn := Tryz.f90) (Tryz.func90) (c := z6Z) (by kernel_rfl) (by kernel_rfl) (by kernel_rfl)
end Go.Proofs.Y
namespace Go.Proofs.Y
open Go.Rb Go.Kx
noncomputable def VD : Code := zj Tryz.f109
noncomputable def VE : FuncId → Option GS := tabG [(91, z4r), (110, vm), (44, z4o)]
theorem z3z : ΓOK Tryz.prog VE := z8 (z5C) (z8 (Vm) (z8 (z2a) (zg)))
def VF : HT := ⟨tabL [], tabH []⟩
noncomputable def YF : GS := inl T VE VF VD (zt Tryz.f109) (Tryz.f109.ntmps)
theorem vY : GSOK Tryz.prog 109 YF := yZ tok z3z fmo (Ht := VF) (fn := Tryz.f109) (Tryz.func109) (c := VD) (by kernel_rfl) (by kernel_rfl) (by kernel_rfl)
end Go.Proofs.Y
namespace Go.Proofs.Y
open Go.Rb Go.Kx
noncomputable def za5 : Code := zj Tryz.f89
noncomputable def za6 : FuncId → Option GS := tabG [(90, z1P), (109, YF)]
theorem zj4 : ΓOK Tryz.prog za6 := z8 (z39) (z8 (vY) (zg))
def za7 : HT := ⟨tabL [(4, .it [] (dyn [.t 17 (.int .i64)]))], tabH []⟩
noncomputable def z4s : GS := inl T za6 za7 za5 (zt Tryz.f89) (Tryz.f89.ntmps)
theorem z5D : GSOK Tryz.prog 89 z4s := yZ tok zj4 fmo (Ht := za7) (fn := Tryz.f89) (Tryz.func89) (c := za5) (by kernel_rfl) (by kernel_rfl) (by kernel_rfl)
end Go.Proofs.Y
namespace Go.Proofs.Y
open Go.Rb Go.Kx
noncomputable def J1 : Code := zj Tryz.f63
noncomputable def J2 : FuncId → Option GS := tabG [(89, z4s), (109, YF)]
theorem z50 : ΓOK Tryz.prog J2 := z8 (z5D) (z8 (vY) (zg))
def J3 : HT := ⟨tabL [], tabH []⟩
abbrev YZ : List IT := [.v (.one (.sl 95 (.cons (.sl 126 (.cons (.int .i64) (.cons (.int .i64) (.cons (.int .i64) (.one (.sl 4 (.one .bool))))))) (.one (.sl 73 (.cons (.int .i64) (.one (.int .i64)))))))) true, .v (.one (.sl 95 (.cons (.sl 126 (.cons (.int .i64) (.cons (.int .i64) (.cons (.int .i64) (.one (.sl 4 (.one .bool))))))) (.one (.sl 73 (.cons (.int .i64) (.one (.int .i64)))))))) true]
abbrev jc : List OT := [⟨.one .bool, false, []⟩]
set_option maxRecDepth 100000
noncomputable def ZT : List (List (Int × Int × Int × List Bool) × List (Int × Int)) → List (List (Int × Int × Int × List Bool) × List (Int × Int)) → Option Bool := fun a b => ifB (neI (lenI a) (lenI b)) (some false) (zi maxR (fun (x : Int) => ifB (ltI x (lenI a)) (z6 (atI a x) fun y => z6 (atI b x) fun y_1 => ifB (neI (lenI y.1) (lenI y_1.1)) (mapO Sum.inr (some false)) (zi maxR (fun (x_1 : Int) => ifB (ltI x_1 (lenI y.1)) (z6 (atI y.1 x_1) fun y => z6 (atI y_1.1 x_1) fun y_2 => z6 (yF (y.1, y.2.1, y.2.2.1, y.2.2.2) (y_2.1, y_2.2.1, y_2.2.2.1, y_2.2.2.2)) fun y => ifB (notB y) (mapO Sum.inr (mapO Sum.inr (some false))) (some (Sum.inl (wadd .i64 x_1 1)))) (mapO Sum.inr (z6 (j9 y.2 y_1.2) fun y => ifB (notB y) (mapO Sum.inr (some false)) (some (Sum.inl (wadd .i64 x 1)))))) 0)) (mapO Sum.inr (some true))) 0)
theorem z2J (x : PI YZ) : ZT (x.1) (x.2) = fnE T J2 J3 J1 (zt Tryz.f63) YZ jc x := by kernel_rfl
noncomputable abbrev J4 : GS := zw false YZ jc fun x => ZT (x.1) (x.2)
theorem z2K : GSOK Tryz.prog 63 J4 := zm tok z50 fmo (Ht := J3) (fn := Tryz.f63) (Tryz.func63) (c := J1) (by kernel_rfl) (by kernel_rfl) (by kernel_rfl) (by decide +kernel) (by decide) z2J
end Go.Proofs.Y
namespace Go.Proofs.Y
open Go.Rb Go.Kx
noncomputable def za8 : Code := zj Tryz.f35
noncomputable def za9 : FuncId → Option GS := tabG [(89, z4s), (90, z1P)]
theorem zj5 : ΓOK Tryz.prog za9 := z8 (z5D) (z8 (z39) (zg))
def zaa : HT := ⟨tabL [], tabH []⟩
abbrev z2L : List IT := [.v (.one (.sl 95 (.cons (.sl 126 (.cons (.int .i64) (.cons (.int .i64) (.cons (.int .i64) (.one (.sl 4 (.one .bool))))))) (.one (.sl 73 (.cons (.int .i64) (.one (.int .i64)))))))) true, .v (.one (.sl 95 (.cons (.sl 126 (.cons (.int .i64) (.cons (.int .i64) (.cons (.int .i64) (.one (.sl 4 (.one .bool))))))) (.one (.sl 73 (.cons (.int .i64) (.one (.int .i64)))))))) true]
abbrev z8y : List OT := [⟨.one .bool, false, []⟩]
set_option maxRecDepth 100000
noncomputable def Ya : List (List (Int × Int × Int × List Bool) × List (Int × Int)) → List (List (Int × Int × Int × List Bool) × List (Int × Int)) → Option Bool := fun a b => ifB (neI (lenI a) (lenI b)) (some false) (zi maxR (fun (x : Int) => ifB (ltI x (lenI a)) (z6 (atI a x) fun y => z6 (atI b x) fun y_1 => z6 (j9 y.2 y_1.2) fun y_2 => ifB y_2 (ifB (neI (lenI y.1) (lenI y_1.1)) (mapO Sum.inr (some false)) (zi maxR (fun (x_1 : Int) => ifB (ltI x_1 (lenI y.1)) (z6 (atI y.1 x_1) fun y => z6 (atI y_1.1 x_1) fun y_3 => z6 (ja (y.1, y.2.1, y.2.2.1, y.2.2.2) (y_3.1, y_3.2.1, y_3.2.2.1, y_3.2.2.2)) fun y => ifB (notB y) (mapO Sum.inr (mapO Sum.inr (some false))) (some (Sum.inl (wadd .i64 x_1 1)))) (mapO Sum.inr (some (Sum.inl (wadd .i64 x 1))))) 0)) (mapO Sum.inr (some false))) (mapO Sum.inr (some true))) 0)
theorem ze3 (x : PI z2L) : Ya (x.1) (x.2) = fnE T za9 zaa za8 (zt Tryz.f35) z2L z8y x := by kernel_rfl
noncomputable abbrev zab : GS := zw false z2L z8y fun x => Ya (x.1) (x.2)
theorem ze4 : GSOK Tryz.prog 35 zab := zm tok zj5 fmo (Ht := zaa) (fn := Tryz.f35) (Tryz.func35) (c := za8) (by kernel_rfl) (by kernel_rfl) (by kernel_rfl) (by decide +kernel) (by decide) ze3
end Go.Proofs.Y
namespace Go.Proofs.Y
open Go.Rb Go.Kx
set_option maxRecDepth 100000
noncomputable def z4t : Int → Int → Option Int := fun a b => ifB (eqI b 0) none (ifB (ltI (wrem a b) 0) (some (wadd .i64 (wrem a b) b)) (some (wrem a b)))
end Go.Proofs.Y
namespace Go.Proofs.Y
open Go.Rb Go.Kx
set_option maxRecDepth 100000
end Go.Proofs.Y
namespace Go.Proofs.Y
open Go.Rb Go.Kx
noncomputable def zc7 : Code := zj Tryz.f48
noncomputable def zc8 : FuncId → Option GS := tabG [(78, Yx), (97, z6d)]
theorem zkG : ΓOK Tryz.prog zc8 := z8 (Yl) (z8 (z6N) (zg))
def zc9 : HT := ⟨tabL [], tabH []⟩
abbrev z4u : List IT := [.v (.one (.sl 95 (.cons (.sl 126 (.cons (.int .i64) (.cons (.int .i64) (.cons (.int .i64) (.one (.sl 4 (.one .bool))))))) (.one (.sl 73 (.cons (.int .i64) (.one (.int .i64)))))))) true, .v (.one (.int .i64)) false]
abbrev zac : List OT := [⟨.one (.sl 73 (.cons (.int .i64) (.one (.int .i64)))), false, [true]⟩, ⟨.one (.int .i64), false, []⟩]
set_option maxRecDepth 100000
noncomputable def Vs : List (List (Int × Int × Int × List Bool) × List (Int × Int)) → Int → Option (List (Int × Int) × Int) := fun a b => z6 (yw a) fun y => ifB (neI y 0) (some ([], y)) (ifB (ltI b 0) (some ([], 5)) (ifB (geI b (lenI a)) (some ([], 5)) (z6 (atI a b) fun y => z6 (yd (y.1, y.2)) fun y => some (y.1, y.2))))
theorem zfn (x : PI z4u) : Vs (x.1) (x.2) = fnE T zc8 zc9 zc7 (zt Tryz.f48) z4u zac x := by kernel_rfl
noncomputable abbrev z6g : GS := zw false z4u zac fun x => Vs (x.1) (x.2)
theorem z72 : GSOK Tryz.prog 48 z6g := zm tok zkG fmo (Ht := zc9) (fn := Tryz.f48) (Tryz.func48) (c := zc7) (by kernel_rfl) (by kernel_rfl) (by kernel_rfl) (by decide +kernel) (by decide) zfn
end Go.Proofs.Y
namespace Go.Proofs.Y
open Go.Rb Go.Kx
noncomputable def z5E : Code := zj Tryz.f96
noncomputable def z5F : FuncId → Option GS := tabG []
theorem ze5 : ΓOK Tryz.prog z5F := zg
def z5G : HT := ⟨tabL [], tabH []⟩
noncomputable def VG : GS := inl T z5F z5G z5E (zt Tryz.f96) (Tryz.f96.ntmps)
theorem jd : GSOK Tryz.prog 96 VG := yZ tok ze5 fmo (Ht := z5G) (fn := Tryz.f96) (Tryz.func96) (c := z5E) (by kernel_rfl) (by kernel_rfl) (by kernel_rfl)
end Go.Proofs.Y
namespace Go.Proofs.Y
open Go.Rb Go.Kx
noncomputable def zad : Code := zj Tryz.f125
noncomputable def zae : FuncId → Option GS := tabG [(96, VG)]
theorem zj6 : ΓOK Tryz.prog zae := z8 (jd) (zg)
def zaf : HT := ⟨tabL [(2, .it [] (dyn [.t 8 (.int .i64)]))], tabH []⟩
noncomputable def zag : GS := inl T zae zaf zad (zt Tryz.f125) (Tryz.f125.ntmps)
theorem ze6 : GSOK Tryz.prog 125 zag := yZ tok zj6 fmo (Ht := zaf) (fn := Tryz.f125) (Tryz.func125) (c := zad) (by kernel_rfl) (by kernel_rfl) (by kernel_rfl)
end Go.Proofs.Y
namespace Go.Proofs.Y
open Go.Rb Go.Kx
noncomputable def z8z : Code := zj Tryz.f95
noncomputable def z8A : FuncId → Option GS := tabG [(125, zag), (96, VG)]
theorem zhl : ΓOK Tryz.prog z8A := z8 (ze6) (z8 (jd) (zg))
def z8B : HT := ⟨tabL [(5, .it [] (dyn [.t 5 (.int .i64), .t 6 (.int .i64), .a 0 73 (.cons (.int .i64) (.one (.int .i64)))]))], tabH [(5, [.touch 0])]⟩
noncomputable def z8C : GS := inl T z8A z8B z8z (zt Tryz.f95) (Tryz.f95.ntmps)
theorem zcN : GSOK Tryz.prog 95 z8C := yZ tok zhl fmo (Ht := z8B) (fn := Tryz.f95) (Tryz.func95) (c := z8z) (by kernel_rfl) (by kernel_rfl) (by kernel_rfl)
end Go.Proofs.Y
namespace Go.Proofs.Y
open Go.Rb Go.Kx
noncomputable def z8D : Code := zj Tryz.f46
noncomputable def z8E : FuncId → Option GS := tabG [(48, z6g), (96, VG), (95, z8C)]
theorem zhm : ΓOK Tryz.prog z8E := z8 (z72) (z8 (jd) (z8 (zcN) (zg)))
def z8F : HT := ⟨tabL [], tabH []⟩
abbrev z1Q : List IT := [.v (.one (.sl 95 (.cons (.sl 126 (.cons (.int .i64) (.cons (.int .i64) (.cons (.int .i64) (.one (.sl 4 (.one .bool))))))) (.one (.sl 73 (.cons (.int .i64) (.one (.int .i64)))))))) true, .v (.one (.int .i64)) false, .v (.one (.int .i64)) false, .v (.one (.int .i64)) false]
abbrev z73 : List OT := [⟨.one (.sl 73 (.cons (.int .i64) (.one (.int .i64)))), false, []⟩, ⟨.one (.int .i64), false, []⟩]
set_option maxRecDepth 100000
noncomputable def Vn : List (List (Int × Int × Int × List Bool) × List (Int × Int)) → Int → Int → Int → Option (List (Int × Int) × Int) := fun a b c d => z6 (Vs a b) fun y => ifB (neI y.2 0) (some ([], y.2)) (zi maxR (fun (x : Int) => ifB (ltI x (lenI y.1)) (ifB (ltL x y.1) (z6 (atN y.1 (natI x)) fun y_1 => ifB (ltI y_1.1 c) (mapO Sum.inr (ifB (eqI x (-1)) (some (y.1, 0)) (zi maxR (fun (x : Int × Int × List (Int × Int)) => ifB (ltI x.2.1 (lenI x.2.2)) (ifB (ltL x.2.1 x.2.2) (z6 (atN x.2.2 (natI x.2.1)) fun y => ifB (ltI y.1 c) (some (Sum.inl (x.1, wadd .i64 x.2.1 1, x.2.2))) (ifB (notB (geI y.1 d)) (ifB (ltL x.1 x.2.2) (z6 (atN x.2.2 (natI x.1)) fun y_2 => some (Sum.inl (wadd .i64 x.1 1, wadd .i64 x.2.1 1, setN x.2.2 (natI x.1) (y.1, y.2)))) none) (some (Sum.inl (x.1, wadd .i64 x.2.1 1, x.2.2))))) none) (mapO Sum.inr (ifB (in1 x.2.2 x.1) (ifB (inN x.2.2 (addN 0 (natI x.1)) (Zd (lenN x.2.2) x.1)) (ifB (in1 (zI x.2.2 (addN 0 (natI x.1)) (repN (Zd (lenN x.2.2) x.1) (0, 0))) x.1) (ifB (inN (zI x.2.2 (addN 0 (natI x.1)) (repN (Zd (lenN x.2.2) x.1) (0, 0))) 0 (natI x.1)) (some (subN (zI x.2.2 (addN 0 (natI x.1)) (repN (Zd (lenN x.2.2) x.1) (0, 0))) 0 (natI x.1), 0)) none) none) none) none))) (x, wadd .i64 x 1, y.1)))) (ifB (geI y_1.1 d) (mapO Sum.inr (ifB (eqI x (-1)) (some (y.1, 0)) (zi maxR (fun (x : Int × Int × List (Int × Int)) => ifB (ltI x.2.1 (lenI x.2.2)) (ifB (ltL x.2.1 x.2.2) (z6 (atN x.2.2 (natI x.2.1)) fun y => ifB (ltI y.1 c) (some (Sum.inl (x.1, wadd .i64 x.2.1 1, x.2.2))) (ifB (notB (geI y.1 d)) (ifB (ltL x.1 x.2.2) (z6 (atN x.2.2 (natI x.1)) fun y_2 => some (Sum.inl (wadd .i64 x.1 1, wadd .i64 x.2.1 1, setN x.2.2 (natI x.1) (y.1, y.2)))) none) (some (Sum.inl (x.1, wadd .i64 x.2.1 1, x.2.2))))) none) (mapO Sum.inr (ifB (in1 x.2.2 x.1) (ifB (inN x.2.2 (addN 0 (natI x.1)) (Zd (lenN x.2.2) x.1)) (ifB (in1 (zI x.2.2 (addN 0 (natI x.1)) (repN (Zd (lenN x.2.2) x.1) (0, 0))) x.1) (ifB (inN (zI x.2.2 (addN 0 (natI x.1)) (repN (Zd (lenN x.2.2) x.1) (0, 0))) 0 (natI x.1)) (some (subN (zI x.2.2 (addN 0 (natI x.1)) (repN (Zd (lenN x.2.2) x.1) (0, 0))) 0 (natI x.1), 0)) none) none) none) none))) (x, wadd .i64 x 1, y.1)))) (some (Sum.inl (wadd .i64 x 1))))) none) (mapO Sum.inr (some (y.1, 0)))) 0)
theorem zcO (x : PI z1Q) : Vn (x.1) (x.2.1) (x.2.2.1) (x.2.2.2) = fnE T z8E z8F z8D (zt Tryz.f46) z1Q z73 x := by kernel_rfl
noncomputable abbrev z8G : GS := zw false z1Q z73 fun x => Vn (x.1) (x.2.1) (x.2.2.1) (x.2.2.2)
theorem zcP : GSOK Tryz.prog 46 z8G := zm tok zhm fmo (Ht := z8F) (fn := Tryz.f46) (Tryz.func46) (c := z8D) (by kernel_rfl) (by kernel_rfl) (by kernel_rfl) (by decide +kernel) (by decide) zcO
end Go.Proofs.Y
namespace Go.Proofs.Y
open Go.Rb Go.Kx
noncomputable def z1b : Code := zj Tryz.f58
noncomputable def z1c : FuncId → Option GS := tabG []
theorem z7L : ΓOK Tryz.prog z1c := zg
def z1d : HT := ⟨tabL [(3, .it [] (dyn [.a 7 73 (.cons (.int .i64) (.one (.int .i64))), .t 12 (.int .i64)]))], tabH []⟩
abbrev vZ : List IT := [.v (.one (.sl 73 (.cons (.int .i64) (.one (.int .i64))))) false, .v (.one (.int .i64)) false, .v (.one (.int .i64)) false]
abbrev z0n : List OT := [⟨.one (.sl 73 (.cons (.int .i64) (.one (.int .i64)))), false, []⟩]
set_option maxRecDepth 100000
noncomputable def yC : List (Int × Int) → Int → Int → Option (List (Int × Int)) := fun a b c => zi maxR (fun (x : Int × List (Int × Int)) => ifB (ltI x.1 (lenI a)) (z6 (atI a x.1) fun y => ifB (leI b y.1) (ifB (ltI y.1 c) (ifB (zf 16 x.2 [(y.1, y.2)]) (some (Sum.inl (wadd .i64 x.1 1, cat x.2 [(y.1, y.2)]))) none) (some (Sum.inl (wadd .i64 x.1 1, x.2)))) (some (Sum.inl (wadd .i64 x.1 1, x.2)))) (mapO Sum.inr (some x.2))) (0, [])
theorem z52 (x : PI vZ) : yC (x.1) (x.2.1) (x.2.2) = fnE T z1c z1d z1b (zt Tryz.f58) vZ z0n x := by kernel_rfl
noncomputable abbrev z1e : GS := zw false vZ z0n fun x => yC (x.1) (x.2.1) (x.2.2)
theorem z54 : GSOK Tryz.prog 58 z1e := zm tok z7L fmo (Ht := z1d) (fn := Tryz.f58) (Tryz.func58) (c := z1b) (by kernel_rfl) (by kernel_rfl) (by kernel_rfl) (by decide +kernel) (by decide) z52
end Go.Proofs.Y
namespace Go.Rb
def z1f (n : Int) (k : Nat) : Bool := n / 2 ^ k % 2 == 1
def ZS (w : Nat) (n : Int) : List Bool := (List.range w).map fun j => z1f n (w - 1 - j)
def zbi (n w : Int) : Prop := 0 ≤ w ∧ w ≤ 40 ∧ 0 ≤ n ∧ n < 2 ^ w.toNat
instance (n w : Int) : Decidable (zbi n w) := by unfold zbi; infer_instance
def putR (l : List Bool) (n w : Int) : List Bool × Int := if zbi n w then (l ++ ZS w.toNat n, 0) else ([], 3)
def val (l : List Bool) : Int := l.foldl (fun n b => 2 * n + (if b then 1 else 0)) 0
def zT (l : List Bool) (w : Int) : Int × Int := if w < 0 ∨ w > 40 then (0, 3) else if (l.length : Int) < w then (0, 8) else (val (l.take w.toNat), 0)
theorem yK (w : Nat) (n : Int) : (ZS w n).length = w := by simp [ZS]
theorem znB {w : Nat} {n : Int} {j : Nat} (h : j < w) : (ZS w n).getD j default = z1f n (w - 1 - j) := by
 simp [ZS, List.getD, h]
theorem z7M (k : Nat) : (0 : Int) < 2 ^ k := Int.pow_pos (by omega)
theorem zp5 {a : Int} (h0 : 0 ≤ a) (h1 : a ≤ 9223372036854775807) : IntKind.wrap .i64 ((BitVec.ofInt (IntKind.i64.bits) a &&& BitVec.ofInt (IntKind.i64.bits) 1).toNat : Int) = a % 2 := by
 have hb : IntKind.i64.bits = 64 := rfl
 rw [hb]
 obtain ⟨m, rfl⟩ : ∃ m : Nat, a = (m : Int) := ⟨a.toNat, by omega⟩
 have h2 : (BitVec.ofInt 64 (m : Int)).toNat = m := by
  simp only [BitVec.toNat_ofInt]
  omega
 have h3 : (BitVec.ofInt 64 (1 : Int)).toNat = 1 := by decide
 rw [BitVec.toNat_and, h2, h3, Nat.and_one_is_mod, z1a (by omega) (by omega)]
 omega
theorem zp6 {a : Int} (h0 : 0 ≤ a) (k : Nat) : a.fdiv (2 ^ k) = a / 2 ^ k := Int.fdiv_eq_ediv_of_nonneg a (by have := z7M k; omega)
theorem zms {a : Int} (h0 : 0 ≤ a) (k : Nat) : 0 ≤ a / 2 ^ k ∧ a / 2 ^ k ≤ a := by
 have := z7M k
 refine ⟨Int.ediv_nonneg h0 (by omega), Int.ediv_le_self _ h0⟩
theorem zj7 {n : Int} {w : Nat} (h0 : 0 ≤ n) : n / 2 ^ w = 0 ↔ n < 2 ^ w := by
 have h1 := z7M w
 constructor
 ·intro h
  have := Int.lt_ediv_add_one_mul_self n h1
  rw [h] at this
  omega
 ·intro h
  exact Int.ediv_eq_zero_of_lt h0 h
theorem zj8 (l : List Bool) (b : Bool) : val (l ++ [b]) = 2 * val l + (if b then 1 else 0) := by simp [val]
theorem znC : ∀ (l : List Bool), 0 ≤ val l ∧ val l < 2 ^ l.length := by
 intro l
 have key : ∀ (l : List Bool) (a : Int) (k : Nat), 0 ≤ a → a < 2 ^ k → 0 ≤ l.foldl (fun n b => 2 * n + (if b then 1 else 0)) a ∧ l.foldl (fun n b => 2 * n + (if b then 1 else 0)) a < 2 ^ (k + l.length) := by
  intro l
  induction l with
  | nil => intro a k h0 h1; exact ⟨h0, h1⟩
  | cons b l ih =>
   intro a k h0 h1
   rw [List.foldl_cons, List.length_cons, show k + (l.length + 1) = (k + 1) + l.length from by omega]
   refine ih _ (k + 1) ?_ ?_
   ·split <;> omega
   ·rw [Int.pow_succ]
    split <;> omega
 have := key l 0 0 (by omega) (by decide)
 simpa [val] using this
end Go.Rb
namespace Go.Rb
theorem zp7 {a b : Nat} (h : a ≤ b) : (2 : Int) ^ a ≤ 2 ^ b := by
 have := Nat.pow_le_pow_right (n := 2) (by omega) h
 exact_mod_cast this
theorem zs0 {k : Nat} (h : k ≤ 40) : 0 < (2 : Int) ^ k ∧ (2 : Int) ^ k ≤ 1099511627776 := ⟨z7M k, zp7 (b := 40) h⟩
end Go.Rb
namespace Go.Rb
theorem ze7 (w : Nat) (n : Int) : ZS (w + 1) n = ZS w (n / 2) ++ [z1f n 0] := by
 apply List.ext_getElem
 ·simp [yK]
 ·intro i h1 h2
  rw [List.getElem_append]
  rw [yK] at h1
  split
  ·rename_i h3
   rw [yK] at h3
   simp only [ZS, List.getElem_map, List.getElem_range, z1f]
   rw [Int.ediv_ediv_of_nonneg (by omega), show w + 1 - 1 - i = (w - 1 - i) + 1 from by omega, Int.pow_succ, Int.mul_comm]
  ·rename_i h3
   rw [yK] at h3
   have hi : i = w := by omega
   subst hi
   simp [ZS, yK]
theorem zgr : ∀ (w : Nat) (n : Int), 0 ≤ n → n < 2 ^ w → val (ZS w n) = n
 | 0, n, h0, h1 => by
  have : n = 0 := by simp at h1; omega
  subst this; rfl
 | w + 1, n, h0, h1 => by
  rw [Int.pow_succ] at h1
  rw [ze7, zj8, zgr w (n / 2) (by omega) (by omega)]
  simp only [z1f, Int.pow_zero, Int.ediv_one]
  by_cases h : n % 2 = 1
  ·simp [h]; omega
  ·simp [h]; omega
theorem znD : ∀ l : List Bool, ZS l.length (val l) = l := by
 intro l
 induction h : l.length generalizing l with
 | zero => rw [List.length_eq_zero_iff] at h; subst h; rfl
 | succ w ih =>
  have hl : l ≠ [] := by intro h0; subst h0; simp at h
  rw [ze7]
  obtain ⟨k, b, rfl⟩ : ∃ k b, l = k ++ [b] := ⟨l.dropLast, l.getLast hl, (List.dropLast_concat_getLast hl).symm⟩
  have hk : k.length = w := by simpa using h
  rw [zj8]
  have e1 : (2 * val k + (if b then 1 else 0)) / 2 = val k := by cases b <;> simp <;> omega
  have e2 : z1f (2 * val k + (if b then 1 else 0)) 0 = b := by
   simp only [z1f, Int.pow_zero, Int.ediv_one]
   cases b
   ·simp
   ·simp only [if_true, beq_iff_eq]; omega
  rw [e1, e2, ih k hk]
/-! ### Numbers one after the other -/
end Go.Rb
namespace Go.Rb
def ZA (v : Int) : Int := if v < 0 then -2 * v - 1 else 2 * v
theorem z1R (v : Int) : (v < 0 ∧ ZA v = -2 * v - 1) ∨ (0 ≤ v ∧ ZA v = 2 * v) := by unfold ZA; split <;> omega
def unf (n : Int) : Int := if n % 2 = 1 then (-(n + 1)).tdiv 2 else n.tdiv 2
theorem z74 {n : Int} (h : 0 ≤ n) : (n % 2 = 1 ∧ unf n = -(n / 2 + 1) ∧ (0 - (n + 1)).tdiv 2 = unf n) ∨ (n % 2 = 0 ∧ unf n = n / 2 ∧ n.tdiv 2 = unf n) := by
 unfold unf
 have h1 : n.tdiv 2 = n / 2 := Int.tdiv_eq_ediv_of_nonneg h
 have h2 : (-(n + 1)).tdiv 2 = -((n + 1) / 2) := by rw [Int.neg_tdiv, Int.tdiv_eq_ediv_of_nonneg (by omega)]
 split
 ·left; refine ⟨by assumption, ?_, by rw [Int.zero_sub]⟩; rw [h2]; omega
 ·right; refine ⟨by omega, h1, rfl⟩
theorem zp8 (v : Int) : unf (ZA v) = v := by
 have h := z1R v
 have h1 := z74 (n := ZA v) (by omega)
 omega
theorem zp9 {n : Int} (h : 0 ≤ n) : ZA (unf n) = n := by
 have h1 := z74 h
 have h2 := z1R (unf n)
 omega
theorem pow8 {k : Nat} (h : k ≤ 8) : 1 ≤ (8 : Int) ^ k ∧ (8 : Int) ^ k ≤ 16777216 := by
 have h1 : (8 : Int) ^ k ≤ 8 ^ 8 := by
  have := Nat.pow_le_pow_right (n := 8) (by omega) h
  exact_mod_cast this
 have h2 : (0 : Int) < 8 ^ k := Int.pow_pos (by omega)
 exact ⟨by omega, h1⟩
def zenc : Nat → Int → List Bool
 | 0, _ => []
 | f + 1, m => ZS 4 ((if m ≥ 8 then 8 else 0) + m % 8) ++ (if m ≥ 8 then zenc f (m / 8) else [])
theorem je {f : Nat} {m : Int} (hf : 1 ≤ f) (h : m < 8) : zenc f m = ZS 4 (0 + m % 8) := by
 obtain ⟨g, rfl⟩ : ∃ g, f = g + 1 := ⟨f - 1, by omega⟩
 rw [zenc, if_neg (by omega), if_neg (by omega), List.append_nil]
theorem z0o {f : Nat} {m : Int} (hf : 1 ≤ f) (h : 8 ≤ m) : zenc f m = ZS 4 (8 + m % 8) ++ zenc (f - 1) (m / 8) := by
 obtain ⟨g, rfl⟩ : ∃ g, f = g + 1 := ⟨f - 1, by omega⟩
 rw [zenc, if_pos h, if_pos h]; rfl
theorem z1S : ∀ (f : Nat) (m : Int), (zenc f m).length ≤ 4 * f
 | 0, _ => by simp [zenc]
 | f + 1, m => by
  have := z1S f (m / 8)
  rw [zenc, List.length_append, yK]
  split
  ·omega
  ·simp; omega
theorem z77 {m : Int} {f : Nat} (h : m < 8 ^ f) (h8 : 8 ≤ m) : 2 ≤ f ∧ m / 8 < 8 ^ (f - 1) := by
 match f, h with
 | 0, h => simp at h; omega
 | 1, h => simp at h; omega
 | f + 2, h =>
  refine ⟨by omega, ?_⟩
  rw [Int.pow_succ] at h
  show m / 8 < 8 ^ (f + 1)
  omega
def z1g (l : List Bool) (v : Int) : List Bool × Int := if v < -4000000 ∨ v > 4000000 then ([], 3) else (l ++ zenc 8 (ZA v), 0)
theorem put4 (k : List Bool) {n : Int} (h0 : 0 ≤ n) (h1 : n < 16) : putR k n 4 = (k ++ ZS 4 n, 0) := by
 unfold putR
 rw [if_pos ⟨by omega, by omega, h0, by simpa using h1⟩]; rfl
theorem putm {k : List Bool} {m : Int} (h : 0 ≤ m) : putR k (8 + m % 8) 4 = (k ++ ZS 4 (8 + m % 8), 0) ∧ putR k (0 + m % 8) 4 = (k ++ ZS 4 (0 + m % 8), 0) :=
 ⟨put4 k (by omega) (by omega), put4 k (by omega) (by omega)⟩
/-! ### Reading -/
def ZM : Nat → Nat → Int → Int → List Bool → Int × Int × Int
 | 0, _, _, _, _ => (0, 0, 3)
 | f + 1, k, n, sc, l =>
  if l.length < 4 then (0, 0, 8) else
  if (zT l 4).1 = 0 ∧ k > 0 then (0, 0, 4) else
  if n + (zT l 4).1 % 8 * sc > 8000000 then (0, 0, 3) else
  if (zT l 4).1 < 8 then (unf (n + (zT l 4).1 % 8 * sc), 4 * (k : Int) + 4, 0) else ZM f (k + 1) (n + (zT l 4).1 % 8 * sc) (sc * 8) (l.drop 4)
def zq (l : List Bool) : Int × Int × Int := ZM 8 0 0 1 l
theorem rd4 (d : List Bool) : (d.length < 4 ∧ (zT d 4).1 = 0 ∧ (zT d 4).2 = 8) ∨ (4 ≤ d.length ∧ (zT d 4).1 = val (d.take 4) ∧ (zT d 4).2 = 0 ∧ 0 ≤ (zT d 4).1 ∧ (zT d 4).1 < 16) := by
 unfold zT
 rw [if_neg (by omega)]
 by_cases h : (d.length : Int) < 4
 ·rw [if_pos h]; left; exact ⟨by omega, rfl, rfl⟩
 ·rw [if_neg h]
  have h1 := znC (d.take 4)
  rw [List.length_take, Nat.min_eq_left (by omega)] at h1
  right; exact ⟨by omega, rfl, rfl, h1.1, by simpa using h1.2⟩
section
variable {f k : Nat} {n sc : Int} {l : List Bool}
theorem z78 (hf : 1 ≤ f) (h : l.length < 4) : ZM f k n sc l = (0, 0, 8) := by
 obtain ⟨g, rfl⟩ : ∃ g, f = g + 1 := ⟨f - 1, by omega⟩
 rw [ZM, if_pos h]
theorem z79 (hf : 1 ≤ f) (h : 4 ≤ l.length) (h0 : (zT l 4).1 = 0) (hk : 0 < k) : ZM f k n sc l = (0, 0, 4) := by
 obtain ⟨g, rfl⟩ : ∃ g, f = g + 1 := ⟨f - 1, by omega⟩
 rw [ZM, if_neg (by omega), if_pos ⟨h0, hk⟩]
theorem z4v (hf : 1 ≤ f) (h : 4 ≤ l.length) (h0 : ¬ ((zT l 4).1 = 0 ∧ 0 < k)) (h1 : n + (zT l 4).1 % 8 * sc > 8000000) : ZM f k n sc l = (0, 0, 3) := by
 obtain ⟨g, rfl⟩ : ∃ g, f = g + 1 := ⟨f - 1, by omega⟩
 rw [ZM, if_neg (by omega), if_neg h0, if_pos h1]
theorem z1T (hf : 1 ≤ f) (h : 4 ≤ l.length) (h0 : ¬ ((zT l 4).1 = 0 ∧ 0 < k)) (h1 : ¬ n + (zT l 4).1 % 8 * sc > 8000000) (h2 : (zT l 4).1 < 8) : ZM f k n sc l = (unf (n + (zT l 4).1 % 8 * sc), 4 * (k : Int) + 4, 0) := by
 obtain ⟨g, rfl⟩ : ∃ g, f = g + 1 := ⟨f - 1, by omega⟩
 rw [ZM, if_neg (by omega), if_neg h0, if_neg h1, if_pos h2]
theorem z3N (hf : 1 ≤ f) (h : 4 ≤ l.length) (h0 : ¬ ((zT l 4).1 = 0 ∧ 0 < k)) (h1 : ¬ n + (zT l 4).1 % 8 * sc > 8000000) (h2 : ¬ (zT l 4).1 < 8) : ZM f k n sc l = ZM (f - 1) (k + 1) (n + (zT l 4).1 % 8 * sc) (sc * 8) (l.drop 4) := by
 obtain ⟨g, rfl⟩ : ∃ g, f = g + 1 := ⟨f - 1, by omega⟩
 rw [ZM, if_neg (by omega), if_neg h0, if_neg h1, if_neg h2]; rfl
end
theorem zj9 {a b c : Int} (h0 : 0 ≤ a) (h1 : a ≤ 7) (h2 : 0 ≤ b) (h3 : b ≤ c) : 0 ≤ a * b ∧ a * b ≤ 7 * c := by
 refine ⟨Int.mul_nonneg h0 h2, ?_⟩
 have h4 : a * b ≤ 7 * b := Int.mul_le_mul_of_nonneg_right h1 h2
 omega
theorem zcQ : ∀ (f k : Nat) (n sc : Int) (l : List Bool), (ZM f k n sc l).2.2 = 0 → 4 * (k : Int) ≤ (ZM f k n sc l).2.1 ∧ (ZM f k n sc l).2.1 ≤ 4 * (k : Int) + l.length
 | 0, k, n, sc, l, h => by simp [ZM] at h
 | f + 1, k, n, sc, l, h => by
  by_cases h1 : l.length < 4
  ·rw [z78 (by omega) h1] at h; simp at h
  ·by_cases h2 : (zT l 4).1 = 0 ∧ 0 < k
   ·rw [z79 (by omega) (by omega) h2.1 h2.2] at h; simp at h
   ·by_cases h3 : n + (zT l 4).1 % 8 * sc > 8000000
    ·rw [z4v (by omega) (by omega) h2 h3] at h; simp at h
    ·by_cases h4 : (zT l 4).1 < 8
     ·rw [z1T (by omega) (by omega) h2 h3 h4]; simp only; omega
     ·rw [z3N (by omega) (by omega) h2 h3 h4] at h ⊢
      have := zcQ _ _ _ _ _ h
      rw [List.length_drop] at this
      simp only [Nat.add_sub_cancel] at this ⊢
      push_cast at this
      omega
theorem zgs : ∀ (f k : Nat) (n sc : Int) (l : List Bool), ¬ (ZM f k n sc l).2.2 = 0 → (ZM f k n sc l).1 = 0 ∧ (ZM f k n sc l).2.1 = 0
 | 0, k, n, sc, l, h => ⟨rfl, rfl⟩
 | f + 1, k, n, sc, l, h => by
  by_cases h1 : l.length < 4
  ·rw [z78 (by omega) h1]; exact ⟨rfl, rfl⟩
  ·by_cases h2 : (zT l 4).1 = 0 ∧ 0 < k
   ·rw [z79 (by omega) (by omega) h2.1 h2.2]; exact ⟨rfl, rfl⟩
   ·by_cases h3 : n + (zT l 4).1 % 8 * sc > 8000000
    ·rw [z4v (by omega) (by omega) h2 h3]; exact ⟨rfl, rfl⟩
    ·by_cases h4 : (zT l 4).1 < 8
     ·rw [z1T (by omega) (by omega) h2 h3 h4] at h; simp at h
     ·rw [z3N (by omega) (by omega) h2 h3 h4] at h ⊢
      exact zgs _ _ _ _ _ h
theorem z5H {l : List Bool} (h : (zq l).2.2 = 0) : 0 ≤ (zq l).2.1 ∧ (zq l).2.1 ≤ l.length := by
 have := zcQ 8 0 0 1 l h
 unfold zq
 omega
theorem zmt {l : List Bool} (h : ¬ (zq l).2.2 = 0) : (zq l).1 = 0 ∧ (zq l).2.1 = 0 := zgs 8 0 0 1 l h
def Yt (l : List Bool) : Int × List Bool × Int := ((zq l).1, (if (zq l).2.2 = 0 then l.drop (zq l).2.1.toNat else []), (zq l).2.2)
/-! ### The document's way -/
def dig : Nat → Int → List Int
 | 0, _ => []
 | f + 1, m => m % 8 :: (if m ≥ 8 then dig f (m / 8) else [])
def grp (more : Bool) (d : Int) : List Bool := [more, decide (d ≥ 4), decide (d.tmod 4 ≥ 2), d.tmod 2 == 1]
def Yi (D : List Int) (i : Nat) : List Bool := ((List.range i).map fun (j : Nat) => grp (decide ((j : Int) < D.length - 1)) (D.getD j default)).flatten
theorem zca (D : List Int) (i : Nat) : Yi D (i + 1) = Yi D i ++ grp (decide ((i : Int) < D.length - 1)) (D.getD i default) := by simp [Yi, List.range_succ]
theorem zmu (D : List Int) (i : Nat) : (Yi D i).length = 4 * i := by
 induction i with
 | zero => simp [Yi]
 | succ i ih => rw [zca, List.length_append, ih]; simp [grp]; omega
theorem zja {d : Int} (b : Bool) (h0 : 0 ≤ d) (h1 : d < 8) : grp b d = ZS 4 ((if b then 8 else 0) + d) := by
 have h : d = 0 ∨ d = 1 ∨ d = 2 ∨ d = 3 ∨ d = 4 ∨ d = 5 ∨ d = 6 ∨ d = 7 := by omega
 cases b <;> rcases h with rfl | rfl | rfl | rfl | rfl | rfl | rfl | rfl <;> decide
theorem zkH (d : Int) (D : List Int) : Yi (d :: D) (D.length + 1) = grp (decide (0 < D.length)) d ++ Yi D D.length := by
 unfold Yi
 rw [List.range_succ_eq_map, List.map_cons, List.flatten_cons, List.map_map]
 congr 1
 ·congr 1
  simp only [List.length_cons]
  apply decide_eq_decide.2
  omega
 ·congr 1
  apply List.map_congr_left
  intro j _
  simp only [Function.comp, List.getD_cons_succ, List.length_cons]
  congr 1
  apply decide_eq_decide.2
  omega
theorem zqs {f : Nat} {m : Int} (h : 1 ≤ f) : 0 < (dig f m).length := by
 obtain ⟨g, rfl⟩ : ∃ g, f = g + 1 := ⟨f - 1, by omega⟩
 simp [dig]
theorem zjb : ∀ (f : Nat) (m : Int), 0 ≤ m → m < 8 ^ f → 1 ≤ f → Yi (dig f m) (dig f m).length = zenc f m
 | 0, m, _, _, h => by omega
 | f + 1, m, h0, h1, _ => by
  rw [dig, List.length_cons, zkH]
  by_cases h8 : m ≥ 8
  ·have h2 := z77 h1 h8
   rw [if_pos h8, z0o (by omega) h8]
   have hp := zqs (f := f) (m := m / 8) (by omega)
   rw [zjb f (m / 8) (by omega) h2.2 (by omega), zja _ (by omega) (by omega)]
   simp [hp]
  ·rw [if_neg h8, je (by omega) (by omega), zja _ (by omega) (by omega)]
   simp [Yi]
theorem zpa {f : Nat} {m : Int} (hf : 1 ≤ f) (h0 : 0 ≤ m) : dig f m = (m % 8) :: (if m / 8 > 0 then dig (f - 1) (m / 8) else []) := by
 obtain ⟨g, rfl⟩ : ∃ g, f = g + 1 := ⟨f - 1, by omega⟩
 rw [dig]
 by_cases h8 : m ≥ 8
 ·rw [if_pos h8, if_pos (by omega)]; rfl
 ·rw [if_neg h8, if_neg (by omega)]
theorem znE {v : Int} (h : -4000000 ≤ v ∧ v ≤ 4000000) : Yi (dig 8 (ZA v)) (dig 8 (ZA v)).length = zenc 8 (ZA v) := by
 have h1 := z1R v
 exact zjb 8 _ (by omega) (by show _ < (16777216 : Int); omega) (by omega)
/-! A group as the document takes it apart. -/
def dAt (b : List Bool) (i : Nat) : Int := (if 0 < i ∧ b.getD 0 default then 4 else 0) + (if 1 < i ∧ b.getD 1 default then 2 else 0) + (if 2 < i ∧ b.getD 2 default then 1 else 0)
theorem zpb {b : List Bool} {i : Nat} (h : i < 3) : dAt b (i + 1) = dAt b i + (if b.getD i default then (4 : Int) / 2 ^ i else 0) := by
 have h3 : i = 0 ∨ i = 1 ∨ i = 2 := by omega
 rcases h3 with rfl | rfl | rfl <;> simp [dAt]
theorem ze8 (b : List Bool) (i : Nat) : 0 ≤ dAt b i ∧ dAt b i ≤ 7 := by
 unfold dAt
 split <;> split <;> split <;> omega
theorem group {l : List Bool} (h : 4 ≤ l.length) : (zT l 4).1 = (if l.getD 0 default then 8 else 0) + dAt ((l.take 4).drop 1) 3 := by
 match l, h with
 | a :: b :: c :: d :: r, _ =>
  have h1 := rd4 (a :: b :: c :: d :: r)
  simp only [List.length_cons] at h1
  have h2 : (zT (a :: b :: c :: d :: r) 4).1 = val [a, b, c, d] := by
   rcases h1 with h1 | h1
   ·omega
   ·exact h1.2.1
  rw [h2]
  show val [a, b, c, d] = (if a = true then 8 else 0) + dAt [b, c, d] 3
  cases a <;> cases b <;> cases c <;> cases d <;> decide
theorem zqt {l : List Bool} (h : 4 ≤ l.length) (hb : l.getD 0 default = false) : (zT l 4).1 = dAt ((l.take 4).drop 1) 3 := by rw [group h, hb]; simp
theorem zqu {l : List Bool} (h : 4 ≤ l.length) (hb : l.getD 0 default = true) : (zT l 4).1 = 8 + dAt ((l.take 4).drop 1) 3 := by rw [group h, hb]; simp
theorem znF {l : List Bool} (h : 4 ≤ l.length) : (zT l 4).1 % 8 = dAt ((l.take 4).drop 1) 3 := by
 have h1 := group h
 have h2 := ze8 ((l.take 4).drop 1) 3
 split at h1 <;> omega
end Go.Rb
namespace Go.Rb
theorem zpU {x : Int} (h0 : 0 ≤ x) (h1 : x < 16) (r : List Bool) : (zT (ZS 4 x ++ r) 4).1 = x ∧ 4 ≤ (ZS 4 x ++ r).length ∧ (ZS 4 x ++ r).drop 4 = r := by
 have hl : (ZS 4 x).length = 4 := yK 4 x
 have h2 : 4 ≤ (ZS 4 x ++ r).length := by rw [List.length_append, hl]; omega
 refine ⟨?_, h2, ?_⟩
 ·have h3 := rd4 (ZS 4 x ++ r)
  have h4 : (ZS 4 x ++ r).take 4 = ZS 4 x := by rw [List.take_append_of_le_length (by omega), List.take_of_length_le (by omega)]
  rw [h4, zgr 4 x h0 (by simpa using h1)] at h3
  omega
 ·rw [List.drop_append_of_le_length (by omega), List.drop_of_length_le (by omega), List.nil_append]
theorem znG (m sc : Int) : m % 8 * sc + m / 8 * (sc * 8) = m * sc := by
 have h1 : m / 8 * (sc * 8) = 8 * (m / 8) * sc := by rw [Int.mul_comm sc 8, ← Int.mul_assoc, Int.mul_comm (m / 8) 8]
 rw [h1, ← Int.add_mul]
 congr 1
 omega
theorem zgt : ∀ (f k : Nat) (n sc m : Int) (r : List Bool), 1 ≤ f → 0 ≤ m → m < 8 ^ f → 0 ≤ n → 1 ≤ sc → n + m * sc ≤ 8000000 → (0 < k → 1 ≤ m) →
  ZM f k n sc (zenc f m ++ r) = (unf (n + m * sc), 4 * (k : Int) + (zenc f m).length, 0)
 | 0, k, n, sc, m, r, hf, _, _, _, _, _, _ => by omega
 | f + 1, k, n, sc, m, r, hf, h0, h1, hn, hsc, hb, hk => by
  by_cases h8 : m < 8
  ·rw [je hf h8]
   have hr := zpU (x := 0 + m % 8) (by omega) (by omega) r
   have hx : (zT (ZS 4 (0 + m % 8) ++ r) 4).1 % 8 = m := by rw [hr.1]; omega
   rw [z1T hf hr.2.1 (by rw [hr.1]; omega) (by rw [hx]; omega) (by rw [hr.1]; omega), hx, yK]
   rfl
  ·have h2 := z77 h1 (by omega)
   rw [z0o hf (by omega), List.append_assoc]
   have hr := zpU (x := 8 + m % 8) (by omega) (by omega) (zenc (f + 1 - 1) (m / 8) ++ r)
   have hx : (zT (ZS 4 (8 + m % 8) ++ (zenc (f + 1 - 1) (m / 8) ++ r)) 4).1 % 8 = m % 8 := by rw [hr.1]; omega
   have hs := znG m sc
   have hp1 : 0 ≤ m % 8 * sc := Int.mul_nonneg (by omega) (by omega)
   have hp2 : 0 ≤ m / 8 * (sc * 8) := Int.mul_nonneg (by omega) (by omega)
   rw [z3N hf hr.2.1 (by rw [hr.1]; omega) (by rw [hx]; omega) (by rw [hr.1]; omega), hx, hr.2.2]
   simp only [Nat.add_sub_cancel] at h2 ⊢
   rw [zgt f (k + 1) _ _ (m / 8) r (by omega) (by omega) h2.2 (by omega) (by omega) (by omega) (by omega), List.length_append, yK]
   rw [show n + m % 8 * sc + m / 8 * (sc * 8) = n + m * sc from by omega]
   refine Prod.ext rfl (Prod.ext ?_ rfl)
   push_cast
   omega
theorem zah : ∀ (f k : Nat) (n sc : Int) (l : List Bool), 0 ≤ n → 1 ≤ sc → (ZM f k n sc l).2.2 = 0 →
  ∃ m, 0 ≤ m ∧ m < 8 ^ f ∧ (0 < k → 1 ≤ m) ∧ n + m * sc ≤ 8000000 ∧ (ZM f k n sc l).1 = unf (n + m * sc) ∧ (ZM f k n sc l).2.1 = 4 * (k : Int) + (zenc f m).length ∧ l = zenc f m ++ l.drop (zenc f m).length
 | 0, k, n, sc, l, _, _, h => by simp [ZM] at h
 | f + 1, k, n, sc, l, hn, hsc, h => by
  by_cases h1 : l.length < 4
  ·rw [z78 (by omega) h1] at h; simp at h
  have hrd := rd4 l
  have hlt : (l.take 4).length = 4 := by rw [List.length_take]; omega
  have htk : ZS 4 (zT l 4).1 = l.take 4 := by
   have h9 := znD (l.take 4)
   rw [hlt] at h9
   rw [show (zT l 4).1 = val (l.take 4) from by omega]
   exact h9
  by_cases h2 : (zT l 4).1 = 0 ∧ 0 < k
  ·rw [z79 (by omega) (by omega) h2.1 h2.2] at h; simp at h
  by_cases h3 : n + (zT l 4).1 % 8 * sc > 8000000
  ·rw [z4v (by omega) (by omega) h2 h3] at h; simp at h
  by_cases h4 : (zT l 4).1 < 8
  ·have hx : (zT l 4).1 % 8 = (zT l 4).1 := by omega
   have hp : (1 : Int) ≤ 8 ^ f := by have : (0 : Int) < 8 ^ f := Int.pow_pos (by omega); omega
   refine ⟨(zT l 4).1, by omega, by rw [Int.pow_succ]; omega, by omega, by rw [← hx]; omega, ?_, ?_, ?_⟩
   ·rw [z1T (by omega) (by omega) h2 h3 h4, hx]
   ·rw [z1T (by omega) (by omega) h2 h3 h4, je (by omega) h4, yK]; rfl
   ·rw [je (by omega) h4, Int.zero_add, hx, htk, hlt, List.take_append_drop]
  ·rw [z3N (by omega) (by omega) h2 h3 h4] at h ⊢
   have hp1 : 0 ≤ (zT l 4).1 % 8 * sc := Int.mul_nonneg (by omega) (by omega)
   simp only [Nat.add_sub_cancel] at h ⊢
   obtain ⟨m, g1, g2, g3, g4, g5, g6, g7⟩ := zah f (k + 1) _ _ _ (by omega) (by omega) h
   have g3' := g3 (by omega)
   have hs := znG ((zT l 4).1 % 8 + 8 * m) sc
   rw [show ((zT l 4).1 % 8 + 8 * m) % 8 = (zT l 4).1 % 8 from by omega, show ((zT l 4).1 % 8 + 8 * m) / 8 = m from by omega] at hs
   have hz : zenc (f + 1) ((zT l 4).1 % 8 + 8 * m) = l.take 4 ++ zenc f m := by
    rw [z0o (by omega) (by omega), ← htk]
    rw [show 8 + ((zT l 4).1 % 8 + 8 * m) % 8 = (zT l 4).1 from by omega, show ((zT l 4).1 % 8 + 8 * m) / 8 = m from by omega]
    rfl
   refine ⟨(zT l 4).1 % 8 + 8 * m, by omega, by rw [Int.pow_succ]; omega, by omega, by omega, ?_, ?_, ?_⟩
   ·rw [g5]; congr 1; omega
   ·rw [g6, hz, List.length_append, hlt]; push_cast; omega
   ·rw [hz, List.length_append, hlt, List.append_assoc, ← List.drop_drop, ← g7, List.take_append_drop]
theorem z1U {v : Int} (h : -4000000 ≤ v ∧ v ≤ 4000000) (l : List Bool) : z1g l v = (l ++ zenc 8 (ZA v), 0) := by
 unfold z1g
 rw [if_neg (by omega)]
theorem zpc {v : Int} (h : -4000000 ≤ v ∧ v ≤ 4000000) (r : List Bool) : Yt (zenc 8 (ZA v) ++ r) = (v, r, 0) := by
 have h1 := z1R v
 have h2 := zgt 8 0 0 1 (ZA v) r (by omega) (by omega) (by show _ < (16777216 : Int); omega) (by omega) (by omega) (by omega) (by omega)
 unfold Yt zq
 rw [h2]
 simp only [Int.zero_add, Int.mul_one, zp8, if_true]
 refine Prod.ext rfl (Prod.ext ?_ rfl)
 simp
theorem znH {l : List Bool} (h : (Yt l).2.2 = 0) : z1g [] (Yt l).1 = ((z1g [] (Yt l).1).1, 0) ∧ (z1g [] (Yt l).1).1 ++ (Yt l).2.1 = l := by
 have h' : (ZM 8 0 0 1 l).2.2 = 0 := h
 obtain ⟨m, g1, g2, g3, g4, g5, g6, g7⟩ := zah 8 0 0 1 l (by omega) (by omega) h'
 rw [Int.zero_add, Int.mul_one] at g4 g5
 have hu := z74 g1
 have hv : (Yt l).1 = unf m := g5
 have hr : (Yt l).2.1 = l.drop (zenc 8 m).length := by
  show (if (ZM 8 0 0 1 l).2.2 = 0 then l.drop (ZM 8 0 0 1 l).2.1.toNat else []) = _
  rw [if_pos h', g6]
  congr 1
  omega
 rw [hv, hr, z1U (by omega), zp9 g1]
 exact ⟨rfl, by rw [List.nil_append]; exact g7.symm⟩
end Go.Rb
namespace Go.Rb
def PtIn (p : Pt) : Prop := 0 ≤ p.1 ∧ p.1 ≤ 100000 ∧ -1000000 ≤ p.2 ∧ p.2 ≤ 1000000
def chk : Int → List Pt → Int
 | _, [] => 0
 | last, p :: r => if p.1 < 0 ∨ p.1 > 100000 ∨ p.2 < -1000000 ∨ p.2 > 1000000 then 3 else if last ≥ p.1 then 7 else chk p.1 r
def zU (l : List Pt) : Int := if l.length > 40 then 2 else chk (-1) l
def z5I (l : List Pt) (i : Nat) : Int := if i = 0 then -1 else (l.getD (i - 1) default).1
theorem vv {α : Type} [Inhabited α] {l : List α} {i : Nat} (h : i < l.length) : l.drop i = l.getD i default :: l.drop (i + 1) := by
 rw [List.drop_eq_getElem_cons h]; simp [List.getD, List.getElem?_eq_getElem h]
theorem zpd {l : List Pt} {i : Nat} (h : i < l.length) : chk (z5I l i) (l.drop i) =
  if (l.getD i default).1 < 0 ∨ (l.getD i default).1 > 100000 ∨ (l.getD i default).2 < -1000000 ∨ (l.getD i default).2 > 1000000 then 3 else if z5I l i ≥ (l.getD i default).1 then 7 else chk (z5I l (i + 1)) (l.drop (i + 1)) := by
 rw [vv h, chk]
 simp [z5I]
theorem zlA : ∀ {l : List Pt} {last : Int}, chk last l = 0 → ∀ p ∈ l, PtIn p
 | [], _, _, p, hp => by cases hp
 | q :: l, last, h, p, hp => by
  rw [chk] at h
  split at h
  ·cases h
  ·split at h
   ·cases h
   ·rcases List.mem_cons.1 hp with rfl | hp
    ·unfold PtIn; omega
    ·exact zlA h p hp
theorem Yb {l : List Pt} (h : zU l = 0) : l.length ≤ 40 := by
 unfold zU at h
 split at h
 ·cases h
 ·omega
theorem z1h {l : List Pt} (h : zU l = 0) : chk (-1) l = 0 := by
 unfold zU at h
 split at h
 ·cases h
 ·exact h
theorem z7N {l : List Pt} (h : zU l = 0) : ∀ p ∈ l, PtIn p := zlA (z1h h)
theorem y6 {α : Type} [Inhabited α] {l : List α} {i : Nat} (h : i < l.length) : l.getD i default ∈ l := by
 have : l.getD i default = l[i] := by simp [List.getD, List.getElem?_eq_getElem h]
 rw [this]; exact List.getElem_mem h
end Go.Rb
namespace Go.Rb
abbrev badP (p : Pt) : Prop := p.1 < 0 ∨ p.1 > 100000 ∨ p.2 < -1000000 ∨ p.2 > 1000000
def chkP (p : Pt) : Int := if badP p then 3 else 0
theorem zfo (p : Pt) : (badP p ∧ chkP p = 3) ∨ (PtIn p ∧ chkP p = 0) := by
 unfold chkP
 by_cases h : badP p
 ·left; exact ⟨h, if_pos h⟩
 ·right; exact ⟨by unfold badP at h; unfold PtIn; omega, if_neg h⟩
def Yg (l : List Pt) (i : Nat) : Pt := if i = 0 then ⟨0, 0⟩ else l.getD (i - 1) default
def vh (l : List Pt) (i : Nat) : Int := if i = 0 then 0 else (l.getD (i - 1) default).1 - (Yg l (i - 1)).1
theorem zmv (l : List Pt) (i : Nat) : Yg l (i + 1) = l.getD i default := by simp [Yg]
theorem zmw (l : List Pt) (i : Nat) : vh l (i + 1) = (l.getD i default).1 - (Yg l i).1 := by simp [vh]
def YG (last : Pt) (step : Int) (p : Pt) : List Bool := zenc 8 (ZA (p.1 - last.1 - step)) ++ zenc 8 (ZA (p.2 - last.2))
def Y1 (l : List Pt) (i : Nat) : List Bool := ((List.range i).map fun j => YG (Yg l j) (vh l j) (l.getD j default)).flatten
theorem z6h (l : List Pt) (i : Nat) : Y1 l (i + 1) = Y1 l i ++ YG (Yg l i) (vh l i) (l.getD i default) := by simp [Y1, List.range_succ]
theorem znI (a : Pt) (s : Int) (p : Pt) : (YG a s p).length ≤ 64 := by
 have h1 := z1S 8 (ZA (p.1 - a.1 - s))
 have h2 := z1S 8 (ZA (p.2 - a.2))
 unfold YG; rw [List.length_append]; omega
theorem ze9 (l : List Pt) (i : Nat) : (Y1 l i).length ≤ 64 * i := by
 induction i with
 | zero => simp [Y1]
 | succ i ih =>
  have := znI (Yg l i) (vh l i) (l.getD i default)
  rw [z6h, List.length_append]; omega
def jH (l : List Pt) : List Bool × Int := if zU l = 0 then (Y1 l l.length, 0) else ([], zU l)
theorem zpV {l : List Pt} (h : zU l = 0) {i : Nat} (hi : i < l.length) : PtIn (l.getD i default) ∧ PtIn (Yg l i) ∧ -100000 ≤ vh l i ∧ vh l i ≤ 100000 := by
 have hall := z7N h
 have hp : ∀ j, j < l.length → PtIn (l.getD j default) := fun j hj => hall _ (y6 hj)
 have hl : ∀ j, j ≤ l.length → PtIn (Yg l j) := by
  intro j hj
  unfold Yg
  split
  ·unfold PtIn; decide
  ·exact hp _ (by omega)
 refine ⟨hp i hi, hl i (by omega), ?_⟩
 unfold vh
 split
 ·omega
 ·have h1 := hp (i - 1) (by omega)
  have h2 := hl (i - 1) (by omega)
  unfold PtIn at h1 h2
  omega
theorem second {l : List Pt} {i : Nat} : (i = 0 → (Yg l i).1 = 0 ∧ (Yg l i).2 = 0 ∧ vh l i = 0) ∧ (0 < i → (Yg l i) = l.getD (i - 1) default) ∧ (i = 1 → vh l i = (l.getD (i - 1) default).1) ∧
  (1 < i → vh l i = (l.getD (i - 1) default).1 - (l.getD (i - 2) default).1) := by
 refine ⟨?_, ?_, ?_, ?_⟩
 ·rintro rfl; simp [Yg, vh, ]
 ·intro h; unfold Yg; rw [if_neg (by omega)]
 ·rintro rfl; simp [Yg, vh, ]
 ·intro h
  unfold vh Yg
  rw [if_neg (by omega), if_neg (by omega), show i - 1 - 1 = i - 2 from by omega]
/-! ### Unpacking -/
def YH (k : Nat) (last p : Pt) : Int := if badP p then 3 else if 0 < k ∧ last.1 ≥ p.1 then 7 else 0
def nxt (last : Pt) (step : Int) (b : List Bool) : Pt := ⟨last.1 + step + (zq b).1, last.2 + (zq (b.drop (zq b).2.1.toNat)).1⟩
def Z9 (b : List Bool) : List Bool := b.drop (zq b).2.1.toNat
def z2b (b : List Bool) : List Bool := (Z9 b).drop (zq (Z9 b)).2.1.toNat
def unpk : Nat → Nat → Pt → Int → List Pt → List Bool → List Pt × Int
 | 0, _, _, _, acc, b => if b.length > 0 then ([], 8) else (acc, 0)
 | f + 1, k, last, step, acc, b =>
  if ¬ (zq b).2.2 = 0 then ([], (zq b).2.2) else
  if ¬ (zq (Z9 b)).2.2 = 0 then ([], (zq (Z9 b)).2.2) else
  if ¬ YH k last (nxt last step b) = 0 then ([], YH k last (nxt last step b)) else
  unpk f (k + 1) (nxt last step b) ((nxt last step b).1 - last.1) (acc ++ [nxt last step b]) (z2b b)
def ZK (b : List Bool) (n : Int) : List Pt × Int := if n < 0 ∨ n > 40 then ([], 2) else unpk n.toNat 0 ⟨0, 0⟩ 0 [] b
section
variable {f k : Nat} {last : Pt} {step : Int} {acc : List Pt} {b : List Bool}
theorem un_a (hf : 1 ≤ f) (h : ¬ (zq b).2.2 = 0) : unpk f k last step acc b = ([], (zq b).2.2) := by
 obtain ⟨g, rfl⟩ : ∃ g, f = g + 1 := ⟨f - 1, by omega⟩
 rw [unpk, if_pos h]
theorem un_b (hf : 1 ≤ f) (h : (zq b).2.2 = 0) (h1 : ¬ (zq (Z9 b)).2.2 = 0) : unpk f k last step acc b = ([], (zq (Z9 b)).2.2) := by
 obtain ⟨g, rfl⟩ : ∃ g, f = g + 1 := ⟨f - 1, by omega⟩
 rw [unpk, if_neg (by omega), if_pos h1]
theorem un_c (hf : 1 ≤ f) (h : (zq b).2.2 = 0) (h1 : (zq (Z9 b)).2.2 = 0) (h2 : ¬ YH k last (nxt last step b) = 0) : unpk f k last step acc b = ([], YH k last (nxt last step b)) := by
 obtain ⟨g, rfl⟩ : ∃ g, f = g + 1 := ⟨f - 1, by omega⟩
 rw [unpk, if_neg (by omega), if_neg (by omega), if_pos h2]
theorem un_d (hf : 1 ≤ f) (h : (zq b).2.2 = 0) (h1 : (zq (Z9 b)).2.2 = 0) (h2 : YH k last (nxt last step b) = 0) :
  unpk f k last step acc b = unpk (f - 1) (k + 1) (nxt last step b) ((nxt last step b).1 - last.1) (acc ++ [nxt last step b]) (z2b b) := by
 obtain ⟨g, rfl⟩ : ∃ g, f = g + 1 := ⟨f - 1, by omega⟩
 rw [unpk, if_neg (by omega), if_neg (by omega), if_neg (by omega)]; rfl
theorem un_e (h : b.length > 0) : unpk 0 k last step acc b = ([], 8) := by rw [unpk, if_pos h]
theorem un_f (h : ¬ b.length > 0) : unpk 0 k last step acc b = (acc, 0) := by rw [unpk, if_neg h]
end
theorem z7O (k : Nat) (last p : Pt) : (badP p ∧ YH k last p = 3) ∨ (PtIn p ∧ 0 < k ∧ p.1 ≤ last.1 ∧ YH k last p = 7) ∨ (PtIn p ∧ (k = 0 ∨ last.1 < p.1) ∧ YH k last p = 0) := by
 unfold YH
 by_cases h : badP p
 ·left; exact ⟨h, if_pos h⟩
 ·have hp : PtIn p := by unfold badP at h; unfold PtIn; omega
  right
  rw [if_neg h]
  by_cases h2 : 0 < k ∧ last.1 ≥ p.1
  ·left; rw [if_pos h2]; exact ⟨hp, h2.1, h2.2, rfl⟩
  ·right; rw [if_neg h2]; exact ⟨hp, by omega, rfl⟩
theorem znJ {acc : List Pt} {last p : Pt} {k : Nat} (hk : acc.length = k) (hl : PtIn last) (hlast : 0 < k → acc.getD (k - 1) default = last) : zU (acc.drop (acc.length - 1) ++ [p]) = YH k last p := by
 by_cases h0 : k = 0
 ·have : acc = [] := List.eq_nil_of_length_eq_zero (by omega)
  subst this
  subst h0
  simp only [List.drop_nil, List.nil_append, zU, List.length_cons, List.length_nil, chk, YH, badP]
  unfold PtIn at hl
  rw [if_neg (by omega)]
  by_cases hb : p.1 < 0 ∨ p.1 > 100000 ∨ p.2 < -1000000 ∨ p.2 > 1000000
  ·rw [if_pos hb, if_pos hb]
  ·rw [if_neg hb, if_neg hb, if_neg (by omega), if_neg (by omega)]
 ·have hd : acc.drop (acc.length - 1) = [last] := by
   rw [vv (by omega), List.drop_of_length_le (by omega), hk, hlast (by omega)]
  rw [hd]
  simp only [List.cons_append, List.nil_append, zU, List.length_cons, List.length_nil, chk, YH, badP]
  unfold PtIn at hl
  rw [if_neg (by omega), if_neg (by omega), if_neg (by omega)]
  by_cases hb : p.1 < 0 ∨ p.1 > 100000 ∨ p.2 < -1000000 ∨ p.2 > 1000000
  ·rw [if_pos hb, if_pos hb]
  ·rw [if_neg hb, if_neg hb]
   by_cases hc : last.1 ≥ p.1
   ·rw [if_pos hc, if_pos ⟨by omega, hc⟩]
   ·rw [if_neg hc, if_neg (by omega)]
theorem z5J (l : List Bool) : -4000001 ≤ (zq l).1 ∧ (zq l).1 ≤ 4000000 := by
 by_cases h : (zq l).2.2 = 0
 ·obtain ⟨m, g1, g2, g3, g4, g5, _⟩ := zah 8 0 0 1 l (by omega) (by omega) h
  rw [Int.zero_add, Int.mul_one] at g4 g5
  have hu := z74 g1
  have hv : (zq l).1 = unf m := g5
  omega
 ·rw [(zmt h).1]; omega
theorem zcb {b : List Bool} (h : (zq b).2.2 = 0) : (Yt b).2.1 = Z9 b := by unfold Yt Z9; exact if_pos h
theorem zai (b : List Bool) : (Z9 b).length ≤ b.length := by unfold Z9; rw [List.length_drop]; omega
theorem zgu (b : List Bool) : (z2b b).length ≤ b.length := by
 have := zai b
 unfold z2b; rw [List.length_drop]; omega
theorem zpe {b : List Bool} (h : (zq b).2.2 = 0) (h1 : (zq (Z9 b)).2.2 = 0) : b.drop ((zq b).2.1 + (zq (Z9 b)).2.1).toNat = z2b b := by
 have g1 := z5H h
 have g2 := z5H h1
 unfold z2b Z9
 unfold Z9 at g2
 rw [List.drop_drop]
 congr 1
 omega
theorem zjc : ∀ (f k : Nat) (last : Pt) (step : Int) (acc : List Pt) (b : List Bool), (unpk f k last step acc b).1.length ≤ acc.length + f
 | 0, k, last, step, acc, b => by
  by_cases h : b.length > 0
  ·rw [un_e h]; simp
  ·rw [un_f h]; simp
 | f + 1, k, last, step, acc, b => by
  by_cases h1 : (zq b).2.2 = 0
  ·by_cases h2 : (zq (Z9 b)).2.2 = 0
   ·by_cases h3 : YH k last (nxt last step b) = 0
    ·rw [un_d (by omega) h1 h2 h3]
     have := zjc (f + 1 - 1) (k + 1) (nxt last step b) ((nxt last step b).1 - last.1) (acc ++ [nxt last step b]) (z2b b)
     rw [List.length_append] at this
     simp only [List.length_cons, List.length_nil] at this
     omega
    ·rw [un_c (by omega) h1 h2 h3]; simp
   ·rw [un_b (by omega) h1 h2]; simp
  ·rw [un_a (by omega) h1]; simp
theorem z6i (b : List Bool) (n : Int) : (ZK b n).1.length ≤ 40 := by
 unfold ZK
 split
 ·simp
 ·have := zjc n.toNat 0 ⟨0, 0⟩ 0 [] b
  simp only [List.length_nil] at this
  omega
end Go.Rb
namespace Go.Rb
def Yn : Pt → Int → List Pt → List Bool
 | _, _, [] => []
 | last, st, p :: r => YG last st p ++ Yn p (p.1 - last.1) r
theorem zjd (l : List Pt) : ∀ (d i : Nat), i + d = l.length → Y1 l i ++ Yn (Yg l i) (vh l i) (l.drop i) = Y1 l l.length
 | 0, i, h => by
  rw [List.drop_of_length_le (by omega), show i = l.length from by omega]
  simp [Yn]
 | d + 1, i, h => by
  rw [← zjd l d (i + 1) (by omega), z6h, vv (show i < l.length by omega), Yn, zmv, zmw, List.append_assoc]
theorem z5K (l : List Pt) : Yn ⟨0, 0⟩ 0 l = Y1 l l.length := by
 have h := zjd l l.length 0 (by omega)
 simpa [Y1, Yg, vh] using h
theorem zlB (m : Int) : 4 ≤ (zenc 8 m).length := by
 rw [zenc, List.length_append, yK]; omega
theorem zpf (a : Pt) (s : Int) (p : Pt) : 8 ≤ (YG a s p).length := by
 have h1 := zlB (p.1 - a.1 - s |> ZA)
 have h2 := zlB (ZA (p.2 - a.2))
 unfold YG; rw [List.length_append]; omega
theorem zea {v : Int} (h : -4000000 ≤ v ∧ v ≤ 4000000) (r : List Bool) : (zq (zenc 8 (ZA v) ++ r)).1 = v ∧ (zq (zenc 8 (ZA v) ++ r)).2.2 = 0 ∧ Z9 (zenc 8 (ZA v) ++ r) = r := by
 have h1 := zpc h r
 refine ⟨congrArg Prod.fst h1, congrArg (fun x => x.2.2) h1, ?_⟩
 have h2 : (Yt (zenc 8 (ZA v) ++ r)).2.1 = r := congrArg (fun x => x.2.1) h1
 rw [← zcb (congrArg (fun x => x.2.2) h1), h2]
theorem zaj {b : List Bool} (h : (zq b).2.2 = 0) : b = zenc 8 (ZA (zq b).1) ++ Z9 b ∧ -4000000 ≤ (zq b).1 ∧ (zq b).1 ≤ 4000000 := by
 have h1 := znH (l := b) h
 have hr : -4000000 ≤ (zq b).1 ∧ (zq b).1 ≤ 4000000 := by
  apply Classical.byContradiction
  intro hc
  have h2 : (z1g [] (Yt b).1).2 = 3 := by
   unfold z1g
   rw [if_pos (by show (zq b).1 < _ ∨ (zq b).1 > _; omega)]
  rw [h1.1] at h2
  simp at h2
 refine ⟨?_, hr⟩
 have h3 := h1.2
 rw [z1U (v := (Yt b).1) hr, zcb h, List.nil_append] at h3
 exact h3.symm
def L0 (k : Nat) (last : Pt) : Int := if k = 0 then -1 else last.1
theorem zcR {L : Int} {p : Pt} {r : List Pt} (h : chk L (p :: r) = 0) : PtIn p ∧ L < p.1 ∧ chk p.1 r = 0 := by
 rw [chk] at h
 split at h
 ·cases h
 ·split at h
  ·cases h
  ·exact ⟨by unfold PtIn; omega, by omega, h⟩
theorem zje {L : Int} {p : Pt} {r : List Pt} (h1 : PtIn p) (h2 : L < p.1) (h3 : chk p.1 r = 0) : chk L (p :: r) = 0 := by
 unfold PtIn at h1
 rw [chk, if_neg (by omega), if_neg (by omega)]; exact h3
theorem zmx {k : Nat} {last p : Pt} (h1 : PtIn p) (h2 : L0 k last < p.1) : YH k last p = 0 := by
 have h := z7O k last p
 unfold L0 at h2
 unfold badP at h
 unfold PtIn at h h1
 split at h2 <;> omega
theorem znK {last p : Pt} {st : Int} (hl : PtIn last) (hs : -100000 ≤ st ∧ st ≤ 100000) (hp : PtIn p) (rest : List Bool) :
  (zq (YG last st p ++ rest)).2.2 = 0 ∧ (zq (Z9 (YG last st p ++ rest))).2.2 = 0 ∧ nxt last st (YG last st p ++ rest) = p ∧ z2b (YG last st p ++ rest) = rest := by
 unfold PtIn at hl hp
 have h1 := zea (v := p.1 - last.1 - st) (by omega) (zenc 8 (ZA (p.2 - last.2)) ++ rest)
 have h2 := zea (v := p.2 - last.2) (by omega) rest
 have e : YG last st p ++ rest = zenc 8 (ZA (p.1 - last.1 - st)) ++ (zenc 8 (ZA (p.2 - last.2)) ++ rest) := by unfold YG; rw [List.append_assoc]
 have hb : Z9 (YG last st p ++ rest) = zenc 8 (ZA (p.2 - last.2)) ++ rest := by rw [e, h1.2.2]
 refine ⟨by rw [e]; exact h1.2.1, by rw [hb]; exact h2.2.1, ?_, ?_⟩
 ·show (⟨last.1 + st + (zq (YG last st p ++ rest)).1, last.2 + (zq (Z9 (YG last st p ++ rest))).1⟩ : Pt) = p
  rw [hb, h2.1, e, h1.1]
  cases p
  simp only [Prod.mk.injEq, ]
  omega
 ·show Z9 (Z9 (YG last st p ++ rest)) = rest
  rw [hb, h2.2.2]
theorem zak : ∀ (r : List Pt) (k : Nat) (last : Pt) (st : Int) (acc : List Pt) (more : List Bool), PtIn last → (-100000 ≤ st ∧ st ≤ 100000) → chk (L0 k last) r = 0 →
  unpk r.length k last st acc (Yn last st r ++ more) = if more.length > 0 then ([], 8) else (acc ++ r, 0)
 | [], k, last, st, acc, more, _, _, _ => by simp [Yn, unpk]
 | p :: r, k, last, st, acc, more, hl, hs, hc => by
  obtain ⟨h1, h2, h3⟩ := zcR hc
  have hi := znK hl hs h1 (Yn p (p.1 - last.1) r ++ more)
  rw [Yn, List.append_assoc, List.length_cons, un_d (by omega) hi.1 hi.2.1 (by rw [hi.2.2.1]; exact zmx h1 h2), hi.2.2.1, hi.2.2.2, Nat.add_sub_cancel]
  have hl' := hl
  have h1' := h1
  unfold PtIn at hl' h1'
  rw [zak r (k + 1) p (p.1 - last.1) (acc ++ [p]) more h1 (by omega) (by unfold L0; rw [if_neg (by omega)]; exact h3), List.append_assoc]
  rfl
theorem zal : ∀ (r1 r2 : List Pt) (last : Pt) (st : Int), ∃ last' st', Yn last st (r1 ++ r2) = Yn last st r1 ++ Yn last' st' r2
 | [], r2, last, st => ⟨last, st, rfl⟩
 | p :: r1, r2, last, st => by
  obtain ⟨a, b, h⟩ := zal r1 r2 p (p.1 - last.1)
  exact ⟨a, b, by rw [List.cons_append, Yn, h, Yn, List.append_assoc]⟩
theorem zjf : ∀ (l : List Pt) (L : Int) (k : Nat), chk L l = 0 → chk L (l.take k) = 0
 | [], _, _, _ => by simp [chk]
 | p :: l, L, 0, _ => rfl
 | p :: l, L, k + 1, h => by
  obtain ⟨h1, h2, h3⟩ := zcR h
  rw [List.take_succ_cons]
  exact zje h1 h2 (zjf l p.1 k h3)
theorem zkI {l : List Pt} (h : zU l = 0) (k : Nat) : zU (l.take k) = 0 := by
 have h1 := Yb h
 unfold zU
 rw [if_neg (by rw [List.length_take]; omega)]
 exact zjf l (-1) k (z1h h)
theorem z1V : PtIn ⟨0, 0⟩ := by unfold PtIn; decide
theorem zgv {l : List Pt} (h : zU l = 0) : jH l = (Y1 l l.length, 0) ∧ ZK (Y1 l l.length) l.length = (l, 0) ∧ (0 < l.length → ¬ (ZK (Y1 l l.length) (l.length - 1)).2 = 0) := by
 have hl := Yb h
 refine ⟨by unfold jH; rw [if_pos h], ?_, ?_⟩
 ·unfold ZK
  rw [if_neg (by omega)]
  have h1 := zak l 0 ⟨0, 0⟩ 0 [] [] z1V (by omega) (z1h h)
  rw [List.append_nil, z5K] at h1
  rw [show ((l.length : Int)).toNat = l.length from by omega, h1]
  simp
 ·intro h0
  unfold ZK
  rw [if_neg (by omega), show ((l.length : Int) - 1).toNat = (l.take (l.length - 1)).length from by rw [List.length_take]; omega]
  obtain ⟨a, b, hab⟩ := zal (l.take (l.length - 1)) (l.drop (l.length - 1)) ⟨0, 0⟩ 0
  rw [List.take_append_drop] at hab
  rw [← z5K, hab, zak _ 0 ⟨0, 0⟩ 0 [] _ z1V (by omega) (z1h (zkI h _))]
  rw [if_pos]
  ·decide
  ·rw [vv (by omega), Yn, List.length_append]
   have := zpf a b (l.getD (l.length - 1) default)
   omega
theorem zjg : ∀ (f k : Nat) (last : Pt) (st : Int) (acc : List Pt) (b : List Bool), PtIn last → (unpk f k last st acc b).2 = 0 →
  ∃ r, r.length = f ∧ (unpk f k last st acc b).1 = acc ++ r ∧ b = Yn last st r ∧ chk (L0 k last) r = 0
 | 0, k, last, st, acc, b, _, h => by
  by_cases hb : b.length > 0
  ·rw [un_e hb] at h; simp at h
  ·rw [un_f hb]
   exact ⟨[], rfl, by simp, by simpa [Yn] using hb, rfl⟩
 | f + 1, k, last, st, acc, b, hl, h => by
  by_cases h1 : (zq b).2.2 = 0
  ·by_cases h2 : (zq (Z9 b)).2.2 = 0
   ·by_cases h3 : YH k last (nxt last st b) = 0
    ·rw [un_d (by omega) h1 h2 h3, Nat.add_sub_cancel] at h ⊢
     have hse := z7O k last (nxt last st b)
     have hp : PtIn (nxt last st b) ∧ (k = 0 ∨ last.1 < (nxt last st b).1) := by
      rcases hse with g | g | g
      ·omega
      ·omega
      ·exact ⟨g.1, g.2.1⟩
     obtain ⟨r, g1, g2, g3, g4⟩ := zjg f (k + 1) _ _ _ _ hp.1 h
     have s1 := zaj h1
     have s2 := zaj h2
     refine ⟨nxt last st b :: r, by simp [g1], by rw [g2, List.append_assoc]; rfl, ?_, ?_⟩
     ·rw [Yn, ← g3]
      show b = (zenc 8 (ZA (last.1 + st + (zq b).1 - last.1 - st)) ++ zenc 8 (ZA (last.2 + (zq (Z9 b)).1 - last.2))) ++ Z9 (Z9 b)
      rw [show last.1 + st + (zq b).1 - last.1 - st = (zq b).1 from by omega, show last.2 + (zq (Z9 b)).1 - last.2 = (zq (Z9 b)).1 from by omega, List.append_assoc, ← s2.1]
      exact s1.1
     ·refine zje hp.1 ?_ ?_
      ·have := hp.1
       unfold PtIn at this
       unfold L0
       split <;> omega
      ·unfold L0 at g4
       rw [if_neg (by omega)] at g4
       exact g4
    ·rw [un_c (by omega) h1 h2 h3] at h; exact absurd h h3
   ·rw [un_b (by omega) h1 h2] at h; exact absurd h h2
  ·rw [un_a (by omega) h1] at h; exact absurd h h1
theorem zmy {b : List Bool} {n : Int} (h : (ZK b n).2 = 0) : jH (ZK b n).1 = (b, 0) ∧ ((ZK b n).1.length : Int) = n ∧ zU (ZK b n).1 = 0 := by
 unfold ZK at h ⊢
 by_cases hn : n < 0 ∨ n > 40
 ·rw [if_pos hn] at h; simp at h
 ·rw [if_neg hn] at h ⊢
  obtain ⟨r, g1, g2, g3, g4⟩ := zjg _ _ _ _ _ _ z1V h
  rw [g2, List.nil_append]
  have hc : zU r = 0 := by
   unfold zU
   rw [if_neg (by omega)]
   exact g4
  refine ⟨?_, by omega, hc⟩
  unfold jH
  rw [if_pos hc, ← z5K, ← g3]
/-! ### Beginnings -/
/-! ### Steady points -/
end Go.Rb
namespace Go.Rb
def zeb : Bk := ⟨0, 0, 0, []⟩
def mkB (l : List Pt) : Bk := ⟨l.length, (l.getD 0 default).1, (l.getD (l.length - 1) default).1, Y1 l l.length⟩
def Vb (l : List Pt) : Bk × Int := if ¬ (jH l).2 = 0 then (zeb, (jH l).2) else if l.length = 0 then (zeb, 4) else (⟨l.length, (l.getD 0 default).1, (l.getD (l.length - 1) default).1, (jH l).1⟩, 0)
def ptsR (x : Bk) : List Pt × Int :=
 if ¬ (ZK x.2.2.2 x.1).2 = 0 then ([], (ZK x.2.2.2 x.1).2) else
 if (ZK x.2.2.2 x.1).1.length = 0 ∨ ¬ ((ZK x.2.2.2 x.1).1.getD 0 default).1 = x.2.1 ∨ ¬ ((ZK x.2.2.2 x.1).1.getD ((ZK x.2.2.2 x.1).1.length - 1) default).1 = x.2.2.1 then ([], 4) else ((ZK x.2.2.2 x.1).1, 0)
def Yj (x y : Bk) : Bk × Int := if ¬ (ptsR x).2 = 0 then (zeb, (ptsR x).2) else if ¬ (ptsR y).2 = 0 then (zeb, (ptsR y).2) else Vb ((ptsR x).1 ++ (ptsR y).1)
theorem z1W (x : Bk) : (ptsR x).1.length ≤ 40 := by
 have := z6i x.2.2.2 x.1
 unfold ptsR
 split
 ·simp
 ·split
  ·simp
  ·exact this
theorem zpg {l : List Pt} (h : l.length ≤ 40) : (mkB l).2.2.2.length ≤ 2560 := by
 have := ze9 l l.length
 show (Y1 l l.length).length ≤ 2560
 omega
theorem z4w {l : List Pt} (h : zU l = 0) (h0 : 0 < l.length) : Vb l = (mkB l, 0) ∧ ptsR (mkB l) = (l, 0) := by
 have hb := zgv h
 refine ⟨?_, ?_⟩
 ·unfold Vb
  rw [hb.1, if_neg (by simp), if_neg (by omega)]; rfl
 ·have hu : ZK (mkB l).2.2.2 (mkB l).1 = (l, 0) := hb.2.1
  unfold ptsR
  rw [hu, if_neg (by simp), if_neg (not_or.2 ⟨by show ¬ l.length = 0; omega, not_or.2 ⟨fun h => h rfl, fun h => h rfl⟩⟩)]
theorem znL {a b : List Pt} (ha : zU a = 0) (hb : zU b = 0) (ha0 : 0 < a.length) (hb0 : 0 < b.length) (h : zU (a ++ b) = 0) : Yj (mkB a) (mkB b) = (mkB (a ++ b), 0) := by
 unfold Yj
 rw [(z4w ha ha0).2, (z4w hb hb0).2, if_neg (by simp), if_neg (by simp)]
 exact (z4w h (by rw [List.length_append]; omega)).1
end Go.Rb
namespace Go.Proofs.Y
open Go.Rb Go.Kx
theorem zam {a : List Bool} (h : a.length ≤ 140737488355328) : JV a = some a := z0m 1 a (by omega) (by omega)
theorem zgw {a b : List Bool} (h : a.length < 4611686018427387904) : z4p a b = some (decide (a = b)) := z9V eqB (fun x y => by cases x <;> cases y <;> rfl) a b h
theorem zfp {n k : Int} (h0 : 0 ≤ n) (hk : 0 ≤ k ∧ k ≤ 40) : wshr .i64 n k = n / 2 ^ k.toNat := by
 unfold wshr
 rw [show min k.toNat IntKind.i64.bits = k.toNat from by show min k.toNat 64 = _; omega, zp6 h0]
theorem zrp {n k : Int} (h0 : 0 ≤ n) (h1 : n ≤ 9223372036854775807) (hk : 0 ≤ k ∧ k ≤ 40) : eqI (wand .i64 (wshr .i64 n k) 1) 1 = z1f n k.toNat := by
 have h2 := zms h0 k.toNat
 rw [zfp h0 hk]
 unfold wand eqI z1f
 rw [zp5 h2.1 (by omega)]
theorem znM (l : List Bool) (n w : Int) (hl : l.length ≤ 140737488355200) (hn : n ≤ 9223372036854775807) : jD l n w = some (putR l n w) := by
 unfold jD putR
 rw [ze, zy, ze, ze, zk, zam (by omega), z7]
 by_cases hw0 : w < 0
 ·rw [if_pos hw0, if_neg (by unfold zbi; omega)]
 rw [if_neg hw0]
 by_cases hw1 : 40 < w
 ·rw [if_pos hw1, if_neg (by unfold zbi; omega)]
 rw [if_neg hw1]
 by_cases hn0 : n < 0
 ·rw [if_pos hn0, if_neg (by unfold zbi; omega)]
 rw [if_neg hn0, if_neg hw0, zfp (by omega) ⟨by omega, by omega⟩]
 by_cases hs : n / 2 ^ w.toNat = 0
 ·rw [if_pos hs, if_pos ⟨by omega, by omega, by omega, (zj7 (by omega)).1 hs⟩]
  have hws : wsub .i64 w 1 = w - 1 := ZJ ⟨by omega, by omega⟩
  rw [hws]
  have key := ye (f := fun (x : Int × List Bool) => ifB (geI (Prod.fst x) 0) (ifB (ltI (Prod.fst x) 0) none (ifB (zf 1 (Prod.snd x) [eqI (wand IntKind.i64 (wshr IntKind.i64 n (Prod.fst x)) 1) 1])
    (some (Sum.inl (wsub IntKind.i64 (Prod.fst x) 1, cat (Prod.snd x) [eqI (wand IntKind.i64 (wshr IntKind.i64 n (Prod.fst x)) 1) 1]))) none)) (mapO Sum.inr (some (Prod.snd x, (0 : Int)))))
   (G := fun x => some (x.2 ++ (ZS w.toNat n).drop (w - 1 - x.1).toNat, 0)) (P := fun x => -1 ≤ x.1 ∧ x.1 ≤ w - 1 ∧ (x.2.length : Int) ≤ l.length + (w - 1 - x.1)) (μ := fun x => (x.1 + 1).toNat) ?_ maxR (w - 1, l) ⟨by show -1 ≤ w - 1; omega, by show w - 1 ≤ w - 1; omega, by show (l.length : Int) ≤ l.length + (w - 1 - (w - 1)); omega⟩ (by show (w - 1 + 1).toNat < maxR; unfold maxR; omega)
  ·rw [key]
   simp
  ·rintro ⟨k, acc⟩ ⟨h0, h1, h2⟩ K hk
   simp only at h0 h1 h2
   simp only [zB, zo, Z4, zd, Zs, zx, Z6, Zw, Zo, ze, Zt, zy, zL, zh, zk, zC, Zx, ZD, ZF, zF, Zy, Zp, Zq, Zr, Zm, Z7, zG, ZG, zz, Z2, Z8, Z3, Zu, ZH, Zn, z7, zV, Zb, Zc, zb, ZE, zX, zP, Z1, ZI, Zk, zJ, Zz, List.length_cons, List.length_nil]
   by_cases hk0 : 0 ≤ k
   ·rw [if_pos hk0, if_neg (by omega), if_pos ⟨by omega, by omega⟩, zrp (by omega) hn ⟨hk0, by omega⟩, ZJ ⟨by omega, by omega⟩]
    rw [hk _ ⟨by show -1 ≤ k - 1; omega, by show k - 1 ≤ w - 1; omega, by show (((acc ++ [z1f n k.toNat]).length : Nat) : Int) ≤ l.length + (w - 1 - (k - 1)); rw [List.length_append, List.length_cons, List.length_nil]; omega⟩ (by show (k - 1 + 1).toNat < (k + 1).toNat; omega)]
    have hlt : (w - 1 - k).toNat < (ZS w.toNat n).length := by rw [yK]; omega
    show some (acc ++ [z1f n k.toNat] ++ (ZS w.toNat n).drop (w - 1 - (k - 1)).toNat, (0 : Int)) = some (acc ++ (ZS w.toNat n).drop (w - 1 - k).toNat, 0)
    rw [vv hlt, znB (by omega), show (w - 1 - (k - 1)).toNat = (w - 1 - k).toNat + 1 by omega, show w.toNat - 1 - (w - 1 - k).toNat = k.toNat by omega]
    simp
   ·rw [if_neg hk0, List.drop_of_length_le (by rw [yK]; omega), List.append_nil]
 ·rw [if_neg hs, if_neg (by intro hc; exact hs ((zj7 (by omega)).2 hc.2.2.2))]
theorem zqv (l : List Bool) (w : Int) (hl : l.length ≤ 140737488355328) : JA l w = some (zT l w) := by
 unfold JA zT
 rw [ze, zy, ze, zF, zb]
 by_cases hw0 : w < 0
 ·rw [if_pos hw0, if_pos (by omega)]
 rw [if_neg hw0]
 by_cases hw1 : 40 < w
 ·rw [if_pos hw1, if_pos (by omega)]
 rw [if_neg hw1, if_neg (show ¬ (w < 0 ∨ w > 40) by omega)]
 by_cases hw2 : (l.length : Int) < w
 ·rw [if_pos hw2, if_pos hw2]
 rw [if_neg hw2, if_neg hw2, if_pos ⟨by omega, by omega⟩, zP]
 have hlen : (l.take w.toNat).length = w.toNat := by rw [List.length_take]; omega
 generalize l.take w.toNat = a at hlen
 show _ = some (a.foldl (fun n b => 2 * n + (if b then 1 else 0)) (0 : Int), (0 : Int))
 refine zS a (fun j (s : Int) => (s, (j : Int))) (G := fun rest (s : Int) => some (rest.foldl (fun (n : Int) b => 2 * n + (if b then 1 else 0)) s, (0 : Int))) (P := fun j s => 0 ≤ s ∧ s < 2 ^ j) ?_ ?_ (s0 := 0) ⟨by omega, by decide⟩ (by omega)
 ·rintro j s hj ⟨h0, h1⟩ k hk
  have h2 := (zs0 (k := j) (by omega)).2
  have h3 : (2 : Int) ^ (j + 1) = 2 ^ j * 2 := Int.pow_succ _ _
  simp only [zB, zo, Z4, zd, Zs, zx, Z6, Zw, Zo, ze, Zt, zy, zL, zh, zk, zC, Zx, ZD, ZF, zF, Zy, Zp, Zq, Zr, Zm, Z7, zG, ZG, zz, Z2, Z8, Z3, Zu, ZH, Zn, z7, zV, Zb, Zc, zb, ZE, zX, zP, Z1, ZI, Zk, zJ, Zz, za]
  rw [if_pos (by omega), zN hj, z7, zD (by omega), YT ⟨by omega, by omega⟩]
  rw [ZR ⟨by omega, by omega⟩, hk _ ⟨by omega, by omega⟩, hk _ ⟨by omega, by omega⟩, List.foldl_cons, z6Y]
  cases a.getD j default <;> simp [Int.mul_comm]
 ·rintro s ⟨h0, h1⟩ k
  simp only [zB, zo, Z4, zd, Zs, zx, Z6, Zw, Zo, ze, Zt, zy, zL, zh, zk, zC, Zx, ZD, ZF, zF, Zy, Zp, Zq, Zr, Zm, Z7, zG, ZG, zz, Z2, Z8, Z3, Zu, ZH, Zn, z7, zV, Zb, Zc, zb, ZE, zX, zP, Z1, ZI, Zk, zJ, Zz]
  rw [if_neg (by omega)]
  rfl
end Go.Proofs.Y
namespace Go.Proofs.Y
open Go.Rb Go.Kx
theorem zmz {n : Int} (h : 0 ≤ n) : wrem n 8 = n % 8 := by unfold wrem; exact Int.tmod_eq_emod_of_nonneg h
theorem zpW {n : Int} (h : 0 ≤ n) : wrem n 2 = n % 2 := by unfold wrem; exact Int.tmod_eq_emod_of_nonneg h
theorem zpX {n : Int} (h : 0 ≤ n) (h1 : n ≤ 9223372036854775807) : wquo .i64 n 8 = n / 8 := by
 unfold wquo; rw [Int.tdiv_eq_ediv_of_nonneg h]; exact z1a (by omega) (by omega)
theorem zqw {v : Int} (h : -4000000 ≤ v ∧ v ≤ 4000000) : z18 v = some (ZA v) := by
 unfold z18 ZA
 rw [ze]
 split
 ·rw [YT ⟨by omega, by omega⟩, ZJ ⟨by omega, by omega⟩]
 ·rw [YT ⟨by omega, by omega⟩]
theorem zlC : ∀ (f : Nat) (m : Int), 1 ≤ f → 0 ≤ m → m < 8 ^ f → zenc (f + 1) m = zenc f m
 | 0, m, h, _, _ => absurd h (by omega)
 | f + 1, m, _, h0, h1 => by
  by_cases h8 : m < 8
  ·rw [je (by omega) h8, je (by omega) h8]
  ·have h2 := z77 (f := f + 1) h1 (by omega)
   rw [z0o (f := f + 2) (by omega) (by omega), z0o (f := f + 1) (by omega) (by omega)]
   exact congrArg _ (zlC f (m / 8) (by omega) (by omega) h2.2)
theorem zlD (l : List Bool) (v : Int) (hl : l.length ≤ 140737488355100) : z0l l v = some (z1g l v) := by
 unfold z0l z1g
 rw [ze, zy]
 by_cases h0 : v < -4000000
 ·rw [if_pos h0, if_pos (.inl h0)]
 rw [if_neg h0]
 by_cases h1 : 4000000 < v
 ·rw [if_pos h1, if_pos (.inr h1)]
 rw [if_neg h1, if_neg (show ¬ (v < -4000000 ∨ v > 4000000) by omega), zqw ⟨by omega, by omega⟩, z7]
 have hf := z1R v
 refine ye (G := fun x => some (x.1 ++ zenc 8 x.2, (0 : Int))) (P := fun (x : List Bool × Int) => 0 ≤ x.2 ∧ ∃ f, 1 ≤ f ∧ f ≤ 8 ∧ x.2 < 8 ^ f ∧ x.1.length ≤ l.length + 4 * (8 - f)) (μ := fun x => x.2.toNat) ?_ maxR (l, ZA v) ⟨by show 0 ≤ ZA v; omega, 8, by omega, by omega, by show ZA v < 8 ^ 8; omega, by show l.length ≤ _; omega⟩ (by show (ZA v).toNat < maxR; unfold maxR; omega)
 rintro ⟨acc, n⟩ ⟨g0, f, g1, g2, g3, g4⟩ k hk
 simp only at g0 g3 g4
 have h8 := (pow8 g2).2
 simp only [zB, zo, Z4, zd, Zs, zx, Z6, Zw, Zo, ze, Zt, zy, zL, zh, zk, zC, Zx, ZD, ZF, zF, Zy, Zp, Zq, Zr, Zm, Z7, zG, ZG, zz, Z2, Z8, Z3, Zu, ZH, Zn, z7, zV, Zb, Zc, zb, ZE, zX, zP, Z1, ZI, Zk, zJ, Zz]
 rw [zmz g0, ZR ⟨by omega, by omega⟩, ZR ⟨by omega, by omega⟩, znM _ _ _ (by omega) (by omega), znM _ _ _ (by omega) (by omega), z7, z7, (putm g0).1, (putm g0).2, zpX g0 (by omega)]
 split
 ·rename_i hge
  have hd := z77 g3 hge
  rw [hk _ ⟨by show 0 ≤ n / 8; omega, f - 1, by omega, by omega, hd.2, by show (acc ++ ZS 4 (8 + n % 8)).length ≤ _; rw [List.length_append, yK]; omega⟩ (by show (n / 8).toNat < n.toNat; omega)]
  show some (acc ++ ZS 4 (8 + n % 8) ++ zenc 8 (n / 8), (0 : Int)) = _
  rw [z0o (f := 8) (m := n) (by omega) hge, List.append_assoc]
  congr 4
  refine (zlC 7 (n / 8) (by omega) (by omega) ?_).trans rfl
  have : n < 8 ^ 8 := by have : (8 : Int) ^ 8 = 16777216 := by decide
                         omega
  show n / 8 < 8 ^ 7
  omega
 ·rename_i hlt
  show some (acc ++ ZS 4 (0 + n % 8), (0 : Int)) = _
  rw [je (f := 8) (m := n) (by omega) (by omega)]
theorem zjh (l : List Bool) (hl : l.length ≤ 140737488355328) : jC l = some (zq l) := by
 unfold jC zq
 refine ye (G := fun (x : Int × Int × Int) => some (ZM (8 - x.2.2.toNat) x.2.2.toNat x.1 x.2.1 (l.drop (4 * x.2.2.toNat)))) (P := fun (x : Int × Int × Int) => 0 ≤ x.2.2 ∧ x.2.2 ≤ 8 ∧ 0 ≤ x.1 ∧ x.1 ≤ 8000000 ∧ x.2.1 = 8 ^ x.2.2.toNat) (μ := fun x => 8 - x.2.2.toNat) ?_ maxR (0, 1, 0) ⟨by decide, by decide, by decide, by decide, by decide⟩ (by decide)
 rintro ⟨n, sc, kk⟩ ⟨g0, g1, g2, g3, g4⟩ K hk
 simp only at g0 g1 g2 g3 g4
 obtain ⟨k, rfl⟩ : ∃ k : Nat, kk = k := ⟨kk.toNat, by omega⟩
 rw [Int.toNat_natCast] at g4
 have hp := pow8 (k := k) (by omega)
 have hmin : minI (lenI l) (wmul .i64 4 (k : Int)) = min (l.length : Int) (4 * k) := by
  rw [YT ⟨by omega, by omega⟩]; rfl
 have hdrop : yh l (minI (lenI l) (wmul .i64 4 (k : Int))) = l.drop (4 * k) := by
  rw [hmin, Z1]
  by_cases h : (l.length : Int) ≤ 4 * k
  ·rw [List.drop_of_length_le (by omega), List.drop_of_length_le (by omega)]
  ·congr 1; omega
 have hin : in1 l (minI (lenI l) (wmul .i64 4 (k : Int))) = true := by
  rw [hmin, in1, ← Bool.decide_and]; exact decide_eq_true ⟨by omega, by omega⟩
 have hrd := zqv (l.drop (4 * k)) 4 (by rw [List.length_drop]; omega)
 have h4 : wadd .i64 (wmul .i64 4 (k : Int)) 4 = 4 * (k : Int) + 4 := by rw [YT ⟨by omega, by omega⟩, ZR ⟨by omega, by omega⟩]
 simp only [hin, hdrop, hrd, h4, Z6, z7, Int.toNat_natCast]
 simp only [za, zd, zo, zx]
 rw [ze]
 by_cases h8 : (k : Int) < 8
 ·rw [if_pos h8]
  rcases rd4 (l.drop (4 * k)) with ⟨r1, r2, r3⟩ | ⟨r1, r2, r3, r4, r5⟩
  ·rw [zk, r3, if_neg (by decide), z78 (by omega) r1]
  ·rw [zk, r3, if_pos rfl]
   generalize hx : (zT (List.drop (4 * k) l) 4).fst = x at *
   have hm := zj9 (a := x % 8) (b := sc) (c := 16777216) (by omega) (by omega) (by omega) (by omega)
   have hsc : sc ≤ 2097152 := by
    rw [g4]
    exact (by decide : ∀ k : Fin 8, (8 : Int) ^ k.val ≤ 2097152) ⟨k, by omega⟩
   rw [zmz r4, YT ⟨by omega, by omega⟩, ZR ⟨by omega, by omega⟩, YT (a := sc) (b := 8) ⟨by omega, by omega⟩, zD (by omega)]
   have hmm := zj9 (a := x % 8) (b := sc) (c := 2097152) (by omega) (by omega) (by omega) hsc
   generalize hN : n + x % 8 * sc = N at *
   have hwa : wadd .i64 N 1 = N + 1 := ZR ⟨by omega, by omega⟩
   have hwn : wneg .i64 (N + 1) = 0 - (N + 1) := zfl ⟨by omega, by omega⟩
   rw [hwa, hwn, zpW (by omega)]
   -- what is read
   have tail : ¬ (x = 0 ∧ 0 < k) → ifB (gtI N 8000000) (some (0, 0, 3)) (ifB (ltI x 8) (ifB (eqI (N % 2) 1) (some (wquo IntKind.i64 (0 - (N + 1)) 2, 4 * (k : Int) + 4, 0)) (some (wquo IntKind.i64 N 2, 4 * (k : Int) + 4, 0))) (K (N, sc * 8, ((k + 1 : Nat) : Int)))) =
     some (ZM (8 - k) k n sc (List.drop (4 * k) l)) := by
    intro hnf
    rw [zy]
    by_cases hr : 8000000 < N
    ·rw [if_pos hr, z4v (by omega) r1 (by rw [hx]; exact hnf) (by rw [hx, hN]; exact hr)]
    rw [if_neg hr, ze]
    by_cases hd : x < 8
    ·rw [if_pos hd, z1T (by omega) r1 (by rw [hx]; exact hnf) (by rw [hx, hN]; omega) (by rw [hx]; exact hd), hx, hN, zh]
     rcases z74 (n := N) (by omega) with ⟨u1, u2, u3⟩ | ⟨u1, u2, u3⟩
     ·rw [if_pos u1]
      unfold wquo
      rw [u3, z1a (by omega) (by omega)]
     ·rw [if_neg (by omega)]
      unfold wquo
      rw [u3, z1a (by omega) (by omega)]
    ·rw [if_neg hd, z3N (by omega) r1 (by rw [hx]; exact hnf) (by rw [hx, hN]; omega) (by rw [hx]; exact hd), hx, hN]
     rw [hk _ ⟨by show (0 : Int) ≤ ((k + 1 : Nat) : Int); omega, by show ((k + 1 : Nat) : Int) ≤ 8; omega, by show 0 ≤ N; omega, by show N ≤ 8000000; omega, by show sc * 8 = 8 ^ (((k + 1 : Nat) : Int)).toNat; rw [Int.toNat_natCast, g4, Int.pow_succ]⟩ (by show 8 - (((k + 1 : Nat) : Int)).toNat < 8 - ((k : Int)).toNat; omega)]
     simp only [Int.toNat_natCast, List.drop_drop]
     rfl
   rw [zh]
   by_cases h0 : x = 0
   ·rw [if_pos h0, zy]
    by_cases hk0 : (0 : Int) < k
    ·rw [if_pos hk0, z79 (by omega) r1 (by rw [hx]; exact h0) (by omega)]
    ·rw [if_neg hk0]; exact tail (by omega)
   ·rw [if_neg h0]; exact tail (by omega)
 ·rw [if_neg h8]
  have : k = 8 := by omega
  subst this
  rfl
end Go.Proofs.Y
namespace Go.Proofs.Y
open Go.Rb Go.Kx
theorem JQ (a b c : Int) : zl a b c = some (decide (b ≤ a ∧ a ≤ c)) := by
 unfold zl
 rw [Zt]
 split
 ·simp [leI, *]
 ·simp [*]
theorem zlE : ∀ (f : Nat) (m : Int), (dig f m).length ≤ f
 | 0, _ => by simp [dig]
 | f + 1, m => by
  rw [dig, List.length_cons]
  split
  ·have := zlE f (m / 8); omega
  ·simp
theorem zmA (l : List Bool) (D : List Int) (hl : l.length ≤ 140737488355100) (hD : D.length ≤ 8) : zi maxR (fun (x_1 : Int × List Bool) => ifB (ltI (Prod.fst x_1) (lenI D)) (ifB (ltL (Prod.fst x_1) D)
   (z6 (atN D (natI (Prod.fst x_1))) fun (y : Int) => ifB (zf 1 (Prod.snd x_1) [ltI (Prod.fst x_1) (wsub IntKind.i64 (lenI D) 1), geI y 4, geI (wrem y 4) 2, eqI (wrem y 2) 1])
    (some (Sum.inl (wadd IntKind.i64 (Prod.fst x_1) 1, cat (Prod.snd x_1) [ltI (Prod.fst x_1) (wsub IntKind.i64 (lenI D) 1), geI y 4, geI (wrem y 4) 2, eqI (wrem y 2) 1]))) none) none)
   (mapO Sum.inr (some (Prod.snd x_1, (0 : Int))))) (0, l) = some (l ++ Yi D D.length, 0) := by
 refine zS D (fun j (s : List Bool) => ((j : Int), s)) (G := fun _ _ => some (l ++ Yi D D.length, (0 : Int))) (P := fun j s => s = l ++ Yi D j) ?_ ?_ (s0 := l) (by simp [Yi]) (by omega)
 ·rintro j s hj rfl k hk
  have hc := zmu D j
  simp only [zB, zo, Z4, zd, Zs, zx, Z6, Zw, Zo, ze, Zt, zy, zL, zh, zk, zC, Zx, ZD, ZF, zF, Zy, Zp, Zq, Zr, Zm, Z7, zG, ZG, zz, Z2, Z8, Z3, Zu, ZH, Zn, z7, zV, Zb, Zc, zb, ZE, zX, zP, Z1, ZI, Zk, zJ, Zz]
  rw [if_pos (by omega), if_pos ⟨by omega, by omega⟩, Int.toNat_natCast, ym hj, z7, zD (by omega), if_pos (by simp only [List.length_append, List.length_cons, List.length_nil, hc]; omega)]
  rw [hk _ ?_]
  rw [zca, List.append_assoc]
  congr 2
  unfold grp wsub wrem ltI geI eqI
  rw [z1a (by omega) (by omega)]
 ·rintro s rfl k
  simp only [zB, zo, Z4, zd, Zs, zx, Z6, Zw, Zo, ze, Zt, zy, zL, zh, zk, zC, Zx, ZD, ZF, zF, Zy, Zp, Zq, Zr, Zm, Z7, zG, ZG, zz, Z2, Z8, Z3, Zu, ZH, Zn, z7, zV, Zb, Zc, zb, ZE, zX, zP, Z1, ZI, Zk, zJ, Zz]
  rw [if_neg (by omega)]
theorem zji (l : List Bool) (v : Int) (hl : l.length ≤ 140737488355100) : zZ l v = some (z1g l v) := by
 unfold zZ z1g
 rw [JQ, z7, zC, zQ, zam (by omega)]
 by_cases hv : -4000000 ≤ v ∧ v ≤ 4000000
 ·rw [if_pos hv, if_neg (by omega), ← znE hv]
  have hf := z1R v
  have key : ∀ N0 : Int, 0 ≤ N0 → N0 < 16777216 → zi maxR (fun (x : Int × Bool × List Int) => ifB (Prod.fst (Prod.snd x)) (ifB (zf 8 (Prod.snd (Prod.snd x)) [wrem (Prod.fst x) 8])
     (some (Sum.inl (wquo IntKind.i64 (Prod.fst x) 8, false, cat (Prod.snd (Prod.snd x)) [wrem (Prod.fst x) 8]))) none)
    (ifB (gtI (Prod.fst x) 0) (ifB (zf 8 (Prod.snd (Prod.snd x)) [wrem (Prod.fst x) 8])
      (some (Sum.inl (wquo IntKind.i64 (Prod.fst x) 8, false, cat (Prod.snd (Prod.snd x)) [wrem (Prod.fst x) 8]))) none)
     (mapO Sum.inr (z6 (some l) fun (y : List Bool) => zi maxR (fun (x_1 : Int × List Bool) => ifB (ltI (Prod.fst x_1) (lenI (Prod.snd (Prod.snd x)))) (ifB (ltL (Prod.fst x_1) (Prod.snd (Prod.snd x)))
      (z6 (atN (Prod.snd (Prod.snd x)) (natI (Prod.fst x_1))) fun (y : Int) => ifB (zf 1 (Prod.snd x_1) [ltI (Prod.fst x_1) (wsub IntKind.i64 (lenI (Prod.snd (Prod.snd x))) 1), geI y 4, geI (wrem y 4) 2, eqI (wrem y 2) 1])
       (some (Sum.inl (wadd IntKind.i64 (Prod.fst x_1) 1, cat (Prod.snd x_1) [ltI (Prod.fst x_1) (wsub IntKind.i64 (lenI (Prod.snd (Prod.snd x))) 1), geI y 4, geI (wrem y 4) 2, eqI (wrem y 2) 1]))) none) none)
      (mapO Sum.inr (some (Prod.snd x_1, (0 : Int))))) (0, y))))) (N0, true, []) = some (l ++ Yi (dig 8 N0) (dig 8 N0).length, 0) := by
   intro N0 hN0 hN1
   refine ye (G := fun _ => some (l ++ Yi (dig 8 N0) (dig 8 N0).length, (0 : Int))) (P := fun (x : Int × Bool × List Int) => 0 ≤ x.1 ∧ x.1 < 16777216 ∧ ∃ f, 1 ≤ f ∧ f ≤ 8 ∧ x.1 < 8 ^ f ∧ x.2.2 ++ (if x.2.1 = true ∨ x.1 > 0 then dig f x.1 else []) = dig 8 N0) (μ := fun x => 2 * x.1.toNat + (if x.2.1 = true then 1 else 0)) ?_ maxR (N0, true, []) ⟨hN0, hN1, 8, by omega, by omega, hN1, by simp⟩ (by show 2 * N0.toNat + 1 < maxR; unfold maxR; omega)
   rintro ⟨n, fst, D⟩ ⟨g0, g1, f, g2, g3, g4, g5⟩ k hk
   simp only at g0 g1 g4 g5
   have hDl : D.length ≤ 8 := by
    have h1 := zlE 8 N0
    rw [← g5, List.length_append] at h1
    omega
   simp only [za, zd, zo, zB, zX, z7, zz]
   rw [zmz g0, zpX g0 (by omega), if_pos (by simp; omega)]
   have next : (fst = true ∨ n > 0) → k (n / 8, false, D ++ [n % 8]) = some (l ++ Yi (dig 8 N0) (dig 8 N0).length, 0) := by
    intro hc
    rw [if_pos hc, zpa g2 g0] at g5
    refine hk _ ⟨by show 0 ≤ n / 8; omega, by show n / 8 < _; omega, ?_⟩ ?_
    ·by_cases h8 : 8 ≤ n
     ·have hd := z77 g4 h8
      refine ⟨f - 1, by omega, by omega, hd.2, ?_⟩
      show D ++ [n % 8] ++ (if false = true ∨ n / 8 > 0 then dig (f - 1) (n / 8) else []) = _
      rw [if_pos (by omega)] at g5
      rw [if_pos (.inr (by omega)), ← g5]; simp
     ·refine ⟨f, by omega, by omega, by show n / 8 < _; omega, ?_⟩
      show D ++ [n % 8] ++ (if false = true ∨ n / 8 > 0 then dig f (n / 8) else []) = _
      rw [if_neg (by omega)] at g5
      rw [if_neg (by simp; omega), ← g5]; simp
    ·show 2 * (n / 8).toNat + (if false = true then 1 else 0) < 2 * n.toNat + (if fst = true then 1 else 0)
     rcases hc with hc | hc
     ·rw [if_pos hc]; simp; omega
     ·simp; omega
   cases fst with
   | true => exact next (.inl rfl)
   | false =>
    rw [Zw, zy]
    by_cases hn : 0 < n
    ·rw [if_pos hn]; exact next (.inr hn)
    ·rw [if_neg hn]
     rw [if_neg (by simp; omega), List.append_nil] at g5
     show zi maxR _ (0, l) = _
     rw [← g5]
     have hc := zmA l D hl hDl
     simp only [zX, zz] at hc
     exact hc
  rw [ze]
  split
  ·have e1 : wsub .i64 (wmul .i64 2 (wneg .i64 v)) 1 = ZA v := by
    rw [zfl ⟨by omega, by omega⟩, YT ⟨by omega, by omega⟩, ZJ ⟨by omega, by omega⟩]; omega
   rw [e1]; exact key (ZA v) (by omega) (by omega)
  ·have e1 : wmul .i64 2 v = ZA v := by rw [YT ⟨by omega, by omega⟩]; omega
   rw [e1]; exact key (ZA v) (by omega) (by omega)
 ·rw [if_neg hv, if_pos (by omega)]
theorem zec (l : List Bool) (hl : l.length ≤ 140737488355328) : yj l = some (Yt l) := by
 unfold yj Yt zq
 refine (ye (G := fun (x : List Bool × Int × Int × Int) => some ((ZM (8 - x.2.2.2.toNat) x.2.2.2.toNat x.2.1 x.2.2.1 x.1).1, (if (ZM (8 - x.2.2.2.toNat) x.2.2.2.toNat x.2.1 x.2.2.1 x.1).2.2 = 0 then x.1.drop ((ZM (8 - x.2.2.2.toNat) x.2.2.2.toNat x.2.1 x.2.2.1 x.1).2.1 - 4 * x.2.2.2).toNat else []), (ZM (8 - x.2.2.2.toNat) x.2.2.2.toNat x.2.1 x.2.2.1 x.1).2.2))
  (P := fun (x : List Bool × Int × Int × Int) => 0 ≤ x.2.2.2 ∧ x.2.2.2 ≤ 8 ∧ 0 ≤ x.2.1 ∧ x.2.1 ≤ 8000000 ∧ x.2.2.1 = 8 ^ x.2.2.2.toNat ∧ x.1.length ≤ 140737488355328) (μ := fun x => 8 - x.2.2.2.toNat) ?_ maxR (l, 0, 1, 0) ⟨Int.le_refl 0, (by decide : (0 : Int) ≤ 8), Int.le_refl 0, (by decide : (0 : Int) ≤ 8000000), rfl, hl⟩ (by show 8 - Int.toNat 0 < maxR; unfold maxR; omega)).trans (by simp)
 rintro ⟨r, n, sc, kk⟩ ⟨g0, g1, g2, g3, g4, g5⟩ K hk
 simp only at g0 g1 g2 g3 g4 g5
 obtain ⟨k, rfl⟩ : ∃ k : Nat, kk = k := ⟨kk.toNat, by omega⟩
 rw [Int.toNat_natCast] at g4
 simp only [Int.toNat_natCast]
 rw [za, zd, zh]
 by_cases hk8 : (k : Int) = 8
 ·rw [if_pos hk8]
  have : k = 8 := by omega
  subst this
  rfl
 rw [if_neg hk8, za, zd, ze, zb]
 have hp := pow8 (k := k) (by omega)
 by_cases h4 : (r.length : Int) < 4
 ·rw [if_pos h4, z78 (by omega) (by omega)]; rfl
 rw [if_neg h4, za, zB, Zy, if_pos ⟨by omega, by omega, by omega⟩]
 have hsl : sliI r 1 4 = (r.take 4).drop 1 := rfl
 rw [hsl]
 have hbl : ((r.take 4).drop 1).length = 3 := by rw [List.length_drop, List.length_take]; omega
 have hgm := znF (l := r) (by omega)
 have hgt := zqu (l := r) (by omega)
 have hgf := zqt (l := r) (by omega)
 have hd := ze8 ((r.take 4).drop 1) 3
 have hsc : sc ≤ 2097152 := by
  rw [g4]
  exact (by decide : ∀ k : Fin 8, (8 : Int) ^ k.val ≤ 2097152) ⟨k, by omega⟩
 have hmm := zj9 (a := dAt ((r.take 4).drop 1) 3) (b := sc) (c := 2097152) hd.1 hd.2 (by omega) hsc
 generalize hb : (r.take 4).drop 1 = b at *
 rw [zqr (fun j => (dAt b j, (j : Int))) 3 (x0 := (0, 0)) (by simp [dAt]) (by omega)]
 rotate_left
 ·intro j hj
  have hdj := ze8 b j
  have hdj1 := ze8 b (j + 1)
  have hnx := zpb (b := b) (i := j) hj
  have h3 : j = 0 ∨ j = 1 ∨ j = 2 := by omega
  have hshr : wshr .i64 4 (j : Int) = (4 : Int) / 2 ^ j := by rw [zfp (by omega) ⟨by omega, by omega⟩, Int.toNat_natCast]
  have hq : 0 ≤ (4 : Int) / 2 ^ j ∧ (4 : Int) / 2 ^ j ≤ 4 := by rcases h3 with rfl | rfl | rfl <;> decide
  rw [ze, zb, if_pos (by omega), zN (by omega), z7, ze, if_neg (by omega), zD (by omega), hshr, ZR ⟨by omega, by omega⟩, z6Y]
  split
  ·rename_i hb1; rw [hnx, if_pos hb1]
  ·rename_i hb1; rw [hnx, if_neg hb1, Int.add_zero]
 show yn (yn (ifB (ltI ((3 : Nat) : Int) (lenI b)) _ (mapO Sum.inr _)) _) K = _
 rw [za, zd, ze, zb, if_neg (by omega)]
 simp only []
 generalize hdd : dAt b 3 = d at *
 have e1 : wmul .i64 d sc = d * sc := YT ⟨by omega, by omega⟩
 have e2 : wadd .i64 n (d * sc) = n + d * sc := ZR ⟨by omega, by omega⟩
 have e3 : wadd .i64 (k : Int) 1 = ((k + 1 : Nat) : Int) := zD (by omega)
 have e4 : wmul .i64 sc 8 = sc * 8 := YT ⟨by omega, by omega⟩
 have hat : atI r 0 = some (r.getD 0 default) := zN (l := r) (j := 0) (by omega)
 have hin : in1 r 4 = true := by rw [in1, ← Bool.decide_and]; exact decide_eq_true ⟨by omega, by omega⟩
 simp only [e1, e2, e3, e4, hat, hin, z7, Z6, Z1]
 generalize hN : n + d * sc = N at *
 have tail : ¬ ((zT r 4).1 = 0 ∧ 0 < k) → yn (ifB (gtI N 8000000) (mapO Sum.inr (some ((0 : Int), ([] : List Bool), (3 : Int)))) (ifB (notB (r.getD 0 default))
   (mapO Sum.inr (ifB (eqI (wrem N 2) 0) (some (wquo IntKind.i64 N 2, r.drop (Int.toNat 4), 0)) (some (wneg IntKind.i64 (wadd IntKind.i64 (wquo IntKind.i64 N 2) 1), r.drop (Int.toNat 4), 0))))
   (some (Sum.inl (r.drop (Int.toNat 4), N, sc * 8, ((k + 1 : Nat) : Int)))))) K =
   some ((ZM (8 - k) k n sc r).1, (if (ZM (8 - k) k n sc r).2.2 = 0 then r.drop ((ZM (8 - k) k n sc r).2.1 - 4 * (k : Int)).toNat else []), (ZM (8 - k) k n sc r).2.2) := by
  intro hnf
  rw [za, zd, zy]
  by_cases hr : 8000000 < N
  ·rw [if_pos hr, z4v (by omega) (by omega) hnf (by rw [hgm, hN]; exact hr)]; rfl
  rw [if_neg hr, za, zd, zo, zC]
  cases hr0 : r.getD 0 default with
  | false =>
   have hx := hgf hr0
   rw [Zw, z1T (by omega) (by omega) hnf (by rw [hgm, hN]; omega) (by rw [hx]; omega), hgm, hN, zpW (by omega), zh]
   have hdr : (4 * (k : Int) + 4 - 4 * (k : Int)).toNat = Int.toNat 4 := by omega
   simp only [if_true, hdr]
   rcases z74 (n := N) (by omega) with ⟨u1, u2, u3⟩ | ⟨u1, u2, u3⟩
   ·rw [if_neg (by omega), u2]
    have hq : wquo .i64 N 2 = N / 2 := by unfold wquo; rw [Int.tdiv_eq_ediv_of_nonneg (by omega)]; exact z1a (by omega) (by omega)
    rw [hq, ZR ⟨by omega, by omega⟩, zfl ⟨by omega, by omega⟩]
    congr 2; omega
   ·rw [if_pos u1]
    have hq : wquo .i64 N 2 = N / 2 := by unfold wquo; rw [Int.tdiv_eq_ediv_of_nonneg (by omega)]; exact z1a (by omega) (by omega)
    rw [hq, u2]
  | true =>
   have hx := hgt hr0
   rw [Z6, z3N (by omega) (by omega) hnf (by rw [hgm, hN]; omega) (by rw [hx]; omega), hgm, hN]
   have hlen : (r.drop (Int.toNat 4)).length ≤ 140737488355328 := by rw [List.length_drop]; omega
   rw [hk _ ⟨by show (0 : Int) ≤ ((k + 1 : Nat) : Int); omega, by show ((k + 1 : Nat) : Int) ≤ 8; omega, by show 0 ≤ N; omega, by show N ≤ 8000000; omega, by show sc * 8 = 8 ^ (((k + 1 : Nat) : Int)).toNat; rw [Int.toNat_natCast, g4, Int.pow_succ], hlen⟩ (by show 8 - (((k + 1 : Nat) : Int)).toNat < 8 - ((k : Int)).toNat; omega)]
   simp only [Int.toNat_natCast]
   rw [show 8 - (k + 1) = 8 - k - 1 by omega]
   have hz := zcQ (8 - k - 1) (k + 1) N (sc * 8) (r.drop 4)
   have h44 : Int.toNat 4 = 4 := rfl
   rw [h44]
   generalize ZM (8 - k - 1) (k + 1) N (sc * 8) (r.drop 4) = z at *
   congr 3
   by_cases hz0 : z.2.2 = 0
   ·rw [if_pos hz0, if_pos hz0, List.drop_drop]
    congr 1
    have := hz hz0
    omega
   ·rw [if_neg hz0, if_neg hz0]
 rw [za, zy]
 by_cases hk0 : (0 : Int) < k
 ·rw [if_pos hk0, za, zh]
  by_cases hd0 : d = 0
  ·rw [if_pos hd0, za, zd, zC]
   cases hr0 : r.getD 0 default with
   | false =>
    have hx := hgf hr0
    rw [Zw, z79 (by omega) (by omega) (by omega) (by omega)]; rfl
   | true =>
    have hx := hgt hr0
    rw [Z6, ← hr0]
    exact tail (by omega)
  ·rw [if_neg hd0]
   refine tail ?_
   cases hr0 : r.getD 0 default with
   | false => have hx := hgf hr0; omega
   | true => have hx := hgt hr0; omega
 ·rw [if_neg hk0]
  exact tail (by omega)
end Go.Proofs.Y
