/-
  What is proved, part by part: what shelf.Merge comes to. what shelf.Drop$1 comes to. what slices.IndexFunc[[]api.Block,api.Block] comes to. what slices.DeleteFunc[[]api.Block,api.Block] comes to. what shelf.Drop comes to. what store.Next comes to. what shelf.New comes to. what store.Replay comes to. What is stated: the program's data as plain Lean types. how loops run; plain operations in plain words. records and what is asked of them, as a plain function. slices cloned, held against each other, put together: in plain words, for elements of any kind. a record checked by the program. what slices.Equal[[]api.Point,api.Point] comes to. what slices.Equal[[]bool,bool] comes to. what block.Same comes to. what rainbookref.SameBlock comes to. what slices.EqualFunc[[]api.Block,[]api.Block,api.Block,api.Block] comes to. what shelf.Same$1 comes to. what rainbookref.SameShelf$1 comes to. what slices.EqualFunc[[]api.Row,[]api.Row,api.Row,api.Row] comes to. what rainbookref.SameShelf comes to. what shelf.Same comes to. what rainbooklaw.at comes to. what rainbookref.FreshShelf comes to. what shelf.All comes to. what query.Range$1 comes to. what slices.IndexFunc[[]api.Point,api.Point] comes to. what slices.DeleteFunc[[]api.Point,api.Point] comes to. what query.Range comes to. what rainbookref.Ranged comes to. numbers as bits, as plain functions. numbers as bits, further plain facts. numbers as bits: what is put is taken. small numbers in groups of four bits, as plain functions. what is put in groups of four bits is taken, and no two ways write one number. when points rise, as a plain function. points in bits, as plain functions. points that are packed are unpacked, just so many; what is unpacked is packed as it was; beginnings; steady points. blocks, as plain functions; of two merged both are there. numbers as bits: what the program's functions come to, in plain words. numbers either way as bits: what the program's functions come to, in plain words. numbers either way as bits: what the document's functions come to, in plain words. Conditions: none.
-/
import Derived.Test.YtnkegapccacndaaGreatDoorKPA
import Derived.Test.YtnkegapccacndaaGreatDoorKED
set_option linter.unusedVariables false
set_option linter.unusedSimpArgs false
set_option linter.unnecessarySimpa false
set_option maxRecDepth 4000
namespace Go.Proofs.Y
open Go.Rb Go.Kx
noncomputable def z7O : Code := zl Tryz.f82
noncomputable def z7P : FuncId → Option GS := tabG [(78, Yu), (107, VT), (115, z7N), (116, zfB)]
theorem zgr : ΓOK Tryz.prog z7P := z8 (Yg) (z8 (Vw) (z8 (zbX) (z8 (zhX) (zg))))
def z7Q : HT := ⟨tabL [], tabH [(15, [.frzq 3 0 0, .frzq 3 0 1, .frzq 3 0 2, .frzq 3 0 3, .frzq 3 0 4, .frzq 3 0 5, .frzq 3 0 6, .frzq 3 0 7, .pack 3 0 (.cons (.sl 126 (.cons (.int .i64) (.cons (.int .i64) (.cons (.int .i64) (.one (.sl 4 (.one .bool))))))) (.one (.sl 73 (.cons (.int .i64) (.one (.int .i64))))))])]⟩
abbrev z1q : List IT := [.v (.one (.sl 95 (.cons (.sl 126 (.cons (.int .i64) (.cons (.int .i64) (.cons (.int .i64) (.one (.sl 4 (.one .bool))))))) (.one (.sl 73 (.cons (.int .i64) (.one (.int .i64)))))))) true, .v (.one (.int .i64)) false, .v (.one (.int .i64)) false]
abbrev z6m : List OT := [⟨.one (.sl 95 (.cons (.sl 126 (.cons (.int .i64) (.cons (.int .i64) (.cons (.int .i64) (.one (.sl 4 (.one .bool))))))) (.one (.sl 73 (.cons (.int .i64) (.one (.int .i64))))))), true, []⟩, ⟨.one (.int .i64), false, []⟩]
set_option maxRecDepth 100000
noncomputable def Vg : List (List (Int × Int × Int × List Bool) × List (Int × Int)) → Int → Int → Option (List (List (Int × Int × Int × List Bool) × List (Int × Int)) × Int) := fun a b c => z6 (yn a) fun y => ifB (neI y 0) (some ([], y)) (ifB (ltI b 0) (some ([], 5)) (ifB (geI b (lenI a)) (some ([], 5)) (z6 (Ya a) fun y => z6 (four y) fun (y : (List (Int × Int × Int × List Bool) × List (Int × Int)) × (List (Int × Int × Int × List Bool) × List (Int × Int)) × (List (Int × Int × Int × List Bool) × List (Int × Int)) × List (Int × Int × Int × List Bool) × List (Int × Int)) => z6 (Z2 y.1.1) fun y_1 => z6 (Zf y.1.2) fun y_2 => zk maxR (fun (x : Int × List (Int × Int × Int × List Bool)) => ifB (ltI x.1 (lenI y.1.1)) (z6 (atI y.1.1 x.1) fun y => z6 (zJ (y.1, y.2.1, y.2.2.1, y.2.2.2)) fun y => ifB (ltL x.1 x.2) (z6 (atN x.2 (natI x.1)) fun y_3 => some (Sum.inl (wadd .i64 x.1 1, setN x.2 (natI x.1) (y.1, y.2.1, y.2.2.1, y.2.2.2)))) none) (mapO Sum.inr (z6 (Z2 y.2.1.1) fun y_3 => z6 (Zf y.2.1.2) fun y_4 => zk maxR (fun (x_1 : Int × List (Int × Int × Int × List Bool)) => ifB (ltI x_1.1 (lenI y.2.1.1)) (z6 (atI y.2.1.1 x_1.1) fun y => z6 (zJ (y.1, y.2.1, y.2.2.1, y.2.2.2)) fun y => ifB (ltL x_1.1 x_1.2) (z6 (atN x_1.2 (natI x_1.1)) fun y_5 => some (Sum.inl (wadd .i64 x_1.1 1, setN x_1.2 (natI x_1.1) (y.1, y.2.1, y.2.2.1, y.2.2.2)))) none) (mapO Sum.inr (z6 (Z2 y.2.2.1.1) fun y_5 => z6 (Zf y.2.2.1.2) fun y_6 => zk maxR (fun (x_2 : Int × List (Int × Int × Int × List Bool)) => ifB (ltI x_2.1 (lenI y.2.2.1.1)) (z6 (atI y.2.2.1.1 x_2.1) fun y => z6 (zJ (y.1, y.2.1, y.2.2.1, y.2.2.2)) fun y => ifB (ltL x_2.1 x_2.2) (z6 (atN x_2.2 (natI x_2.1)) fun y_7 => some (Sum.inl (wadd .i64 x_2.1 1, setN x_2.2 (natI x_2.1) (y.1, y.2.1, y.2.2.1, y.2.2.2)))) none) (mapO Sum.inr (z6 (Z2 y.2.2.2.1) fun y_7 => z6 (Zf y.2.2.2.2) fun y_8 => zk maxR (fun (x_3 : Int × List (Int × Int × Int × List Bool)) => ifB (ltI x_3.1 (lenI y.2.2.2.1)) (z6 (atI y.2.2.2.1 x_3.1) fun y => z6 (zJ (y.1, y.2.1, y.2.2.1, y.2.2.2)) fun y => ifB (ltL x_3.1 x_3.2) (z6 (atN x_3.2 (natI x_3.1)) fun y_9 => some (Sum.inl (wadd .i64 x_3.1 1, setN x_3.2 (natI x_3.1) (y.1, y.2.1, y.2.2.1, y.2.2.2)))) none) (mapO Sum.inr (ifB (eqI b 0) (ifB (ltI c 0) (some ([], 3)) (ifB (geI c (wsub .i64 (lenI x.2) 1)) (some ([], 3)) (ifB (ltL c x.2) (z6 (atN x.2 (natI c)) fun y => ifB (ltL (wadd .i64 c 1) x.2) (z6 (atN x.2 (natI (wadd .i64 c 1))) fun y_9 => z6 (yQ (y.1, y.2.1, y.2.2.1, y.2.2.2) (y_9.1, y_9.2.1, y_9.2.2.1, y_9.2.2.2)) fun y => ifB (neI y.2 0) (some ([], y.2)) (ifB (ltL c x.2) (z6 (atN x.2 (natI c)) fun y_10 => z6 (vp (setN x.2 (natI c) (y.1.1, y.1.2.1, y.1.2.2.1, y.1.2.2.2)) (wadd .i64 c 1) (wadd .i64 c 2)) fun y => some ([(y, y_2), (x_1.2, y_4), (x_2.2, y_6), (x_3.2, y_8)], 0)) none)) none) none))) (ifB (eqI b 1) (ifB (ltI c 0) (some ([], 3)) (ifB (geI c (wsub .i64 (lenI x_1.2) 1)) (some ([], 3)) (ifB (ltL c x_1.2) (z6 (atN x_1.2 (natI c)) fun y => ifB (ltL (wadd .i64 c 1) x_1.2) (z6 (atN x_1.2 (natI (wadd .i64 c 1))) fun y_9 => z6 (yQ (y.1, y.2.1, y.2.2.1, y.2.2.2) (y_9.1, y_9.2.1, y_9.2.2.1, y_9.2.2.2)) fun y => ifB (neI y.2 0) (some ([], y.2)) (ifB (ltL c x_1.2) (z6 (atN x_1.2 (natI c)) fun y_10 => z6 (vp (setN x_1.2 (natI c) (y.1.1, y.1.2.1, y.1.2.2.1, y.1.2.2.2)) (wadd .i64 c 1) (wadd .i64 c 2)) fun y => some ([(x.2, y_2), (y, y_4), (x_2.2, y_6), (x_3.2, y_8)], 0)) none)) none) none))) (ifB (eqI b 2) (ifB (ltI c 0) (some ([], 3)) (ifB (geI c (wsub .i64 (lenI x_2.2) 1)) (some ([], 3)) (ifB (ltL c x_2.2) (z6 (atN x_2.2 (natI c)) fun y => ifB (ltL (wadd .i64 c 1) x_2.2) (z6 (atN x_2.2 (natI (wadd .i64 c 1))) fun y_9 => z6 (yQ (y.1, y.2.1, y.2.2.1, y.2.2.2) (y_9.1, y_9.2.1, y_9.2.2.1, y_9.2.2.2)) fun y => ifB (neI y.2 0) (some ([], y.2)) (ifB (ltL c x_2.2) (z6 (atN x_2.2 (natI c)) fun y_10 => z6 (vp (setN x_2.2 (natI c) (y.1.1, y.1.2.1, y.1.2.2.1, y.1.2.2.2)) (wadd .i64 c 1) (wadd .i64 c 2)) fun y => some ([(x.2, y_2), (x_1.2, y_4), (y, y_6), (x_3.2, y_8)], 0)) none)) none) none))) (ifB (eqI b 3) (ifB (ltI c 0) (some ([], 3)) (ifB (geI c (wsub .i64 (lenI x_3.2) 1)) (some ([], 3)) (ifB (ltL c x_3.2) (z6 (atN x_3.2 (natI c)) fun y => ifB (ltL (wadd .i64 c 1) x_3.2) (z6 (atN x_3.2 (natI (wadd .i64 c 1))) fun y_9 => z6 (yQ (y.1, y.2.1, y.2.2.1, y.2.2.2) (y_9.1, y_9.2.1, y_9.2.2.1, y_9.2.2.2)) fun y => ifB (neI y.2 0) (some ([], y.2)) (ifB (ltL c x_3.2) (z6 (atN x_3.2 (natI c)) fun y_10 => z6 (vp (setN x_3.2 (natI c) (y.1.1, y.1.2.1, y.1.2.2.1, y.1.2.2.2)) (wadd .i64 c 1) (wadd .i64 c 2)) fun y => some ([(x.2, y_2), (x_1.2, y_4), (x_2.2, y_6), (y, y_8)], 0)) none)) none) none))) none)))))) (0, y_7)))) (0, y_5)))) (0, y_3)))) (0, y_1))))
theorem zbY (x : PI z1q) : Vg (x.1) (x.2.1) (x.2.2) = fnE T z7P z7Q z7O (zu Tryz.f82) z1q z6m x := by kernel_rfl
noncomputable abbrev z7R : GS := zt false z1q z6m fun x => Vg (x.1) (x.2.1) (x.2.2)
theorem zbZ : GSOK Tryz.prog 82 z7R := zm tok zgr fmo (Ht := z7Q) (fn := Tryz.f82) (Tryz.func82) (c := z7O) (by kernel_rfl) (by kernel_rfl) (by kernel_rfl) (by decide +kernel) (by decide) zbY
end Go.Proofs.Y
namespace Go.Proofs.Y
open Go.Rb Go.Kx
noncomputable def z6n : Code := zl Tryz.f118
noncomputable def z6o : FuncId → Option GS := tabG []
theorem zev : ΓOK Tryz.prog z6o := zg
def z6p : HT := ⟨tabL [], tabH []⟩
noncomputable def jp : GS := inl T z6o z6p z6n (zu Tryz.f118) (Tryz.f118.ntmps)
theorem J0 : GSOK Tryz.prog 118 jp := Yo tok zev fmo (Ht := z6p) (fn := Tryz.f118) (Tryz.func118) (c := z6n) (by kernel_rfl) (by kernel_rfl) (by kernel_rfl)
end Go.Proofs.Y
namespace Go.Proofs.Y
open Go.Rb Go.Kx
noncomputable def z94 : Code := zl Tryz.f147
noncomputable def z95 : FuncId → Option GS := tabG [(118, jp)]
theorem zhY : ΓOK Tryz.prog z95 := z8 (J0) (zg)
def z96 : HT := ⟨tabL [(2, .it [] (dyn [.t 8 (.int .i64)]))], tabH []⟩
noncomputable def z97 : GS := inl T z95 z96 z94 (zu Tryz.f147) (Tryz.f147.ntmps)
theorem zda : GSOK Tryz.prog 147 z97 := Yo tok zhY fmo (Ht := z96) (fn := Tryz.f147) (Tryz.func147) (c := z94) (by kernel_rfl) (by kernel_rfl) (by kernel_rfl)
end Go.Proofs.Y
namespace Go.Proofs.Y
open Go.Rb Go.Kx
noncomputable def z7S : Code := zl Tryz.f117
noncomputable def z7T : FuncId → Option GS := tabG [(147, z97), (118, jp)]
theorem zgs : ΓOK Tryz.prog z7T := z8 (zda) (z8 (J0) (zg))
def z7U : HT := ⟨tabL [(5, .it [] (dyn [.t 5 (.int .i64), .t 6 (.int .i64), .a 0 126 (.cons (.int .i64) (.cons (.int .i64) (.cons (.int .i64) (.one (.sl 4 (.one .bool))))))]))], tabH [(5, [.touch 0])]⟩
abbrev z1r : List WA := [.f 118 (.one (.int .i64))]
abbrev z6q : List OT := [⟨.one (.sl 126 (.cons (.int .i64) (.cons (.int .i64) (.cons (.int .i64) (.one (.sl 4 (.one .bool))))))), false, []⟩]
set_option maxRecDepth 100000
noncomputable def Yb : List (Int × Int × Int × List Bool) → Int → Option (List (Int × Int × Int × List Bool)) := fun a b => zk maxR (fun (x : Int) => ifB (ltI x (lenI a)) (ifB (ltL x a) (z6 (atN a (natI x)) fun y => ifB (ltI y.2.2.1 b) (mapO Sum.inr (ifB (eqI x (-1)) (some a) (zk maxR (fun (x : Int × Int × List (Int × Int × Int × List Bool)) => ifB (ltI x.2.1 (lenI x.2.2)) (ifB (ltL x.2.1 x.2.2) (z6 (atN x.2.2 (natI x.2.1)) fun y => ifB (notB (ltI y.2.2.1 b)) (ifB (ltL x.1 x.2.2) (z6 (atN x.2.2 (natI x.1)) fun y_1 => some (Sum.inl (wadd .i64 x.1 1, wadd .i64 x.2.1 1, setN x.2.2 (natI x.1) (y.1, y.2.1, y.2.2.1, y.2.2.2)))) none) (some (Sum.inl (x.1, wadd .i64 x.2.1 1, x.2.2)))) none) (mapO Sum.inr (ifB (in1 x.2.2 x.1) (ifB (inN x.2.2 (addN 0 (natI x.1)) (ZB (lenN x.2.2) x.1)) (ifB (in1 (zN x.2.2 (addN 0 (natI x.1)) (repN (ZB (lenN x.2.2) x.1) (0, 0, 0, []))) x.1) (ifB (inN (zN x.2.2 (addN 0 (natI x.1)) (repN (ZB (lenN x.2.2) x.1) (0, 0, 0, []))) 0 (natI x.1)) (some (subN (zN x.2.2 (addN 0 (natI x.1)) (repN (ZB (lenN x.2.2) x.1) (0, 0, 0, []))) 0 (natI x.1))) none) none) none) none))) (x, wadd .i64 x 1, a)))) (some (Sum.inl (wadd .i64 x 1)))) none) (mapO Sum.inr (some a))) 0
theorem zc0 (rows : List (DenR (.cons (.int .i64) (.cons (.int .i64) (.cons (.int .i64) (.one (.sl 4 (.one .bool)))))))) (x : PW z1r) : Yb rows (x.1) = fnM T z7T z7U z7S (zu Tryz.f117) 126 (.cons (.int .i64) (.cons (.int .i64) (.cons (.int .i64) (.one (.sl 4 (.one .bool)))))) z1r z6q rows x := by kernel_rfl
noncomputable abbrev z7V : GS := zm5 126 (.cons (.int .i64) (.cons (.int .i64) (.cons (.int .i64) (.one (.sl 4 (.one .bool)))))) z1r z6q fun rows x => Yb rows (x.1)
theorem zc1 : GSOK Tryz.prog 117 z7V := zku tok zgs fmo (Ht := z7U) (fn := Tryz.f117) (Tryz.func117) (c := z7S) (by kernel_rfl) (by kernel_rfl) (by kernel_rfl) (by decide +kernel) (by decide) zc0
end Go.Proofs.Y
namespace Go.Proofs.Y
open Go.Rb Go.Kx
noncomputable def z98 : Code := zl Tryz.f83
noncomputable def z99 : FuncId → Option GS := tabG [(78, Yu), (107, VT), (118, jp), (117, z7V)]
theorem zhZ : ΓOK Tryz.prog z99 := z8 (Yg) (z8 (Vw) (z8 (J0) (z8 (zc1) (zg))))
def z9a : HT := ⟨tabL [(8, .unroll 5)], tabH [(7, [.frzb 3 (.one (.int .i64))]), (12, [.frzq 2 0 0, .frzq 2 0 1, .frzq 2 0 2, .frzq 2 0 3, .frzq 2 0 4, .frzq 2 0 5, .frzq 2 0 6, .frzq 2 0 7, .pack 2 0 (.cons (.sl 126 (.cons (.int .i64) (.cons (.int .i64) (.cons (.int .i64) (.one (.sl 4 (.one .bool))))))) (.one (.sl 73 (.cons (.int .i64) (.one (.int .i64))))))])]⟩
abbrev z2i : List IT := [.v (.one (.sl 95 (.cons (.sl 126 (.cons (.int .i64) (.cons (.int .i64) (.cons (.int .i64) (.one (.sl 4 (.one .bool))))))) (.one (.sl 73 (.cons (.int .i64) (.one (.int .i64)))))))) true, .v (.one (.int .i64)) false]
abbrev z7W : List OT := [⟨.one (.sl 95 (.cons (.sl 126 (.cons (.int .i64) (.cons (.int .i64) (.cons (.int .i64) (.one (.sl 4 (.one .bool))))))) (.one (.sl 73 (.cons (.int .i64) (.one (.int .i64))))))), true, []⟩, ⟨.one (.int .i64), false, []⟩]
set_option maxRecDepth 100000
noncomputable def VV : List (List (Int × Int × Int × List Bool) × List (Int × Int)) → Int → Option (List (List (Int × Int × Int × List Bool) × List (Int × Int)) × Int) := fun a b => z6 (yn a) fun y => ifB (neI y 0) (some ([], y)) (ifB (ltI b 0) (some ([], 3)) (ifB (gtI b 100001) (some ([], 3)) (z6 (Ya a) fun y => z6 (four y) fun (y : (List (Int × Int × Int × List Bool) × List (Int × Int)) × (List (Int × Int × Int × List Bool) × List (Int × Int)) × (List (Int × Int × Int × List Bool) × List (Int × Int)) × List (Int × Int × Int × List Bool) × List (Int × Int)) => z6 (Z2 y.1.1) fun y_1 => z6 (Zf y.1.2) fun y_2 => zk maxR (fun (x : Int × List (Int × Int × Int × List Bool)) => ifB (ltI x.1 (lenI y.1.1)) (z6 (atI y.1.1 x.1) fun y => z6 (zJ (y.1, y.2.1, y.2.2.1, y.2.2.2)) fun y => ifB (ltL x.1 x.2) (z6 (atN x.2 (natI x.1)) fun y_3 => some (Sum.inl (wadd .i64 x.1 1, setN x.2 (natI x.1) (y.1, y.2.1, y.2.2.1, y.2.2.2)))) none) (mapO Sum.inr (z6 (Z2 y.2.1.1) fun y_3 => z6 (Zf y.2.1.2) fun y_4 => zk maxR (fun (x_1 : Int × List (Int × Int × Int × List Bool)) => ifB (ltI x_1.1 (lenI y.2.1.1)) (z6 (atI y.2.1.1 x_1.1) fun y => z6 (zJ (y.1, y.2.1, y.2.2.1, y.2.2.2)) fun y => ifB (ltL x_1.1 x_1.2) (z6 (atN x_1.2 (natI x_1.1)) fun y_5 => some (Sum.inl (wadd .i64 x_1.1 1, setN x_1.2 (natI x_1.1) (y.1, y.2.1, y.2.2.1, y.2.2.2)))) none) (mapO Sum.inr (z6 (Z2 y.2.2.1.1) fun y_5 => z6 (Zf y.2.2.1.2) fun y_6 => zk maxR (fun (x_2 : Int × List (Int × Int × Int × List Bool)) => ifB (ltI x_2.1 (lenI y.2.2.1.1)) (z6 (atI y.2.2.1.1 x_2.1) fun y => z6 (zJ (y.1, y.2.1, y.2.2.1, y.2.2.2)) fun y => ifB (ltL x_2.1 x_2.2) (z6 (atN x_2.2 (natI x_2.1)) fun y_7 => some (Sum.inl (wadd .i64 x_2.1 1, setN x_2.2 (natI x_2.1) (y.1, y.2.1, y.2.2.1, y.2.2.2)))) none) (mapO Sum.inr (z6 (Z2 y.2.2.2.1) fun y_7 => z6 (Zf y.2.2.2.2) fun y_8 => zk maxR (fun (x_3 : Int × List (Int × Int × Int × List Bool)) => ifB (ltI x_3.1 (lenI y.2.2.2.1)) (z6 (atI y.2.2.2.1 x_3.1) fun y => z6 (zJ (y.1, y.2.1, y.2.2.1, y.2.2.2)) fun y => ifB (ltL x_3.1 x_3.2) (z6 (atN x_3.2 (natI x_3.1)) fun y_9 => some (Sum.inl (wadd .i64 x_3.1 1, setN x_3.2 (natI x_3.1) (y.1, y.2.1, y.2.2.1, y.2.2.2)))) none) (mapO Sum.inr (z6 (Yb x.2 b) fun y => z6 (Yb x_1.2 b) fun y_9 => z6 (Yb x_2.2 b) fun y_10 => z6 (Yb x_3.2 b) fun y_11 => some ([(y, y_2), (y_9, y_4), (y_10, y_6), (y_11, y_8)], 0)))) (0, y_7)))) (0, y_5)))) (0, y_3)))) (0, y_1))))
theorem zdb (x : PI z2i) : VV (x.1) (x.2) = fnE T z99 z9a z98 (zu Tryz.f83) z2i z7W x := by kernel_rfl
noncomputable abbrev z9b : GS := zt false z2i z7W fun x => VV (x.1) (x.2)
theorem zdc : GSOK Tryz.prog 83 z9b := zm tok zhZ fmo (Ht := z9a) (fn := Tryz.f83) (Tryz.func83) (c := z98) (by kernel_rfl) (by kernel_rfl) (by kernel_rfl) (by decide +kernel) (by decide) zdb
end Go.Proofs.Y
namespace Go.Proofs.Y
open Go.Rb Go.Kx
noncomputable def z9c : Code := zl Tryz.f31
noncomputable def z9d : FuncId → Option GS := tabG [(78, Yu), (79, z0u), (80, zba), (81, z93), (82, z7R), (83, z9b)]
theorem zi0 : ΓOK Tryz.prog z9d := z8 (Yg) (z8 (z0v) (z8 (zes) (z8 (zd7) (z8 (zbZ) (z8 (zdc) (zg))))))
def z9e : HT := ⟨tabL [], tabH []⟩
abbrev z2j : List IT := [.v (.one (.sl 95 (.cons (.sl 126 (.cons (.int .i64) (.cons (.int .i64) (.cons (.int .i64) (.one (.sl 4 (.one .bool))))))) (.one (.sl 73 (.cons (.int .i64) (.one (.int .i64)))))))) true, .v (.cons (.int .i64) (.cons (.int .i64) (.cons (.int .i64) (.one (.sl 77 (.cons (.int .i64) (.cons (.int .i64) (.one (.int .i64))))))))) true]
abbrev z7X : List OT := [⟨.one (.sl 95 (.cons (.sl 126 (.cons (.int .i64) (.cons (.int .i64) (.cons (.int .i64) (.one (.sl 4 (.one .bool))))))) (.one (.sl 73 (.cons (.int .i64) (.one (.int .i64))))))), true, []⟩, ⟨.one (.int .i64), false, []⟩]
set_option maxRecDepth 100000
noncomputable def yi : List (List (Int × Int × Int × List Bool) × List (Int × Int)) → Int × Int × Int × List (Int × Int × Int) → Option (List (List (Int × Int × Int × List Bool) × List (Int × Int)) × Int) := fun a b => z6 (yn a) fun y => ifB (neI y 0) (some ([], y)) (z6 (Z7 (b.1, b.2.1, b.2.2.1, b.2.2.2)) fun y => ifB (neI y 0) (some ([], y)) (ifB (eqI b.1 1) (z6 (Jk a b.2.2.2) fun y => some (y.1, y.2)) (ifB (eqI b.1 2) (z6 (VU a b.2.1 b.2.2.1) fun y => some (y.1, y.2)) (ifB (eqI b.1 3) (z6 (Vg a b.2.1 b.2.2.1) fun y => some (y.1, y.2)) (z6 (VV a b.2.2.1) fun y => some (y.1, y.2))))))
theorem zdd (x : PI z2j) : yi (x.1) (x.2) = fnE T z9d z9e z9c (zu Tryz.f31) z2j z7X x := by kernel_rfl
noncomputable abbrev z3X : GS := zt false z2j z7X fun x => yi (x.1) (x.2)
theorem z55 : GSOK Tryz.prog 31 z3X := zm tok zi0 fmo (Ht := z9e) (fn := Tryz.f31) (Tryz.func31) (c := z9c) (by kernel_rfl) (by kernel_rfl) (by kernel_rfl) (by decide +kernel) (by decide) zdd
end Go.Proofs.Y
namespace Go.Proofs.Y
open Go.Rb Go.Kx
noncomputable def zbh : Code := zl Tryz.f75
noncomputable def zbi : FuncId → Option GS := tabG []
theorem zjH : ΓOK Tryz.prog zbi := zg
def zbj : HT := ⟨tabL [], tabH []⟩
abbrev z3Y : List IT := []
abbrev z9f : List OT := [⟨.one (.sl 95 (.cons (.sl 126 (.cons (.int .i64) (.cons (.int .i64) (.cons (.int .i64) (.one (.sl 4 (.one .bool))))))) (.one (.sl 73 (.cons (.int .i64) (.one (.int .i64))))))), true, []⟩]
set_option maxRecDepth 100000
noncomputable def yK : Option (List (List (Int × Int × Int × List Bool) × List (Int × Int))) := ifB (z2U 48 4) (some (repI 4 ([], []))) none
theorem zew (x : PI z3Y) : yK  = fnE T zbi zbj zbh (zu Tryz.f75) z3Y z9f x := by kernel_rfl
noncomputable abbrev Jm : GS := zt false z3Y z9f fun x => yK 
theorem jq : GSOK Tryz.prog 75 Jm := zm tok zjH fmo (Ht := zbj) (fn := Tryz.f75) (Tryz.func75) (c := zbh) (by kernel_rfl) (by kernel_rfl) (by kernel_rfl) (by decide +kernel) (by decide) zew
end Go.Proofs.Y
namespace Go.Proofs.Y
open Go.Rb Go.Kx
noncomputable def z6r : Code := zl Tryz.f28
noncomputable def z6s : FuncId → Option GS := tabG [(75, Jm), (31, z3X)]
theorem zex : ΓOK Tryz.prog z6s := z8 (jq) (z8 (z55) (zg))
def z6t : HT := ⟨tabL [(5, .it [] (dyn [.t 15 (.int .i64), .c 2 0 (.sl 95 (.cons (.sl 126 (.cons (.int .i64) (.cons (.int .i64) (.cons (.int .i64) (.one (.sl 4 (.one .bool))))))) (.one (.sl 73 (.cons (.int .i64) (.one (.int .i64))))))), .c 4 0 (.sl 95 (.cons (.sl 126 (.cons (.int .i64) (.cons (.int .i64) (.cons (.int .i64) (.one (.sl 4 (.one .bool))))))) (.one (.sl 73 (.cons (.int .i64) (.one (.int .i64)))))))]))], tabH []⟩
abbrev z0Q : List IT := [.v (.one (.sl 52 (.cons (.int .i64) (.cons (.int .i64) (.cons (.int .i64) (.one (.sl 77 (.cons (.int .i64) (.cons (.int .i64) (.one (.int .i64))))))))))) false]
abbrev z56 : List OT := [⟨.one (.sl 95 (.cons (.sl 126 (.cons (.int .i64) (.cons (.int .i64) (.cons (.int .i64) (.one (.sl 4 (.one .bool))))))) (.one (.sl 73 (.cons (.int .i64) (.one (.int .i64))))))), true, []⟩, ⟨.one (.int .i64), false, []⟩]
set_option maxRecDepth 100000
noncomputable def ZS : List (Int × Int × Int × List (Int × Int × Int)) → Option (List (List (Int × Int × Int × List Bool) × List (Int × Int)) × Int) := fun a => ifB (gtI (lenI a) 60) (some ([], 2)) (z6 yK fun y => zk maxR (fun (x : Int × List (List (Int × Int × Int × List Bool) × List (Int × Int)) × List (List (Int × Int × Int × List Bool) × List (Int × Int))) => ifB (ltI x.1 (lenI a)) (z6 (atI a x.1) fun y => z6 (yi x.2.2 (y.1, y.2.1, y.2.2.1, y.2.2.2)) fun y => ifB (neI y.2 0) (mapO Sum.inr (some ([], y.2))) (some (Sum.inl (wadd .i64 x.1 1, x.2.1, y.1)))) (mapO Sum.inr (some (x.2.2, 0)))) (0, [], y))
theorem zaF (x : PI z0Q) : ZS x = fnE T z6s z6t z6r (zu Tryz.f28) z0Q z56 x := by kernel_rfl
noncomputable abbrev jr : GS := zt false z0Q z56 fun x => ZS x
theorem J1 : GSOK Tryz.prog 28 jr := zm tok zex fmo (Ht := z6t) (fn := Tryz.f28) (Tryz.func28) (c := z6r) (by kernel_rfl) (by kernel_rfl) (by kernel_rfl) (by decide +kernel) (by decide) zaF
end Go.Proofs.Y
namespace Go.Rb
abbrev Pt := Int × Int
abbrev Pt.t (p : Pt) : Int := Prod.fst p
abbrev Pt.v (p : Pt) : Int := Prod.snd p
abbrev Bk := Int × Int × Int × List Bool
abbrev Bk.n (b : Bk) : Int := Prod.fst b
abbrev Bk.fr (b : Bk) : Int := Prod.fst (Prod.snd b)
abbrev Bk.to (b : Bk) : Int := Prod.fst (Prod.snd (Prod.snd b))
abbrev Bk.bits (b : Bk) : List Bool := Prod.snd (Prod.snd (Prod.snd b))
abbrev Rowd := List Bk × List Pt
abbrev Rowd.blocks (r : Rowd) : List Bk := Prod.fst r
abbrev Rowd.head (r : Rowd) : List Pt := Prod.snd r
abbrev Shf := List Rowd
abbrev Ent := Int × Int × Int
abbrev Rc := Int × Int × Int × List Ent
def zr3 (n : Int) : Prop := -9223372036854775808 ≤ n ∧ n ≤ 9223372036854775807
theorem z0R {n : Int} (h1 : -9223372036854775808 ≤ n) (h2 : n ≤ 9223372036854775807) : IntKind.wrap .i64 n = n := by rw [IntKind.wrap_i64]; omega
theorem z57 {α : Type} [Inhabited α] {l : List α} {i : Nat} (h : i < l.length) : l.take (i + 1) = l.take i ++ [l.getD i default] := by
 rw [List.take_succ_eq_append_getElem h]; simp [List.getD, List.getElem?_eq_getElem h]
end Go.Rb
namespace Go.Kx
open Go.Rb
/-! ### Tests -/
theorem Zi {α : Type} (x y : α) : ifB true x y = x := rfl
theorem Zv {α : Type} (x y : α) : ifB false x y = y := rfl
theorem Zq {α : Type} (b : Bool) (x : α) : ifB b x x = x := by cases b <;> rfl
theorem z6u {α : Type} (b : Bool) (x y : α) : ifB b x y = if b = true then x else y := by cases b <;> rfl
theorem zL {α : Type} (p : Prop) [Decidable p] (x y : α) : ifB (decide p) x y = if p then x else y := by by_cases h : p <;> simp [ifB, h]
theorem zh {α : Type} (a b : Int) (x y : α) : ifB (ltI a b) x y = if a < b then x else y := zL _ _ _
theorem Zo {α : Type} (a b : Int) (x y : α) : ifB (leI a b) x y = if a ≤ b then x else y := zL _ _ _
theorem zx {α : Type} (a b : Int) (x y : α) : ifB (gtI a b) x y = if b < a then x else y := zL _ _ _
theorem zT {α : Type} (a b : Int) (x y : α) : ifB (geI a b) x y = if b ≤ a then x else y := zL _ _ _
theorem zf {α : Type} (a b : Int) (x y : α) : ifB (eqI a b) x y = if a = b then x else y := by
 rw [z6u]; simp only [eqI, beq_iff_eq]
theorem zi {α : Type} (a b : Int) (x y : α) : ifB (neI a b) x y = if a = b then y else x := by
 rw [z6u]; simp only [neI, bne_iff_ne, ne_eq, ite_not]
theorem zB {α : Type} (b : Bool) (x y : α) : ifB (notB b) x y = ifB b y x := by cases b <;> rfl
theorem Zw {α : Type} (a b : Bool) (x y : α) : ifB (ifB a b false) x y = ifB a (ifB b x y) y := by cases a <;> rfl
theorem ZF {α : Type} (a b : Bool) (x y : α) : ifB (eqB a b) x y = if a = b then x else y := by
 rw [z6u]; simp only [eqB, beq_iff_eq]
theorem ZL {α β : Type} (l : List β) (x y : α) : ifB (isE l) x y = if l = [] then x else y := by cases l <;> rfl
theorem zD {α β : Type} (l : List β) (a : Int) (x y : α) : ifB (in1 l a) x y = if 0 ≤ a ∧ a ≤ l.length then x else y := by rw [in1, ← Bool.decide_and]; exact zL _ _ _
theorem Zx {α β : Type} (l : List β) (a b : Int) (x y : α) : ifB (in2 l a b) x y = if 0 ≤ a ∧ a ≤ b ∧ b ≤ l.length then x else y := by rw [in2, ← Bool.decide_and, ← Bool.decide_and]; exact zL _ _ _
theorem Zr {α : Type} (c : Nat) (a : Int) (x y : α) : ifB (in1N c a) x y = if 0 ≤ a ∧ a ≤ c then x else y := by rw [in1N, ← Bool.decide_and]; exact zL _ _ _
theorem Zs {α : Type} (c : Nat) (a b : Int) (x y : α) : ifB (in2N c a b) x y = if 0 ≤ a ∧ a ≤ b ∧ b ≤ c then x else y := by rw [in2N, ← Bool.decide_and, ← Bool.decide_and]; exact zL _ _ _
theorem Zt {α : Type} (n c : Nat) (a : Int) (x y : α) : ifB (in1C n c a) x y = if 0 ≤ a ∧ a ≤ (max n c : Nat) then x else y := by rw [in1C, ← Bool.decide_and]; exact zL _ _ _
theorem Zj {α : Type} (n c : Nat) (a b : Int) (x y : α) : ifB (in2C n c a b) x y = if 0 ≤ a ∧ a ≤ b ∧ b ≤ (max n c : Nat) then x else y := by rw [in2C, ← Bool.decide_and, ← Bool.decide_and]; exact zL _ _ _
theorem Z6 {α β : Type} (l : List β) (o n : Nat) (x y : α) : ifB (inN l o n) x y = if o + n ≤ l.length then x else y := zL _ _ _
theorem zH {α β : Type} (n : Int) (l : List β) (x y : α) : ifB (ltL n l) x y = if 0 ≤ n ∧ n < l.length then x else y := by rw [ltL, ← Bool.decide_and]; exact zL _ _ _
theorem ZM {α : Type} (n : Int) (c : Nat) (x y : α) : ifB (ltN n c) x y = if 0 ≤ n ∧ n < c then x else y := by rw [ltN, ← Bool.decide_and]; exact zL _ _ _
theorem zz {α β : Type} (n : Nat) (a b : List β) (x y : α) : ifB (ze n a b) x y = if (a.length + b.length + (a.length + b.length) / 4 + 192) * n ≤ 281474976710656 ∧ a.length + b.length ≤ 9223372036854775807 then x else y := by rw [ze, ← Bool.decide_and]; exact zL _ _ _
theorem Z3 {α : Type} (b : Nat) (n : Int) (x y : α) : ifB (z2U b n) x y = if 0 ≤ n ∧ n * b ≤ 140737488355328 ∧ n ≤ 9223372036854775807 then x else y := by rw [z2U, ← Bool.decide_and, ← Bool.decide_and]; exact zL _ _ _
theorem Z8 {α : Type} (b : Nat) (n : Int) (x y : α) : ifB (z0n b n) x y = if 1 ≤ n ∧ n * b ≤ 140737488355328 ∧ n ≤ 9223372036854775807 then x else y := by rw [z0n, ← Bool.decide_and, ← Bool.decide_and]; exact zL _ _ _
theorem Z4 {α : Type} (a b : List UInt8) (x y : α) : ifB (Jv a b) x y = if (a.length : Int) + b.length ≤ 9223372036854775807 then x else y := zL _ _ _
theorem Zp {α : Type} (a b : List UInt8) (x y : α) : ifB (eqS a b) x y = if a = b then x else y := by
 rw [z6u]; simp only [eqS, beq_iff_eq]
theorem ZN {α : Type} (a b : List Int) (x y : α) : ifB (eqL a b) x y = if a = b then x else y := zL _ _ _
theorem Zk {α β : Type} (n : Nat) (l : List β) (c : Nat) (x y : α) : ifB (fits n l c) x y = if l = [] ∨ n + l.length ≤ c then x else y := by
 cases l with
 | nil => simp [ifB, fits]
 | cons a l => rw [fits]; simp only [List.isEmpty_cons, Bool.false_or, zL, reduceCtorEq, false_or]
theorem z7 {α β : Type} (a : α) (f : α → Option β) : z6 (some a) f = f a := rfl
theorem zZ {α β : Type} (f : α → Option β) : z6 none f = none := rfl
theorem Zd {α β : Type} (a : α) (f : α → β) : mapO f (some a) = some (f a) := rfl
theorem Ze {α β : Type} (f : α → β) : mapO f none = none := rfl
theorem zmE {α : Type} (a : Option α) : ambO a a = a := by simp [ambO]
theorem zb {α : Type} (l : List α) : lenI l = (l.length : Int) := rfl
theorem ZG {α : Type} (l : List α) : lenN l = l.length := rfl
theorem zY {α : Type} (a b : List α) : cat a b = a ++ b := rfl
theorem zS {α : Type} (a : List α) (b : Int) : vc a b = a.take b.toNat := rfl
theorem Z1 {α : Type} (a : List α) (b : Int) : yb a b = a.drop b.toNat := rfl
theorem ZO {α : Type} (l : List α) (a b : Int) : sliI l a b = (l.take b.toNat).drop a.toNat := rfl
theorem Zl {α : Type} (l : List α) (n : Nat) (a : α) : setN l n a = l.set n a := rfl
theorem zM (a : Int) : natI a = a.toNat := rfl
theorem Zy (a : Nat) : intN a = (a : Int) := rfl
theorem zK {α : Type} [Inhabited α] {l : List α} {j : Nat} (h : j < l.length) : atI l (j : Int) = some (l.getD j default) := by
 rw [atI, if_pos (by omega), Int.toNat_natCast, List.getElem?_eq_getElem h]; simp [List.getD, List.getElem?_eq_getElem h]
theorem zkD {α : Type} [Inhabited α] {l : List α} {j : Int} (h0 : 0 ≤ j) (h : j < l.length) : atI l j = some (l.getD j.toNat default) := by
 obtain ⟨k, rfl⟩ : ∃ k : Nat, j = k := ⟨j.toNat, by omega⟩
 exact zK (by omega)
theorem yV {α : Type} [Inhabited α] {l : List α} {j : Nat} (h : j < l.length) : atN l j = some (l.getD j default) := by
 rw [atN, List.getElem?_eq_getElem h]; simp [List.getD, List.getElem?_eq_getElem h]
theorem ZP {a b : Int} (h : -9223372036854775808 ≤ a + b ∧ a + b ≤ 9223372036854775807) : wadd .i64 a b = a + b := z0R h.1 h.2
theorem Zz {a b : Int} (h : -9223372036854775808 ≤ a - b ∧ a - b ≤ 9223372036854775807) : wsub .i64 a b = a - b := z0R h.1 h.2
theorem YN {a b : Int} (h : -9223372036854775808 ≤ a * b ∧ a * b ≤ 9223372036854775807) : wmul .i64 a b = a * b := z0R h.1 h.2
theorem zey {a : Int} (h : -9223372036854775808 ≤ 0 - a ∧ 0 - a ≤ 9223372036854775807) : wneg .i64 a = 0 - a := z0R h.1 h.2
theorem zF {j : Nat} (h : (j : Int) < 4611686018427387904) : wadd .i64 (j : Int) 1 = ((j + 1 : Nat) : Int) := by rw [ZP ⟨by omega, by omega⟩]; rfl
/-! ### Loops -/
def yg {α β : Type} (o : Option (Sum β α)) (k : β → Option α) : Option α :=
 match o with
 | none => none
 | some (.inl y) => k y
 | some (.inr a) => some a
theorem zA {α β : Type} (k : β → Option α) : yg none k = none := rfl
theorem zq {α β : Type} (y : β) (k : β → Option α) : yg (some (.inl y)) k = k y := rfl
theorem Z5 {α β : Type} (a : α) (k : β → Option α) : yg (some (.inr a)) k = some a := rfl
theorem zd {α β : Type} (o : Option α) (k : β → Option α) : yg (mapO Sum.inr o) k = o := by cases o <;> rfl
theorem Zu {α β : Type} (p : Prop) [Decidable p] (x y : Option (Sum β α)) (k : β → Option α) : yg (if p then x else y) k = if p then yg x k else yg y k := by split <;> rfl
theorem za {α β : Type} (b : Bool) (x y : Option (Sum β α)) (k : β → Option α) : yg (ifB b x y) k = ifB b (yg x k) (yg y k) := by cases b <;> rfl
theorem zw {α β γ : Type} (o : Option γ) (f : γ → Option (Sum β α)) (k : β → Option α) : yg (z6 o f) k = z6 o fun y => yg (f y) k := by cases o <;> rfl
theorem yB {α β : Type} {f : β → Option (Sum β α)} (G : β → Option α) (P : β → Prop) (μ : β → Nat)
  (h : ∀ x, P x → ∀ k : β → Option α, (∀ y, P y → μ y < μ x → k y = G y) → yg (f x) k = G x) : ∀ (n : Nat) (x : β), P x → μ x < n → zk n f x = G x
 | 0, x, _, hm => absurd hm (Nat.not_lt_zero _)
 | n + 1, x, hp, hm => by
  rw [jh, ← h x hp (zk n f) (fun y hy hl => yB G P μ h n y hy (by omega))]
  cases f x with
  | none => rfl
  | some s => cases s <;> rfl
theorem zR {α β γ σ : Type} [Inhabited γ] (l : List γ) (enc : Nat → σ → β) {f : β → Option (Sum β α)} (G : List γ → σ → Option α) (P : Nat → σ → Prop)
  (hs : ∀ (j : Nat) (s : σ), j < l.length → P j s → ∀ k : β → Option α, (∀ s', P (j + 1) s' → k (enc (j + 1) s') = G (l.drop (j + 1)) s') → yg (f (enc j s)) k = G (l.getD j default :: l.drop (j + 1)) s)
  (he : ∀ s, P l.length s → ∀ k : β → Option α, yg (f (enc l.length s)) k = G [] s) {s0 : σ} (h0 : P 0 s0) (hl : l.length < 9223372036854775808) : zk maxR f (enc 0 s0) = G l s0 := by
 have key : ∀ (d j : Nat) (s : σ) (n : Nat), j + d = l.length → P j s → d < n → zk n f (enc j s) = G (l.drop j) s := by
  intro d
  induction d with
  | zero =>
   intro j s n hj hp hn
   obtain ⟨n, rfl⟩ : ∃ m, n = m + 1 := ⟨n - 1, by omega⟩
   have hj' : j = l.length := by omega
   subst hj'
   rw [List.drop_length, ← he s hp (zk n f), jh]
   cases f (enc l.length s) with
   | none => rfl
   | some q => cases q <;> rfl
  | succ d ih =>
   intro j s n hj hp hn
   obtain ⟨n, rfl⟩ : ∃ m, n = m + 1 := ⟨n - 1, by omega⟩
   have hlt : j < l.length := by omega
   have hd : l.drop j = l.getD j default :: l.drop (j + 1) := by rw [List.drop_eq_getElem_cons hlt]; simp [List.getD, List.getElem?_eq_getElem hlt]
   rw [hd, ← hs j s hlt hp (zk n f) (fun s' hp' => ih (j + 1) s' n (by omega) hp' (by omega)), jh]
   cases f (enc j s) with
   | none => rfl
   | some q => cases q <;> rfl
 have := key l.length 0 s0 maxR (by omega) h0 (by unfold maxR; omega)
 simpa using this
end Go.Kx
namespace Go.Kx
theorem zde {α β : Type} {f : β → Option (Sum β α)} (seq : Nat → β) : ∀ (n m : Nat), (∀ j, j < n → f (seq j) = some (.inl (seq (j + 1)))) → zk (n + 1 + m) f (seq 0) = yg (f (seq n)) (zk m f)
 | 0, m, _ => by
  rw [Nat.zero_add, Nat.add_comm 1 m, jh]
  cases f (seq 0) with
  | none => rfl
  | some q => cases q <;> rfl
 | n + 1, m, h => by
  have h0 := h 0 (by omega)
  have h1 := zde (fun j => seq (j + 1)) n m (fun j hj => h (j + 1) (by omega))
  rw [show n + 1 + 1 + m = (n + 1 + m) + 1 by omega, jh, h0]
  exact h1
end Go.Kx
namespace Go.Kx
theorem zpt {α β : Type} {f : β → Option (Sum β α)} (seq : Nat → β) (n : Nat) {x0 : β} (h0 : x0 = seq 0) (hn : n < 9223372036854775807) (h : ∀ j, j < n → f (seq j) = some (.inl (seq (j + 1)))) : zk maxR f x0 = yg (f (seq n)) (zk (maxR - n - 1) f) := by
 have := zde seq n (maxR - n - 1) h
 rw [show n + 1 + (maxR - n - 1) = maxR by unfold maxR; omega] at this
 rw [h0]
 exact this
end Go.Kx
namespace Go.Rb
open Go.Kx
def Jn (x : Ent) : Prop := x.1 < 0 ∨ 4 ≤ x.1 ∨ x.2.1 < 0 ∨ 100000 < x.2.1 ∨ x.2.2 < -1000000 ∨ 1000000 < x.2.2
instance badEntDec (x : Ent) : Decidable (Jn x) := inferInstanceAs (Decidable (_ ∨ _))
def entE : List Ent → Int
 | [] => 0
 | x :: l => if Jn x then 3 else entE l
def zG (r : Rc) : Int :=
 if r.1 < 1 ∨ 4 < r.1 then 4 else
 if r.1 = 1 then (if ¬ r.2.1 = 0 ∨ ¬ r.2.2.1 = 0 then 4 else if 10 < r.2.2.2.length then 2 else entE r.2.2.2) else
 if 0 < r.2.2.2.length ∨ (r.1 = 4 ∧ ¬ r.2.1 = 0) then 4 else if r.2.1 < 0 ∨ 4 ≤ r.2.1 ∨ r.2.2.1 < 0 ∨ 100001 < r.2.2.1 then 3 else 0
theorem Jo {r : Rc} (h : zG r = 0) : 1 ≤ r.1 ∧ r.1 ≤ 4 ∧ (r.1 = 1 → r.2.1 = 0 ∧ r.2.2.1 = 0 ∧ r.2.2.2.length ≤ 10 ∧ entE r.2.2.2 = 0) ∧ (¬ r.1 = 1 → r.2.2.2 = [] ∧ 0 ≤ r.2.1 ∧ r.2.1 ≤ 3 ∧ 0 ≤ r.2.2.1 ∧ r.2.2.1 ≤ 100001 ∧ (r.1 = 4 → r.2.1 = 0)) := by
 unfold zG at h
 split at h
 ·cases h
 ·rename_i h1
  split at h
  ·rename_i h2
   split at h
   ·cases h
   ·rename_i h3
    split at h
    ·cases h
    ·rename_i h4
     exact ⟨by omega, by omega, fun _ => ⟨by omega, by omega, by omega, h⟩, fun h => absurd h2 h⟩
  ·rename_i h2
   split at h
   ·cases h
   ·rename_i h3
    split at h
    ·cases h
    ·rename_i h4
     refine ⟨by omega, by omega, fun h => absurd h h2, fun _ => ⟨List.eq_nil_of_length_eq_zero (by omega), by omega, by omega, by omega, by omega, fun h5 => ?_⟩⟩
     exact Classical.byContradiction fun h6 => h3 (.inr ⟨h5, h6⟩)
end Go.Rb
namespace Go.Kx
open Go.Rb
theorem z09 {α : Type} (b : Nat) (a : List α) (h : (a.length + a.length / 4 + 192) * b ≤ 281474976710656) (h2 : a.length ≤ 9223372036854775807) :
  ifB (isE a) (ambO (some []) (ifB (ze b [] a) (some (cat [] a)) none)) (ifB (ze b [] a) (some (cat [] a)) none) = some a := by
 simp only [zA, zq, Z5, zd, Zu, zw, Zi, Zv, Zq, zh, Zo, zx, zT, zf, zi, zB, Zw, ZF, ZL, zD, Zx, Zr, Zs, Zt, Zj, Z6, zH, ZM, zz, Z3, Z8, Z4, Zp, ZN, Zk, z7, zZ, Zd, Ze, zb, ZG, zY, zS, Z1, ZO, Zl, zM, Zy, List.length_nil, Nat.zero_add, List.nil_append]
 rw [if_pos (⟨h, h2⟩ : (a.length + a.length / 4 + 192) * b ≤ 281474976710656 ∧ a.length ≤ 9223372036854775807)]
 split
 ·rename_i h0; subst h0; exact zmE _
 ·rfl
theorem zi1 {α : Type} [Inhabited α] {a b : List α} (h : a.length = b.length) (hg : ∀ j, j < a.length → a.getD j default = b.getD j default) : a = b := by
 apply List.ext_getElem h
 intro i h1 h2
 have := hg i h1
 simpa [List.getD, List.getElem?_eq_getElem h1, List.getElem?_eq_getElem h2] using this
theorem zfC {α : Type} [Inhabited α] [DecidableEq α] (eqv : α → α → Bool) (he : ∀ x y, eqv x y = decide (x = y)) (a b : List α) (hl : a.length < 4611686018427387904) :
  ifB (neI (lenI a) (lenI b)) (some false) (zk maxR (fun (x : Int) => ifB (ltI x (lenI a)) (z6 (atI a x) fun (y : α) => z6 (atI b x) fun (y_1 : α) => ifB (notB (eqv y y_1)) (mapO Sum.inr (some false)) (some (Sum.inl (wadd IntKind.i64 x 1)))) (mapO Sum.inr (some true))) 0) = some (decide (a = b)) := by
 rw [zi]
 by_cases hab : (a.length : Int) = b.length
 ·rw [zb, zb, if_pos hab]
  have hn : a.length = b.length := by omega
  refine yB (G := fun _ => some (decide (a = b))) (P := fun (i : Int) => 0 ≤ i ∧ i ≤ a.length ∧ ∀ j : Nat, (j : Int) < i → a.getD j default = b.getD j default) (μ := fun (i : Int) => a.length - i.toNat) ?_ maxR 0 ⟨by omega, by omega, fun j hj => by omega⟩ (by unfold maxR; omega)
  rintro i ⟨h0, h1, h2⟩ k hk
  obtain ⟨j, rfl⟩ : ∃ j : Nat, i = j := ⟨i.toNat, by omega⟩
  simp only [zA, zq, Z5, zd, Zu, zw, Zi, Zv, Zq, zh, Zo, zx, zT, zf, zi, zB, Zw, ZF, ZL, zD, Zx, Zr, Zs, Zt, Zj, Z6, zH, ZM, zz, Z3, Z8, Z4, Zp, ZN, Zk, z7, zZ, Zd, Ze, zb, ZG, zY, zS, Z1, ZO, Zl, zM, Zy]
  by_cases hj : j < a.length
  ·rw [if_pos (by omega), zK hj, zK (by omega : j < b.length), z7, z7, he, zF (by omega), za, zq, Z5]
   by_cases hq : a.getD j default = b.getD j default
   ·rw [hk _ ⟨by omega, by omega, fun j' hj' => ?_⟩ (by omega)]
    ·rw [zL, if_pos hq]
    ·by_cases h : j' = j
     ·subst h; exact hq
     ·exact h2 j' (by omega)
   ·have hne : a ≠ b := by rintro rfl; exact hq rfl
    rw [zL, if_neg hq]
    simp [hne]
  ·rw [if_neg (by omega)]
   have : a = b := zi1 hn fun j' hj' => h2 j' (by omega)
   simp [this]
 ·rw [zb, zb, if_neg hab]
  have : a ≠ b := by rintro rfl; exact hab rfl
  simp [this]
theorem z9g {α : Type} (a : List (List α)) {j : Nat} (h : j < a.length) : (a.take (j + 1)).flatten.length = (a.take j).flatten.length + (a.getD j default).length := by
 rw [z57 h]; simp
theorem z58 {α : Type} (a : List (List α)) (j : Nat) : (a.take j).flatten.length ≤ a.flatten.length := by
 have h : a.flatten = (a.take j).flatten ++ (a.drop j).flatten := by rw [← List.flatten_append, List.take_append_drop]
 rw [h, List.length_append]; omega
theorem zc2 {α : Type} (a : List (List α)) {j : Nat} (h : j < a.length) : (a.take (j + 1)).flatten = (a.take j).flatten ++ a.getD j default := by
 rw [z57 h]; simp
theorem z3b {α : Type} (bytes : Nat) (z : α) (a : List (List α)) (ha : a.length < 4611686018427387904) (hb : 1 ≤ bytes) (h : a.flatten.length * bytes ≤ 140737488355328) (hbb : bytes ≤ 1048576) :
  zk maxR (fun (x : Int × Int) => ifB (ltI (Prod.snd x) (lenI a)) (z6 (atI a (Prod.snd x)) fun (y : List α) => ifB (ltI (wadd IntKind.i64 (Prod.fst x) (lenI y)) 0) none (some (Sum.inl (wadd IntKind.i64 (Prod.fst x) (lenI y), wadd IntKind.i64 (Prod.snd x) 1))))
   (mapO Sum.inr (ifB (ltI (Prod.fst x) 0) none (ifB (gtI (wsub IntKind.i64 (Prod.fst x) (wsub IntKind.i64 0 0)) 0)
    (ifB (z0n bytes (wsub IntKind.i64 (Prod.fst x) (wsub IntKind.i64 0 0))) (ifB (in1 (repI (wsub IntKind.i64 (Prod.fst x) (wsub IntKind.i64 0 0)) z) 0) (ifB (inN (repI (wsub IntKind.i64 (Prod.fst x) (wsub IntKind.i64 0 0)) z) 0 (natI 0))
     (zk maxR (fun (x : Int × List α) => ifB (ltI (Prod.fst x) (lenI a)) (z6 (atI a (Prod.fst x)) fun (y : List α) => ifB (ze bytes (Prod.snd x) y) (some (Sum.inl (wadd IntKind.i64 (Prod.fst x) 1, cat (Prod.snd x) y))) none) (mapO Sum.inr (some (Prod.snd x)))) (0, subN (repI (wsub IntKind.i64 (Prod.fst x) (wsub IntKind.i64 0 0)) z) 0 (natI 0)))
     none) none) none)
    (zk maxR (fun (x : Int × List α) => ifB (ltI (Prod.fst x) (lenI a)) (z6 (atI a (Prod.fst x)) fun (y : List α) => ifB (ze bytes (Prod.snd x) y) (some (Sum.inl (wadd IntKind.i64 (Prod.fst x) 1, cat (Prod.snd x) y))) none) (mapO Sum.inr (some (Prod.snd x)))) (0, [])))))) (0, 0) = some a.flatten := by
 have hfl : a.flatten.length ≤ 140737488355328 := by
  have : a.flatten.length * 1 ≤ a.flatten.length * bytes := Nat.mul_le_mul_left _ hb
  omega
 have second : zk maxR (fun (x : Int × List α) => ifB (ltI (Prod.fst x) (lenI a)) (z6 (atI a (Prod.fst x)) fun (y : List α) => ifB (ze bytes (Prod.snd x) y) (some (Sum.inl (wadd IntKind.i64 (Prod.fst x) 1, cat (Prod.snd x) y))) none) (mapO Sum.inr (some (Prod.snd x)))) (0, []) = some a.flatten := by
  refine zR a (fun j s => ((j : Int), s)) (G := fun _ _ => some a.flatten) (P := fun j s => s = (a.take j).flatten) ?_ ?_ (by simp) (by omega)
  ·rintro j s hj rfl k hk
   have h1 := z9g a hj
   have h2 := z58 a (j + 1)
   simp only [zA, zq, Z5, zd, Zu, zw, Zi, Zv, Zq, zh, Zo, zx, zT, zf, zi, zB, Zw, ZF, ZL, zD, Zx, Zr, Zs, Zt, Zj, Z6, zH, ZM, zz, Z3, Z8, Z4, Zp, ZN, Zk, z7, zZ, Zd, Ze, zb, ZG, zY, zS, Z1, ZO, Zl, zM, Zy]
   rw [if_pos (by omega), zK hj, z7, zF (by omega), ← zc2 a hj, hk _ rfl, if_pos]
   refine ⟨?_, by omega⟩
   have h3 : ((a.take j).flatten.length + (a.getD j default).length) * bytes ≤ 140737488355328 := Nat.le_trans (Nat.mul_le_mul_right _ (by omega)) h
   generalize (a.take j).flatten.length + (a.getD j default).length = m at *
   have h4 : m / 4 * bytes ≤ m * bytes := Nat.mul_le_mul_right _ (by omega)
   have h5 : m / 4 * bytes * 4 ≤ m * bytes := by rw [Nat.mul_right_comm]; exact Nat.mul_le_mul_right _ (by omega)
   rw [Nat.add_mul, Nat.add_mul]
   omega
  ·rintro s rfl k
   simp only [zA, zq, Z5, zd, Zu, zw, Zi, Zv, Zq, zh, Zo, zx, zT, zf, zi, zB, Zw, ZF, ZL, zD, Zx, Zr, Zs, Zt, Zj, Z6, zH, ZM, zz, Z3, Z8, Z4, Zp, ZN, Zk, z7, zZ, Zd, Ze, zb, ZG, zY, zS, Z1, ZO, Zl, zM, Zy]
   rw [if_neg (by omega), List.take_length]
 refine zR a (fun j s => (s, (j : Int))) (G := fun _ _ => some a.flatten) (P := fun j s => s = ((a.take j).flatten.length : Int)) ?_ ?_ (by simp) (by omega)
 ·rintro j s hj rfl k hk
  have h1 := z9g a hj
  have h2 := z58 a (j + 1)
  simp only [zA, zq, Z5, zd, Zu, zw, Zi, Zv, Zq, zh, Zo, zx, zT, zf, zi, zB, Zw, ZF, ZL, zD, Zx, Zr, Zs, Zt, Zj, Z6, zH, ZM, zz, Z3, Z8, Z4, Zp, ZN, Zk, z7, zZ, Zd, Ze, zb, ZG, zY, zS, Z1, ZO, Zl, zM, Zy]
  rw [if_pos (by omega), zK hj, z7, zF (by omega), ZP ⟨by omega, by omega⟩, if_neg (by omega)]
  exact hk _ (by omega)
 ·rintro s rfl k
  rw [List.take_length]
  have hw : wsub .i64 (a.flatten.length : Int) (wsub .i64 0 0) = (a.flatten.length : Int) := by
   rw [Zz (a := 0) (b := 0) ⟨by omega, by omega⟩, Zz ⟨by omega, by omega⟩]; omega
  have hz : subN (repI (a.flatten.length : Int) z) 0 (natI 0) = [] := by simp [subN, natI]
  show yg (ifB (ltI ((a.length : Nat) : Int) (lenI a)) _ (mapO Sum.inr (ifB (ltI (a.flatten.length : Int) 0) none (ifB (gtI (wsub .i64 (a.flatten.length : Int) (wsub .i64 0 0)) 0) _ _)))) k = _
  rw [za, zd, zh, if_neg (show ¬ ((a.length : Nat) : Int) < lenI a by rw [zb]; omega), zh, if_neg (by omega)]
  show ifB (gtI (wsub .i64 (a.flatten.length : Int) (wsub .i64 0 0)) 0) (ifB (z0n bytes (wsub .i64 (a.flatten.length : Int) (wsub .i64 0 0))) (ifB (in1 (repI (wsub .i64 (a.flatten.length : Int) (wsub .i64 0 0)) z) 0) (ifB (inN (repI (wsub .i64 (a.flatten.length : Int) (wsub .i64 0 0)) z) 0 (natI 0))
   (zk maxR _ (0, subN (repI (wsub .i64 (a.flatten.length : Int) (wsub .i64 0 0)) z) 0 (natI 0))) none) none) none) (zk maxR _ (0, [])) = _
  rw [hw, hz, second, zx]
  split
  ·rw [Z8, if_pos, zD, if_pos ⟨by omega, by simp [repI]⟩, Z6, if_pos (by simp [repI, natI])]
   refine ⟨by omega, ?_, by omega⟩
   rw [← Int.natCast_mul]; omega
  ·rfl
theorem z1s {α : Type} (a b : List α) : [a, b].flatten = a ++ b := by simp
end Go.Kx
namespace Go.Proofs.Y
open Go.Rb Go.Kx
theorem z3Z (r : Rc) (hl : r.2.2.2.length < 4611686018427387904) : Z7 r = some (zG r) := by
 unfold Z7 zG
 have hloop : zk maxR (fun (x : Int) => ifB (ltI x (lenI (Prod.snd (Prod.snd (Prod.snd r))))) (z6 (atI (Prod.snd (Prod.snd (Prod.snd r))) x) fun (y : Int × Int × Int) =>
   ifB (ltI (Prod.fst y) 0) (mapO Sum.inr (some 3)) (ifB (geI (Prod.fst y) 4) (mapO Sum.inr (some 3)) (ifB (ltI (Prod.fst (Prod.snd y)) 0) (mapO Sum.inr (some 3)) (ifB (gtI (Prod.fst (Prod.snd y)) 100000) (mapO Sum.inr (some 3))
    (ifB (ltI (Prod.snd (Prod.snd y)) (-1000000)) (mapO Sum.inr (some 3)) (ifB (gtI (Prod.snd (Prod.snd y)) 1000000) (mapO Sum.inr (some 3)) (some (Sum.inl (wadd IntKind.i64 x 1))))))))) (mapO Sum.inr (some 0))) 0 = some (entE r.2.2.2) := by
  generalize r.2.2.2 = l at *
  refine zR l (fun j (_ : Unit) => (j : Int)) (G := fun rest _ => some (entE rest)) (P := fun _ _ => True) ?_ ?_ (s0 := ()) trivial (by omega)
  ·rintro j _ hj _ k hk
   have hat := zK hj
   generalize l.getD j default = x at *
   simp only [za, zw, zd, zq]
   rw [zh, zb, if_pos (by omega), hat, z7, zh, zT, zh, zx, zh, zx, zF (by omega), hk () trivial, entE]
   by_cases hb : Jn x
   ·rw [if_pos hb]
    unfold Jn at hb
    repeat' split
    all_goals first | rfl | (exfalso; omega)
   ·rw [if_neg hb]
    unfold Jn at hb
    repeat' split
    all_goals first | rfl | (exfalso; omega)
  ·rintro _ _ k
   simp only [za, zd]
   rw [zh, zb, if_neg (by omega)]; rfl
 rw [hloop]
 simp only [zh, zx, zf, zi, zT, zb]
 repeat' split
 all_goals first | rfl | (exfalso; omega)
end Go.Proofs.Y
namespace Go.Proofs.Y
open Go.Rb Go.Kx
noncomputable def zi2 : Code := zl Tryz.f44
noncomputable def zi3 : FuncId → Option GS := tabG []
theorem zo5 : ΓOK Tryz.prog zi3 := zg
def zi4 : HT := ⟨tabL [(4, .it [] (dyn [.t 13 (.int .i64)]))], tabH []⟩
abbrev z9h : List IT := [.v (.one (.sl 73 (.cons (.int .i64) (.one (.int .i64))))) false, .v (.one (.sl 73 (.cons (.int .i64) (.one (.int .i64))))) false]
abbrev zfD : List OT := [⟨.one .bool, false, []⟩]
set_option maxRecDepth 100000
noncomputable def JG : List (Int × Int) → List (Int × Int) → Option Bool := fun a b => ifB (neI (lenI a) (lenI b)) (some false) (zk maxR (fun (x : Int) => ifB (ltI x (lenI a)) (z6 (atI a x) fun y => z6 (atI b x) fun y_1 => ifB (notB (eqL [y.1, y.2] [y_1.1, y_1.2])) (mapO Sum.inr (some false)) (some (Sum.inl (wadd .i64 x 1)))) (mapO Sum.inr (some true))) 0)
theorem zjI (x : PI z9h) : JG (x.1) (x.2) = fnE T zi3 zi4 zi2 (zu Tryz.f44) z9h zfD x := by kernel_rfl
noncomputable abbrev z7g : GS := zt false z9h zfD fun x => JG (x.1) (x.2)
theorem z5L : GSOK Tryz.prog 44 z7g := zm tok zo5 fmo (Ht := zi4) (fn := Tryz.f44) (Tryz.func44) (c := zi2) (by kernel_rfl) (by kernel_rfl) (by kernel_rfl) (by decide +kernel) (by decide) zjI
end Go.Proofs.Y
namespace Go.Proofs.Y
open Go.Rb Go.Kx
noncomputable def zi5 : Code := zl Tryz.f124
noncomputable def zi6 : FuncId → Option GS := tabG []
theorem zo6 : ΓOK Tryz.prog zi6 := zg
def zi7 : HT := ⟨tabL [(4, .it [] (dyn [.t 13 (.int .i64)]))], tabH []⟩
abbrev z9i : List IT := [.v (.one (.sl 4 (.one .bool))) false, .v (.one (.sl 4 (.one .bool))) false]
abbrev zfE : List OT := [⟨.one .bool, false, []⟩]
set_option maxRecDepth 100000
noncomputable def z40 : List Bool → List Bool → Option Bool := fun a b => ifB (neI (lenI a) (lenI b)) (some false) (zk maxR (fun (x : Int) => ifB (ltI x (lenI a)) (z6 (atI a x) fun y => z6 (atI b x) fun y_1 => ifB (notB (eqB y y_1)) (mapO Sum.inr (some false)) (some (Sum.inl (wadd .i64 x 1)))) (mapO Sum.inr (some true))) 0)
theorem zjJ (x : PI z9i) : z40 (x.1) (x.2) = fnE T zi6 zi7 zi5 (zu Tryz.f124) z9i zfE x := by kernel_rfl
noncomputable abbrev zc3 : GS := zt false z9i zfE fun x => z40 (x.1) (x.2)
theorem zbk : GSOK Tryz.prog 124 zc3 := zm tok zo6 fmo (Ht := zi7) (fn := Tryz.f124) (Tryz.func124) (c := zi5) (by kernel_rfl) (by kernel_rfl) (by kernel_rfl) (by decide +kernel) (by decide) zjJ
end Go.Proofs.Y
namespace Go.Proofs.Y
open Go.Rb Go.Kx
noncomputable def z9j : Code := zl Tryz.f92
noncomputable def z9k : FuncId → Option GS := tabG [(124, zc3)]
theorem zi8 : ΓOK Tryz.prog z9k := z8 (zbk) (zg)
def z9l : HT := ⟨tabL [], tabH []⟩
abbrev z2k : List IT := [.v (.cons (.int .i64) (.cons (.int .i64) (.cons (.int .i64) (.one (.sl 4 (.one .bool)))))) true, .v (.cons (.int .i64) (.cons (.int .i64) (.cons (.int .i64) (.one (.sl 4 (.one .bool)))))) true]
abbrev z7Y : List OT := [⟨.one .bool, false, []⟩]
set_option maxRecDepth 100000
noncomputable def VW : Int × Int × Int × List Bool → Int × Int × Int × List Bool → Option Bool := fun a b => ifB (eqI a.1 b.1) (ifB (eqI a.2.1 b.2.1) (ifB (eqI a.2.2.1 b.2.2.1) (z6 (z40 a.2.2.2 b.2.2.2) fun y => some y) (some false)) (some false)) (some false)
theorem zdf (x : PI z2k) : VW (x.1) (x.2) = fnE T z9k z9l z9j (zu Tryz.f92) z2k z7Y x := by kernel_rfl
noncomputable abbrev z41 : GS := zt false z2k z7Y fun x => VW (x.1) (x.2)
theorem z5a : GSOK Tryz.prog 92 z41 := zm tok zi8 fmo (Ht := z9l) (fn := Tryz.f92) (Tryz.func92) (c := z9j) (by kernel_rfl) (by kernel_rfl) (by kernel_rfl) (by decide +kernel) (by decide) zdf
end Go.Proofs.Y
namespace Go.Proofs.Y
open Go.Rb Go.Kx
noncomputable def jI : Code := zl Tryz.f110
noncomputable def jJ : FuncId → Option GS := tabG [(124, zc3)]
theorem z4y : ΓOK Tryz.prog jJ := z8 (zbk) (zg)
def jK : HT := ⟨tabL [], tabH []⟩
abbrev YT : List IT := [.v (.cons (.int .i64) (.cons (.int .i64) (.cons (.int .i64) (.one (.sl 4 (.one .bool)))))) true, .v (.cons (.int .i64) (.cons (.int .i64) (.cons (.int .i64) (.one (.sl 4 (.one .bool)))))) true]
abbrev VX : List OT := [⟨.one .bool, false, []⟩]
set_option maxRecDepth 100000
noncomputable def yy : Int × Int × Int × List Bool → Int × Int × Int × List Bool → Option Bool := fun a b => ifB (eqI a.1 b.1) (ifB (eqI a.2.1 b.2.1) (ifB (eqI a.2.2.1 b.2.2.1) (z6 (z40 a.2.2.2 b.2.2.2) fun y => some y) (some false)) (some false)) (some false)
theorem z2l (x : PI YT) : yy (x.1) (x.2) = fnE T jJ jK jI (zu Tryz.f110) YT VX x := by kernel_rfl
noncomputable abbrev vi : GS := zt false YT VX fun x => yy (x.1) (x.2)
theorem Vh : GSOK Tryz.prog 110 vi := zm tok z4y fmo (Ht := jK) (fn := Tryz.f110) (Tryz.func110) (c := jI) (by kernel_rfl) (by kernel_rfl) (by kernel_rfl) (by decide +kernel) (by decide) z2l
end Go.Proofs.Y
namespace Go.Proofs.Y
open Go.Rb Go.Kx
noncomputable def z9m : Code := zl Tryz.f91
noncomputable def z9n : FuncId → Option GS := tabG [(92, z41), (110, vi)]
theorem zi9 : ΓOK Tryz.prog z9n := z8 (z5a) (z8 (Vh) (zg))
def z9o : HT := ⟨tabL [(4, .it [] (dyn [.t 17 (.int .i64)]))], tabH []⟩
noncomputable def z42 : GS := inl T z9n z9o z9m (zu Tryz.f91) (Tryz.f91.ntmps)
theorem z5b : GSOK Tryz.prog 91 z42 := Yo tok zi9 fmo (Ht := z9o) (fn := Tryz.f91) (Tryz.func91) (c := z9m) (by kernel_rfl) (by kernel_rfl) (by kernel_rfl)
end Go.Proofs.Y
namespace Go.Proofs.Y
open Go.Rb Go.Kx
noncomputable def z6v : Code := zl Tryz.f90
noncomputable def z6w : FuncId → Option GS := tabG [(44, z7g), (91, z42), (92, z41)]
theorem zez : ΓOK Tryz.prog z6w := z8 (z5L) (z8 (z5b) (z8 (z5a) (zg)))
def z6x : HT := ⟨tabL [], tabH []⟩
noncomputable def z1t : GS := inl T z6w z6x z6v (zu Tryz.f90) (Tryz.f90.ntmps)
theorem z2J : GSOK Tryz.prog 90 z1t := Yo tok zez fmo (Ht := z6x) (fn := Tryz.f90) (Tryz.func90) (c := z6v) (by kernel_rfl) (by kernel_rfl) (by kernel_rfl)
end Go.Proofs.Y
namespace Go.Proofs.Y
open Go.Rb Go.Kx
noncomputable def Vx : Code := zl Tryz.f109
noncomputable def Vy : FuncId → Option GS := tabG [(91, z42), (110, vi), (44, z7g)]
theorem z3c : ΓOK Tryz.prog Vy := z8 (z5b) (z8 (Vh) (z8 (z5L) (zg)))
def Vz : HT := ⟨tabL [], tabH []⟩
noncomputable def YB : GS := inl T Vy Vz Vx (zu Tryz.f109) (Tryz.f109.ntmps)
theorem vT : GSOK Tryz.prog 109 YB := Yo tok z3c fmo (Ht := Vz) (fn := Tryz.f109) (Tryz.func109) (c := Vx) (by kernel_rfl) (by kernel_rfl) (by kernel_rfl)
end Go.Proofs.Y
namespace Go.Proofs.Y
open Go.Rb Go.Kx
noncomputable def z9p : Code := zl Tryz.f89
noncomputable def z9q : FuncId → Option GS := tabG [(90, z1t), (109, YB)]
theorem zia : ΓOK Tryz.prog z9q := z8 (z2J) (z8 (vT) (zg))
def z9r : HT := ⟨tabL [(4, .it [] (dyn [.t 17 (.int .i64)]))], tabH []⟩
noncomputable def z43 : GS := inl T z9q z9r z9p (zu Tryz.f89) (Tryz.f89.ntmps)
theorem z5c : GSOK Tryz.prog 89 z43 := Yo tok zia fmo (Ht := z9r) (fn := Tryz.f89) (Tryz.func89) (c := z9p) (by kernel_rfl) (by kernel_rfl) (by kernel_rfl)
end Go.Proofs.Y
namespace Go.Proofs.Y
open Go.Rb Go.Kx
noncomputable def jL : Code := zl Tryz.f63
noncomputable def jM : FuncId → Option GS := tabG [(89, z43), (109, YB)]
theorem z4z : ΓOK Tryz.prog jM := z8 (z5c) (z8 (vT) (zg))
def jN : HT := ⟨tabL [], tabH []⟩
abbrev YU : List IT := [.v (.one (.sl 95 (.cons (.sl 126 (.cons (.int .i64) (.cons (.int .i64) (.cons (.int .i64) (.one (.sl 4 (.one .bool))))))) (.one (.sl 73 (.cons (.int .i64) (.one (.int .i64)))))))) true, .v (.one (.sl 95 (.cons (.sl 126 (.cons (.int .i64) (.cons (.int .i64) (.cons (.int .i64) (.one (.sl 4 (.one .bool))))))) (.one (.sl 73 (.cons (.int .i64) (.one (.int .i64)))))))) true]
abbrev VY : List OT := [⟨.one .bool, false, []⟩]
set_option maxRecDepth 100000
noncomputable def ZR : List (List (Int × Int × Int × List Bool) × List (Int × Int)) → List (List (Int × Int × Int × List Bool) × List (Int × Int)) → Option Bool := fun a b => ifB (neI (lenI a) (lenI b)) (some false) (zk maxR (fun (x : Int) => ifB (ltI x (lenI a)) (z6 (atI a x) fun y => z6 (atI b x) fun y_1 => ifB (neI (lenI y.1) (lenI y_1.1)) (mapO Sum.inr (some false)) (zk maxR (fun (x_1 : Int) => ifB (ltI x_1 (lenI y.1)) (z6 (atI y.1 x_1) fun y => z6 (atI y_1.1 x_1) fun y_2 => z6 (yy (y.1, y.2.1, y.2.2.1, y.2.2.2) (y_2.1, y_2.2.1, y_2.2.2.1, y_2.2.2.2)) fun y => ifB (notB y) (mapO Sum.inr (mapO Sum.inr (some false))) (some (Sum.inl (wadd .i64 x_1 1)))) (mapO Sum.inr (z6 (JG y.2 y_1.2) fun y => ifB (notB y) (mapO Sum.inr (some false)) (some (Sum.inl (wadd .i64 x 1)))))) 0)) (mapO Sum.inr (some true))) 0)
theorem z2m (x : PI YU) : ZR (x.1) (x.2) = fnE T jM jN jL (zu Tryz.f63) YU VY x := by kernel_rfl
noncomputable abbrev jO : GS := zt false YU VY fun x => ZR (x.1) (x.2)
theorem z2n : GSOK Tryz.prog 63 jO := zm tok z4z fmo (Ht := jN) (fn := Tryz.f63) (Tryz.func63) (c := jL) (by kernel_rfl) (by kernel_rfl) (by kernel_rfl) (by decide +kernel) (by decide) z2m
end Go.Proofs.Y
namespace Go.Proofs.Y
open Go.Rb Go.Kx
noncomputable def z9s : Code := zl Tryz.f35
noncomputable def z9t : FuncId → Option GS := tabG [(89, z43), (90, z1t)]
theorem zib : ΓOK Tryz.prog z9t := z8 (z5c) (z8 (z2J) (zg))
def z9u : HT := ⟨tabL [], tabH []⟩
abbrev z2o : List IT := [.v (.one (.sl 95 (.cons (.sl 126 (.cons (.int .i64) (.cons (.int .i64) (.cons (.int .i64) (.one (.sl 4 (.one .bool))))))) (.one (.sl 73 (.cons (.int .i64) (.one (.int .i64)))))))) true, .v (.one (.sl 95 (.cons (.sl 126 (.cons (.int .i64) (.cons (.int .i64) (.cons (.int .i64) (.one (.sl 4 (.one .bool))))))) (.one (.sl 73 (.cons (.int .i64) (.one (.int .i64)))))))) true]
abbrev z7Z : List OT := [⟨.one .bool, false, []⟩]
set_option maxRecDepth 100000
noncomputable def Y5 : List (List (Int × Int × Int × List Bool) × List (Int × Int)) → List (List (Int × Int × Int × List Bool) × List (Int × Int)) → Option Bool := fun a b => ifB (neI (lenI a) (lenI b)) (some false) (zk maxR (fun (x : Int) => ifB (ltI x (lenI a)) (z6 (atI a x) fun y => z6 (atI b x) fun y_1 => z6 (JG y.2 y_1.2) fun y_2 => ifB y_2 (ifB (neI (lenI y.1) (lenI y_1.1)) (mapO Sum.inr (some false)) (zk maxR (fun (x_1 : Int) => ifB (ltI x_1 (lenI y.1)) (z6 (atI y.1 x_1) fun y => z6 (atI y_1.1 x_1) fun y_3 => z6 (VW (y.1, y.2.1, y.2.2.1, y.2.2.2) (y_3.1, y_3.2.1, y_3.2.2.1, y_3.2.2.2)) fun y => ifB (notB y) (mapO Sum.inr (mapO Sum.inr (some false))) (some (Sum.inl (wadd .i64 x_1 1)))) (mapO Sum.inr (some (Sum.inl (wadd .i64 x 1))))) 0)) (mapO Sum.inr (some false))) (mapO Sum.inr (some true))) 0)
theorem zdg (x : PI z2o) : Y5 (x.1) (x.2) = fnE T z9t z9u z9s (zu Tryz.f35) z2o z7Z x := by kernel_rfl
noncomputable abbrev z9v : GS := zt false z2o z7Z fun x => Y5 (x.1) (x.2)
theorem zdh : GSOK Tryz.prog 35 z9v := zm tok zib fmo (Ht := z9u) (fn := Tryz.f35) (Tryz.func35) (c := z9s) (by kernel_rfl) (by kernel_rfl) (by kernel_rfl) (by decide +kernel) (by decide) zdg
end Go.Proofs.Y
namespace Go.Proofs.Y
open Go.Rb Go.Kx
set_option maxRecDepth 100000
noncomputable def z44 : Int → Int → Option Int := fun a b => ifB (eqI b 0) none (ifB (ltI (wrem a b) 0) (some (wadd .i64 (wrem a b) b)) (some (wrem a b)))
end Go.Proofs.Y
namespace Go.Proofs.Y
open Go.Rb Go.Kx
set_option maxRecDepth 100000
end Go.Proofs.Y
namespace Go.Proofs.Y
open Go.Rb Go.Kx
noncomputable def zbl : Code := zl Tryz.f48
noncomputable def zbm : FuncId → Option GS := tabG [(78, Yu), (97, z5I)]
theorem zjK : ΓOK Tryz.prog zbm := z8 (Yg) (z8 (z6j) (zg))
def zbn : HT := ⟨tabL [], tabH []⟩
abbrev z45 : List IT := [.v (.one (.sl 95 (.cons (.sl 126 (.cons (.int .i64) (.cons (.int .i64) (.cons (.int .i64) (.one (.sl 4 (.one .bool))))))) (.one (.sl 73 (.cons (.int .i64) (.one (.int .i64)))))))) true, .v (.one (.int .i64)) false]
abbrev z9w : List OT := [⟨.one (.sl 73 (.cons (.int .i64) (.one (.int .i64)))), false, [true]⟩, ⟨.one (.int .i64), false, []⟩]
set_option maxRecDepth 100000
noncomputable def Jp : List (List (Int × Int × Int × List Bool) × List (Int × Int)) → Int → Option (List (Int × Int) × Int) := fun a b => z6 (yn a) fun y => ifB (neI y 0) (some ([], y)) (ifB (ltI b 0) (some ([], 5)) (ifB (geI b (lenI a)) (some ([], 5)) (z6 (atI a b) fun y => z6 (y9 (y.1, y.2)) fun y => some (y.1, y.2))))
theorem zeA (x : PI z45) : Jp (x.1) (x.2) = fnE T zbm zbn zbl (zu Tryz.f48) z45 z9w x := by kernel_rfl
noncomputable abbrev zbo : GS := zt false z45 z9w fun x => Jp (x.1) (x.2)
theorem zeB : GSOK Tryz.prog 48 zbo := zm tok zjK fmo (Ht := zbn) (fn := Tryz.f48) (Tryz.func48) (c := zbl) (by kernel_rfl) (by kernel_rfl) (by kernel_rfl) (by decide +kernel) (by decide) zeA
end Go.Proofs.Y
namespace Go.Proofs.Y
open Go.Rb Go.Kx
end Go.Proofs.Y
namespace Go.Proofs.Y
open Go.Rb Go.Kx
end Go.Proofs.Y
namespace Go.Proofs.Y
open Go.Rb Go.Kx
end Go.Proofs.Y
namespace Go.Proofs.Y
open Go.Rb Go.Kx
set_option maxRecDepth 100000
end Go.Proofs.Y
namespace Go.Proofs.Y
open Go.Rb Go.Kx
set_option maxRecDepth 100000
end Go.Proofs.Y
namespace Go.Rb
def z0S (n : Int) (k : Nat) : Bool := n / 2 ^ k % 2 == 1
def ZQ (w : Nat) (n : Int) : List Bool := (List.range w).map fun j => z0S n (w - 1 - j)
def zax (n w : Int) : Prop := 0 ≤ w ∧ w ≤ 40 ∧ 0 ≤ n ∧ n < 2 ^ w.toNat
instance (n w : Int) : Decidable (zax n w) := by unfold zax; infer_instance
def putR (l : List Bool) (n w : Int) : List Bool × Int := if zax n w then (l ++ ZQ w.toNat n, 0) else ([], 3)
def val (l : List Bool) : Int := l.foldl (fun n b => 2 * n + (if b then 1 else 0)) 0
def zP (l : List Bool) (w : Int) : Int × Int := if w < 0 ∨ w > 40 then (0, 3) else if (l.length : Int) < w then (0, 8) else (val (l.take w.toNat), 0)
theorem yF (w : Nat) (n : Int) : (ZQ w n).length = w := by simp [ZQ]
theorem zmF {w : Nat} {n : Int} {j : Nat} (h : j < w) : (ZQ w n).getD j default = z0S n (w - 1 - j) := by
 simp [ZQ, List.getD, h]
theorem z7h (k : Nat) : (0 : Int) < 2 ^ k := Int.pow_pos (by omega)
theorem zo7 {a : Int} (h0 : 0 ≤ a) (h1 : a ≤ 9223372036854775807) : IntKind.wrap .i64 ((BitVec.ofInt (IntKind.i64.bits) a &&& BitVec.ofInt (IntKind.i64.bits) 1).toNat : Int) = a % 2 := by
 have hb : IntKind.i64.bits = 64 := rfl
 rw [hb]
 obtain ⟨m, rfl⟩ : ∃ m : Nat, a = (m : Int) := ⟨a.toNat, by omega⟩
 have h2 : (BitVec.ofInt 64 (m : Int)).toNat = m := by
  simp only [BitVec.toNat_ofInt]
  omega
 have h3 : (BitVec.ofInt 64 (1 : Int)).toNat = 1 := by decide
 rw [BitVec.toNat_and, h2, h3, Nat.and_one_is_mod, z0R (by omega) (by omega)]
 omega
theorem zo8 {a : Int} (h0 : 0 ≤ a) (k : Nat) : a.fdiv (2 ^ k) = a / 2 ^ k := Int.fdiv_eq_ediv_of_nonneg a (by have := z7h k; omega)
theorem zlw {a : Int} (h0 : 0 ≤ a) (k : Nat) : 0 ≤ a / 2 ^ k ∧ a / 2 ^ k ≤ a := by
 have := z7h k
 refine ⟨Int.ediv_nonneg h0 (by omega), Int.ediv_le_self _ h0⟩
theorem zic {n : Int} {w : Nat} (h0 : 0 ≤ n) : n / 2 ^ w = 0 ↔ n < 2 ^ w := by
 have h1 := z7h w
 constructor
 ·intro h
  have := Int.lt_ediv_add_one_mul_self n h1
  rw [h] at this
  omega
 ·intro h
  exact Int.ediv_eq_zero_of_lt h0 h
theorem zid (l : List Bool) (b : Bool) : val (l ++ [b]) = 2 * val l + (if b then 1 else 0) := by simp [val]
theorem zmG : ∀ (l : List Bool), 0 ≤ val l ∧ val l < 2 ^ l.length := by
 intro l
 have key : ∀ (l : List Bool) (a : Int) (k : Nat), 0 ≤ a → a < 2 ^ k → 0 ≤ l.foldl (fun n b => 2 * n + (if b then 1 else 0)) a ∧ l.foldl (fun n b => 2 * n + (if b then 1 else 0)) a < 2 ^ (k + l.length) := by
  intro l
  induction l with
  | nil => intro a k h0 h1; exact ⟨h0, h1⟩
  | cons b l ih =>
   intro a k h0 h1
   rw [List.foldl_cons, List.length_cons, show k + (l.length + 1) = (k + 1) + l.length from by omega]
   refine ih _ (k + 1) ?_ ?_
   ·split <;> omega
   ·rw [Int.pow_succ]
    split <;> omega
 have := key l 0 0 (by omega) (by decide)
 simpa [val] using this
end Go.Rb
namespace Go.Rb
theorem zo9 {a b : Nat} (h : a ≤ b) : (2 : Int) ^ a ≤ 2 ^ b := by
 have := Nat.pow_le_pow_right (n := 2) (by omega) h
 exact_mod_cast this
theorem zr4 {k : Nat} (h : k ≤ 40) : 0 < (2 : Int) ^ k ∧ (2 : Int) ^ k ≤ 1099511627776 := ⟨z7h k, zo9 (b := 40) h⟩
end Go.Rb
namespace Go.Rb
theorem zdi (w : Nat) (n : Int) : ZQ (w + 1) n = ZQ w (n / 2) ++ [z0S n 0] := by
 apply List.ext_getElem
 ·simp [yF]
 ·intro i h1 h2
  rw [List.getElem_append]
  rw [yF] at h1
  split
  ·rename_i h3
   rw [yF] at h3
   simp only [ZQ, List.getElem_map, List.getElem_range, z0S]
   rw [Int.ediv_ediv_of_nonneg (by omega), show w + 1 - 1 - i = (w - 1 - i) + 1 from by omega, Int.pow_succ, Int.mul_comm]
  ·rename_i h3
   rw [yF] at h3
   have hi : i = w := by omega
   subst hi
   simp [ZQ, yF]
theorem zfF : ∀ (w : Nat) (n : Int), 0 ≤ n → n < 2 ^ w → val (ZQ w n) = n
 | 0, n, h0, h1 => by
  have : n = 0 := by simp at h1; omega
  subst this; rfl
 | w + 1, n, h0, h1 => by
  rw [Int.pow_succ] at h1
  rw [zdi, zid, zfF w (n / 2) (by omega) (by omega)]
  simp only [z0S, Int.pow_zero, Int.ediv_one]
  by_cases h : n % 2 = 1
  ·simp [h]; omega
  ·simp [h]; omega
theorem zmH : ∀ l : List Bool, ZQ l.length (val l) = l := by
 intro l
 induction h : l.length generalizing l with
 | zero => rw [List.length_eq_zero_iff] at h; subst h; rfl
 | succ w ih =>
  have hl : l ≠ [] := by intro h0; subst h0; simp at h
  rw [zdi]
  obtain ⟨k, b, rfl⟩ : ∃ k b, l = k ++ [b] := ⟨l.dropLast, l.getLast hl, (List.dropLast_concat_getLast hl).symm⟩
  have hk : k.length = w := by simpa using h
  rw [zid]
  have e1 : (2 * val k + (if b then 1 else 0)) / 2 = val k := by cases b <;> simp <;> omega
  have e2 : z0S (2 * val k + (if b then 1 else 0)) 0 = b := by
   simp only [z0S, Int.pow_zero, Int.ediv_one]
   cases b
   ·simp
   ·simp only [if_true, beq_iff_eq]; omega
  rw [e1, e2, ih k hk]
/-! ### Numbers one after the other -/
end Go.Rb
namespace Go.Rb
def Zm (v : Int) : Int := if v < 0 then -2 * v - 1 else 2 * v
theorem z1u (v : Int) : (v < 0 ∧ Zm v = -2 * v - 1) ∨ (0 ≤ v ∧ Zm v = 2 * v) := by unfold Zm; split <;> omega
def unf (n : Int) : Int := if n % 2 = 1 then (-(n + 1)).tdiv 2 else n.tdiv 2
theorem z6y {n : Int} (h : 0 ≤ n) : (n % 2 = 1 ∧ unf n = -(n / 2 + 1) ∧ (0 - (n + 1)).tdiv 2 = unf n) ∨ (n % 2 = 0 ∧ unf n = n / 2 ∧ n.tdiv 2 = unf n) := by
 unfold unf
 have h1 : n.tdiv 2 = n / 2 := Int.tdiv_eq_ediv_of_nonneg h
 have h2 : (-(n + 1)).tdiv 2 = -((n + 1) / 2) := by rw [Int.neg_tdiv, Int.tdiv_eq_ediv_of_nonneg (by omega)]
 split
 ·left; refine ⟨by assumption, ?_, by rw [Int.zero_sub]⟩; rw [h2]; omega
 ·right; refine ⟨by omega, h1, rfl⟩
theorem zoa (v : Int) : unf (Zm v) = v := by
 have h := z1u v
 have h1 := z6y (n := Zm v) (by omega)
 omega
theorem zob {n : Int} (h : 0 ≤ n) : Zm (unf n) = n := by
 have h1 := z6y h
 have h2 := z1u (unf n)
 omega
theorem pow8 {k : Nat} (h : k ≤ 8) : 1 ≤ (8 : Int) ^ k ∧ (8 : Int) ^ k ≤ 16777216 := by
 have h1 : (8 : Int) ^ k ≤ 8 ^ 8 := by
  have := Nat.pow_le_pow_right (n := 8) (by omega) h
  exact_mod_cast this
 have h2 : (0 : Int) < 8 ^ k := Int.pow_pos (by omega)
 exact ⟨by omega, h1⟩
def zenc : Nat → Int → List Bool
 | 0, _ => []
 | f + 1, m => ZQ 4 ((if m ≥ 8 then 8 else 0) + m % 8) ++ (if m ≥ 8 then zenc f (m / 8) else [])
theorem VZ {f : Nat} {m : Int} (hf : 1 ≤ f) (h : m < 8) : zenc f m = ZQ 4 (0 + m % 8) := by
 obtain ⟨g, rfl⟩ : ∃ g, f = g + 1 := ⟨f - 1, by omega⟩
 rw [zenc, if_neg (by omega), if_neg (by omega), List.append_nil]
theorem z0a {f : Nat} {m : Int} (hf : 1 ≤ f) (h : 8 ≤ m) : zenc f m = ZQ 4 (8 + m % 8) ++ zenc (f - 1) (m / 8) := by
 obtain ⟨g, rfl⟩ : ∃ g, f = g + 1 := ⟨f - 1, by omega⟩
 rw [zenc, if_pos h, if_pos h]; rfl
theorem z1v : ∀ (f : Nat) (m : Int), (zenc f m).length ≤ 4 * f
 | 0, _ => by simp [zenc]
 | f + 1, m => by
  have := z1v f (m / 8)
  rw [zenc, List.length_append, yF]
  split
  ·omega
  ·simp; omega
theorem z6z {m : Int} {f : Nat} (h : m < 8 ^ f) (h8 : 8 ≤ m) : 2 ≤ f ∧ m / 8 < 8 ^ (f - 1) := by
 match f, h with
 | 0, h => simp at h; omega
 | 1, h => simp at h; omega
 | f + 2, h =>
  refine ⟨by omega, ?_⟩
  rw [Int.pow_succ] at h
  show m / 8 < 8 ^ (f + 1)
  omega
def z0T (l : List Bool) (v : Int) : List Bool × Int := if v < -4000000 ∨ v > 4000000 then ([], 3) else (l ++ zenc 8 (Zm v), 0)
theorem put4 (k : List Bool) {n : Int} (h0 : 0 ≤ n) (h1 : n < 16) : putR k n 4 = (k ++ ZQ 4 n, 0) := by
 unfold putR
 rw [if_pos ⟨by omega, by omega, h0, by simpa using h1⟩]; rfl
theorem putm {k : List Bool} {m : Int} (h : 0 ≤ m) : putR k (8 + m % 8) 4 = (k ++ ZQ 4 (8 + m % 8), 0) ∧ putR k (0 + m % 8) 4 = (k ++ ZQ 4 (0 + m % 8), 0) :=
 ⟨put4 k (by omega) (by omega), put4 k (by omega) (by omega)⟩
/-! ### Reading -/
def ZD : Nat → Nat → Int → Int → List Bool → Int × Int × Int
 | 0, _, _, _, _ => (0, 0, 3)
 | f + 1, k, n, sc, l =>
  if l.length < 4 then (0, 0, 8) else
  if (zP l 4).1 = 0 ∧ k > 0 then (0, 0, 4) else
  if n + (zP l 4).1 % 8 * sc > 8000000 then (0, 0, 3) else
  if (zP l 4).1 < 8 then (unf (n + (zP l 4).1 % 8 * sc), 4 * (k : Int) + 4, 0) else ZD f (k + 1) (n + (zP l 4).1 % 8 * sc) (sc * 8) (l.drop 4)
def zo (l : List Bool) : Int × Int × Int := ZD 8 0 0 1 l
theorem rd4 (d : List Bool) : (d.length < 4 ∧ (zP d 4).1 = 0 ∧ (zP d 4).2 = 8) ∨ (4 ≤ d.length ∧ (zP d 4).1 = val (d.take 4) ∧ (zP d 4).2 = 0 ∧ 0 ≤ (zP d 4).1 ∧ (zP d 4).1 < 16) := by
 unfold zP
 rw [if_neg (by omega)]
 by_cases h : (d.length : Int) < 4
 ·rw [if_pos h]; left; exact ⟨by omega, rfl, rfl⟩
 ·rw [if_neg h]
  have h1 := zmG (d.take 4)
  rw [List.length_take, Nat.min_eq_left (by omega)] at h1
  right; exact ⟨by omega, rfl, rfl, h1.1, by simpa using h1.2⟩
section
variable {f k : Nat} {n sc : Int} {l : List Bool}
theorem z6A (hf : 1 ≤ f) (h : l.length < 4) : ZD f k n sc l = (0, 0, 8) := by
 obtain ⟨g, rfl⟩ : ∃ g, f = g + 1 := ⟨f - 1, by omega⟩
 rw [ZD, if_pos h]
theorem z6B (hf : 1 ≤ f) (h : 4 ≤ l.length) (h0 : (zP l 4).1 = 0) (hk : 0 < k) : ZD f k n sc l = (0, 0, 4) := by
 obtain ⟨g, rfl⟩ : ∃ g, f = g + 1 := ⟨f - 1, by omega⟩
 rw [ZD, if_neg (by omega), if_pos ⟨h0, hk⟩]
theorem z47 (hf : 1 ≤ f) (h : 4 ≤ l.length) (h0 : ¬ ((zP l 4).1 = 0 ∧ 0 < k)) (h1 : n + (zP l 4).1 % 8 * sc > 8000000) : ZD f k n sc l = (0, 0, 3) := by
 obtain ⟨g, rfl⟩ : ∃ g, f = g + 1 := ⟨f - 1, by omega⟩
 rw [ZD, if_neg (by omega), if_neg h0, if_pos h1]
theorem z1w (hf : 1 ≤ f) (h : 4 ≤ l.length) (h0 : ¬ ((zP l 4).1 = 0 ∧ 0 < k)) (h1 : ¬ n + (zP l 4).1 % 8 * sc > 8000000) (h2 : (zP l 4).1 < 8) : ZD f k n sc l = (unf (n + (zP l 4).1 % 8 * sc), 4 * (k : Int) + 4, 0) := by
 obtain ⟨g, rfl⟩ : ∃ g, f = g + 1 := ⟨f - 1, by omega⟩
 rw [ZD, if_neg (by omega), if_neg h0, if_neg h1, if_pos h2]
theorem z3q (hf : 1 ≤ f) (h : 4 ≤ l.length) (h0 : ¬ ((zP l 4).1 = 0 ∧ 0 < k)) (h1 : ¬ n + (zP l 4).1 % 8 * sc > 8000000) (h2 : ¬ (zP l 4).1 < 8) : ZD f k n sc l = ZD (f - 1) (k + 1) (n + (zP l 4).1 % 8 * sc) (sc * 8) (l.drop 4) := by
 obtain ⟨g, rfl⟩ : ∃ g, f = g + 1 := ⟨f - 1, by omega⟩
 rw [ZD, if_neg (by omega), if_neg h0, if_neg h1, if_neg h2]; rfl
end
theorem zie {a b c : Int} (h0 : 0 ≤ a) (h1 : a ≤ 7) (h2 : 0 ≤ b) (h3 : b ≤ c) : 0 ≤ a * b ∧ a * b ≤ 7 * c := by
 refine ⟨Int.mul_nonneg h0 h2, ?_⟩
 have h4 : a * b ≤ 7 * b := Int.mul_le_mul_of_nonneg_right h1 h2
 omega
theorem zc4 : ∀ (f k : Nat) (n sc : Int) (l : List Bool), (ZD f k n sc l).2.2 = 0 → 4 * (k : Int) ≤ (ZD f k n sc l).2.1 ∧ (ZD f k n sc l).2.1 ≤ 4 * (k : Int) + l.length
 | 0, k, n, sc, l, h => by simp [ZD] at h
 | f + 1, k, n, sc, l, h => by
  by_cases h1 : l.length < 4
  ·rw [z6A (by omega) h1] at h; simp at h
  ·by_cases h2 : (zP l 4).1 = 0 ∧ 0 < k
   ·rw [z6B (by omega) (by omega) h2.1 h2.2] at h; simp at h
   ·by_cases h3 : n + (zP l 4).1 % 8 * sc > 8000000
    ·rw [z47 (by omega) (by omega) h2 h3] at h; simp at h
    ·by_cases h4 : (zP l 4).1 < 8
     ·rw [z1w (by omega) (by omega) h2 h3 h4]; simp only; omega
     ·rw [z3q (by omega) (by omega) h2 h3 h4] at h ⊢
      have := zc4 _ _ _ _ _ h
      rw [List.length_drop] at this
      simp only [Nat.add_sub_cancel] at this ⊢
      push_cast at this
      omega
theorem zfG : ∀ (f k : Nat) (n sc : Int) (l : List Bool), ¬ (ZD f k n sc l).2.2 = 0 → (ZD f k n sc l).1 = 0 ∧ (ZD f k n sc l).2.1 = 0
 | 0, k, n, sc, l, h => ⟨rfl, rfl⟩
 | f + 1, k, n, sc, l, h => by
  by_cases h1 : l.length < 4
  ·rw [z6A (by omega) h1]; exact ⟨rfl, rfl⟩
  ·by_cases h2 : (zP l 4).1 = 0 ∧ 0 < k
   ·rw [z6B (by omega) (by omega) h2.1 h2.2]; exact ⟨rfl, rfl⟩
   ·by_cases h3 : n + (zP l 4).1 % 8 * sc > 8000000
    ·rw [z47 (by omega) (by omega) h2 h3]; exact ⟨rfl, rfl⟩
    ·by_cases h4 : (zP l 4).1 < 8
     ·rw [z1w (by omega) (by omega) h2 h3 h4] at h; simp at h
     ·rw [z3q (by omega) (by omega) h2 h3 h4] at h ⊢
      exact zfG _ _ _ _ _ h
theorem z5d {l : List Bool} (h : (zo l).2.2 = 0) : 0 ≤ (zo l).2.1 ∧ (zo l).2.1 ≤ l.length := by
 have := zc4 8 0 0 1 l h
 unfold zo
 omega
theorem zlx {l : List Bool} (h : ¬ (zo l).2.2 = 0) : (zo l).1 = 0 ∧ (zo l).2.1 = 0 := zfG 8 0 0 1 l h
def Yr (l : List Bool) : Int × List Bool × Int := ((zo l).1, (if (zo l).2.2 = 0 then l.drop (zo l).2.1.toNat else []), (zo l).2.2)
/-! ### The document's way -/
def dig : Nat → Int → List Int
 | 0, _ => []
 | f + 1, m => m % 8 :: (if m ≥ 8 then dig f (m / 8) else [])
def grp (more : Bool) (d : Int) : List Bool := [more, decide (d ≥ 4), decide (d.tmod 4 ≥ 2), d.tmod 2 == 1]
def Yd (D : List Int) (i : Nat) : List Bool := ((List.range i).map fun (j : Nat) => grp (decide ((j : Int) < D.length - 1)) (D.getD j default)).flatten
theorem zbp (D : List Int) (i : Nat) : Yd D (i + 1) = Yd D i ++ grp (decide ((i : Int) < D.length - 1)) (D.getD i default) := by simp [Yd, List.range_succ]
theorem zly (D : List Int) (i : Nat) : (Yd D i).length = 4 * i := by
 induction i with
 | zero => simp [Yd]
 | succ i ih => rw [zbp, List.length_append, ih]; simp [grp]; omega
theorem zif {d : Int} (b : Bool) (h0 : 0 ≤ d) (h1 : d < 8) : grp b d = ZQ 4 ((if b then 8 else 0) + d) := by
 have h : d = 0 ∨ d = 1 ∨ d = 2 ∨ d = 3 ∨ d = 4 ∨ d = 5 ∨ d = 6 ∨ d = 7 := by omega
 cases b <;> rcases h with rfl | rfl | rfl | rfl | rfl | rfl | rfl | rfl <;> decide
theorem zjL (d : Int) (D : List Int) : Yd (d :: D) (D.length + 1) = grp (decide (0 < D.length)) d ++ Yd D D.length := by
 unfold Yd
 rw [List.range_succ_eq_map, List.map_cons, List.flatten_cons, List.map_map]
 congr 1
 ·congr 1
  simp only [List.length_cons]
  apply decide_eq_decide.2
  omega
 ·congr 1
  apply List.map_congr_left
  intro j _
  simp only [Function.comp, List.getD_cons_succ, List.length_cons]
  congr 1
  apply decide_eq_decide.2
  omega
theorem zpu {f : Nat} {m : Int} (h : 1 ≤ f) : 0 < (dig f m).length := by
 obtain ⟨g, rfl⟩ : ∃ g, f = g + 1 := ⟨f - 1, by omega⟩
 simp [dig]
theorem zig : ∀ (f : Nat) (m : Int), 0 ≤ m → m < 8 ^ f → 1 ≤ f → Yd (dig f m) (dig f m).length = zenc f m
 | 0, m, _, _, h => by omega
 | f + 1, m, h0, h1, _ => by
  rw [dig, List.length_cons, zjL]
  by_cases h8 : m ≥ 8
  ·have h2 := z6z h1 h8
   rw [if_pos h8, z0a (by omega) h8]
   have hp := zpu (f := f) (m := m / 8) (by omega)
   rw [zig f (m / 8) (by omega) h2.2 (by omega), zif _ (by omega) (by omega)]
   simp [hp]
  ·rw [if_neg h8, VZ (by omega) (by omega), zif _ (by omega) (by omega)]
   simp [Yd]
theorem zoc {f : Nat} {m : Int} (hf : 1 ≤ f) (h0 : 0 ≤ m) : dig f m = (m % 8) :: (if m / 8 > 0 then dig (f - 1) (m / 8) else []) := by
 obtain ⟨g, rfl⟩ : ∃ g, f = g + 1 := ⟨f - 1, by omega⟩
 rw [dig]
 by_cases h8 : m ≥ 8
 ·rw [if_pos h8, if_pos (by omega)]; rfl
 ·rw [if_neg h8, if_neg (by omega)]
theorem zmI {v : Int} (h : -4000000 ≤ v ∧ v ≤ 4000000) : Yd (dig 8 (Zm v)) (dig 8 (Zm v)).length = zenc 8 (Zm v) := by
 have h1 := z1u v
 exact zig 8 _ (by omega) (by show _ < (16777216 : Int); omega) (by omega)
/-! A group as the document takes it apart. -/
def dAt (b : List Bool) (i : Nat) : Int := (if 0 < i ∧ b.getD 0 default then 4 else 0) + (if 1 < i ∧ b.getD 1 default then 2 else 0) + (if 2 < i ∧ b.getD 2 default then 1 else 0)
theorem zod {b : List Bool} {i : Nat} (h : i < 3) : dAt b (i + 1) = dAt b i + (if b.getD i default then (4 : Int) / 2 ^ i else 0) := by
 have h3 : i = 0 ∨ i = 1 ∨ i = 2 := by omega
 rcases h3 with rfl | rfl | rfl <;> simp [dAt]
theorem zdj (b : List Bool) (i : Nat) : 0 ≤ dAt b i ∧ dAt b i ≤ 7 := by
 unfold dAt
 split <;> split <;> split <;> omega
theorem group {l : List Bool} (h : 4 ≤ l.length) : (zP l 4).1 = (if l.getD 0 default then 8 else 0) + dAt ((l.take 4).drop 1) 3 := by
 match l, h with
 | a :: b :: c :: d :: r, _ =>
  have h1 := rd4 (a :: b :: c :: d :: r)
  simp only [List.length_cons] at h1
  have h2 : (zP (a :: b :: c :: d :: r) 4).1 = val [a, b, c, d] := by
   rcases h1 with h1 | h1
   ·omega
   ·exact h1.2.1
  rw [h2]
  show val [a, b, c, d] = (if a = true then 8 else 0) + dAt [b, c, d] 3
  cases a <;> cases b <;> cases c <;> cases d <;> decide
theorem zpv {l : List Bool} (h : 4 ≤ l.length) (hb : l.getD 0 default = false) : (zP l 4).1 = dAt ((l.take 4).drop 1) 3 := by rw [group h, hb]; simp
theorem zpw {l : List Bool} (h : 4 ≤ l.length) (hb : l.getD 0 default = true) : (zP l 4).1 = 8 + dAt ((l.take 4).drop 1) 3 := by rw [group h, hb]; simp
theorem zmJ {l : List Bool} (h : 4 ≤ l.length) : (zP l 4).1 % 8 = dAt ((l.take 4).drop 1) 3 := by
 have h1 := group h
 have h2 := zdj ((l.take 4).drop 1) 3
 split at h1 <;> omega
end Go.Rb
namespace Go.Rb
theorem zoW {x : Int} (h0 : 0 ≤ x) (h1 : x < 16) (r : List Bool) : (zP (ZQ 4 x ++ r) 4).1 = x ∧ 4 ≤ (ZQ 4 x ++ r).length ∧ (ZQ 4 x ++ r).drop 4 = r := by
 have hl : (ZQ 4 x).length = 4 := yF 4 x
 have h2 : 4 ≤ (ZQ 4 x ++ r).length := by rw [List.length_append, hl]; omega
 refine ⟨?_, h2, ?_⟩
 ·have h3 := rd4 (ZQ 4 x ++ r)
  have h4 : (ZQ 4 x ++ r).take 4 = ZQ 4 x := by rw [List.take_append_of_le_length (by omega), List.take_of_length_le (by omega)]
  rw [h4, zfF 4 x h0 (by simpa using h1)] at h3
  omega
 ·rw [List.drop_append_of_le_length (by omega), List.drop_of_length_le (by omega), List.nil_append]
theorem zmK (m sc : Int) : m % 8 * sc + m / 8 * (sc * 8) = m * sc := by
 have h1 : m / 8 * (sc * 8) = 8 * (m / 8) * sc := by rw [Int.mul_comm sc 8, ← Int.mul_assoc, Int.mul_comm (m / 8) 8]
 rw [h1, ← Int.add_mul]
 congr 1
 omega
theorem zfH : ∀ (f k : Nat) (n sc m : Int) (r : List Bool), 1 ≤ f → 0 ≤ m → m < 8 ^ f → 0 ≤ n → 1 ≤ sc → n + m * sc ≤ 8000000 → (0 < k → 1 ≤ m) →
  ZD f k n sc (zenc f m ++ r) = (unf (n + m * sc), 4 * (k : Int) + (zenc f m).length, 0)
 | 0, k, n, sc, m, r, hf, _, _, _, _, _, _ => by omega
 | f + 1, k, n, sc, m, r, hf, h0, h1, hn, hsc, hb, hk => by
  by_cases h8 : m < 8
  ·rw [VZ hf h8]
   have hr := zoW (x := 0 + m % 8) (by omega) (by omega) r
   have hx : (zP (ZQ 4 (0 + m % 8) ++ r) 4).1 % 8 = m := by rw [hr.1]; omega
   rw [z1w hf hr.2.1 (by rw [hr.1]; omega) (by rw [hx]; omega) (by rw [hr.1]; omega), hx, yF]
   rfl
  ·have h2 := z6z h1 (by omega)
   rw [z0a hf (by omega), List.append_assoc]
   have hr := zoW (x := 8 + m % 8) (by omega) (by omega) (zenc (f + 1 - 1) (m / 8) ++ r)
   have hx : (zP (ZQ 4 (8 + m % 8) ++ (zenc (f + 1 - 1) (m / 8) ++ r)) 4).1 % 8 = m % 8 := by rw [hr.1]; omega
   have hs := zmK m sc
   have hp1 : 0 ≤ m % 8 * sc := Int.mul_nonneg (by omega) (by omega)
   have hp2 : 0 ≤ m / 8 * (sc * 8) := Int.mul_nonneg (by omega) (by omega)
   rw [z3q hf hr.2.1 (by rw [hr.1]; omega) (by rw [hx]; omega) (by rw [hr.1]; omega), hx, hr.2.2]
   simp only [Nat.add_sub_cancel] at h2 ⊢
   rw [zfH f (k + 1) _ _ (m / 8) r (by omega) (by omega) h2.2 (by omega) (by omega) (by omega) (by omega), List.length_append, yF]
   rw [show n + m % 8 * sc + m / 8 * (sc * 8) = n + m * sc from by omega]
   refine Prod.ext rfl (Prod.ext ?_ rfl)
   push_cast
   omega
theorem z9x : ∀ (f k : Nat) (n sc : Int) (l : List Bool), 0 ≤ n → 1 ≤ sc → (ZD f k n sc l).2.2 = 0 →
  ∃ m, 0 ≤ m ∧ m < 8 ^ f ∧ (0 < k → 1 ≤ m) ∧ n + m * sc ≤ 8000000 ∧ (ZD f k n sc l).1 = unf (n + m * sc) ∧ (ZD f k n sc l).2.1 = 4 * (k : Int) + (zenc f m).length ∧ l = zenc f m ++ l.drop (zenc f m).length
 | 0, k, n, sc, l, _, _, h => by simp [ZD] at h
 | f + 1, k, n, sc, l, hn, hsc, h => by
  by_cases h1 : l.length < 4
  ·rw [z6A (by omega) h1] at h; simp at h
  have hrd := rd4 l
  have hlt : (l.take 4).length = 4 := by rw [List.length_take]; omega
  have htk : ZQ 4 (zP l 4).1 = l.take 4 := by
   have h9 := zmH (l.take 4)
   rw [hlt] at h9
   rw [show (zP l 4).1 = val (l.take 4) from by omega]
   exact h9
  by_cases h2 : (zP l 4).1 = 0 ∧ 0 < k
  ·rw [z6B (by omega) (by omega) h2.1 h2.2] at h; simp at h
  by_cases h3 : n + (zP l 4).1 % 8 * sc > 8000000
  ·rw [z47 (by omega) (by omega) h2 h3] at h; simp at h
  by_cases h4 : (zP l 4).1 < 8
  ·have hx : (zP l 4).1 % 8 = (zP l 4).1 := by omega
   have hp : (1 : Int) ≤ 8 ^ f := by have : (0 : Int) < 8 ^ f := Int.pow_pos (by omega); omega
   refine ⟨(zP l 4).1, by omega, by rw [Int.pow_succ]; omega, by omega, by rw [← hx]; omega, ?_, ?_, ?_⟩
   ·rw [z1w (by omega) (by omega) h2 h3 h4, hx]
   ·rw [z1w (by omega) (by omega) h2 h3 h4, VZ (by omega) h4, yF]; rfl
   ·rw [VZ (by omega) h4, Int.zero_add, hx, htk, hlt, List.take_append_drop]
  ·rw [z3q (by omega) (by omega) h2 h3 h4] at h ⊢
   have hp1 : 0 ≤ (zP l 4).1 % 8 * sc := Int.mul_nonneg (by omega) (by omega)
   simp only [Nat.add_sub_cancel] at h ⊢
   obtain ⟨m, g1, g2, g3, g4, g5, g6, g7⟩ := z9x f (k + 1) _ _ _ (by omega) (by omega) h
   have g3' := g3 (by omega)
   have hs := zmK ((zP l 4).1 % 8 + 8 * m) sc
   rw [show ((zP l 4).1 % 8 + 8 * m) % 8 = (zP l 4).1 % 8 from by omega, show ((zP l 4).1 % 8 + 8 * m) / 8 = m from by omega] at hs
   have hz : zenc (f + 1) ((zP l 4).1 % 8 + 8 * m) = l.take 4 ++ zenc f m := by
    rw [z0a (by omega) (by omega), ← htk]
    rw [show 8 + ((zP l 4).1 % 8 + 8 * m) % 8 = (zP l 4).1 from by omega, show ((zP l 4).1 % 8 + 8 * m) / 8 = m from by omega]
    rfl
   refine ⟨(zP l 4).1 % 8 + 8 * m, by omega, by rw [Int.pow_succ]; omega, by omega, by omega, ?_, ?_, ?_⟩
   ·rw [g5]; congr 1; omega
   ·rw [g6, hz, List.length_append, hlt]; push_cast; omega
   ·rw [hz, List.length_append, hlt, List.append_assoc, ← List.drop_drop, ← g7, List.take_append_drop]
theorem z1x {v : Int} (h : -4000000 ≤ v ∧ v ≤ 4000000) (l : List Bool) : z0T l v = (l ++ zenc 8 (Zm v), 0) := by
 unfold z0T
 rw [if_neg (by omega)]
theorem zoe {v : Int} (h : -4000000 ≤ v ∧ v ≤ 4000000) (r : List Bool) : Yr (zenc 8 (Zm v) ++ r) = (v, r, 0) := by
 have h1 := z1u v
 have h2 := zfH 8 0 0 1 (Zm v) r (by omega) (by omega) (by show _ < (16777216 : Int); omega) (by omega) (by omega) (by omega) (by omega)
 unfold Yr zo
 rw [h2]
 simp only [Int.zero_add, Int.mul_one, zoa, if_true]
 refine Prod.ext rfl (Prod.ext ?_ rfl)
 simp
theorem zmL {l : List Bool} (h : (Yr l).2.2 = 0) : z0T [] (Yr l).1 = ((z0T [] (Yr l).1).1, 0) ∧ (z0T [] (Yr l).1).1 ++ (Yr l).2.1 = l := by
 have h' : (ZD 8 0 0 1 l).2.2 = 0 := h
 obtain ⟨m, g1, g2, g3, g4, g5, g6, g7⟩ := z9x 8 0 0 1 l (by omega) (by omega) h'
 rw [Int.zero_add, Int.mul_one] at g4 g5
 have hu := z6y g1
 have hv : (Yr l).1 = unf m := g5
 have hr : (Yr l).2.1 = l.drop (zenc 8 m).length := by
  show (if (ZD 8 0 0 1 l).2.2 = 0 then l.drop (ZD 8 0 0 1 l).2.1.toNat else []) = _
  rw [if_pos h', g6]
  congr 1
  omega
 rw [hv, hr, z1x (by omega), zob g1]
 exact ⟨rfl, by rw [List.nil_append]; exact g7.symm⟩
end Go.Rb
namespace Go.Rb
def PtIn (p : Pt) : Prop := 0 ≤ p.1 ∧ p.1 ≤ 100000 ∧ -1000000 ≤ p.2 ∧ p.2 ≤ 1000000
def chk : Int → List Pt → Int
 | _, [] => 0
 | last, p :: r => if p.1 < 0 ∨ p.1 > 100000 ∨ p.2 < -1000000 ∨ p.2 > 1000000 then 3 else if last ≥ p.1 then 7 else chk p.1 r
def zQ (l : List Pt) : Int := if l.length > 40 then 2 else chk (-1) l
def z5e (l : List Pt) (i : Nat) : Int := if i = 0 then -1 else (l.getD (i - 1) default).1
theorem vq {α : Type} [Inhabited α] {l : List α} {i : Nat} (h : i < l.length) : l.drop i = l.getD i default :: l.drop (i + 1) := by
 rw [List.drop_eq_getElem_cons h]; simp [List.getD, List.getElem?_eq_getElem h]
theorem zof {l : List Pt} {i : Nat} (h : i < l.length) : chk (z5e l i) (l.drop i) =
  if (l.getD i default).1 < 0 ∨ (l.getD i default).1 > 100000 ∨ (l.getD i default).2 < -1000000 ∨ (l.getD i default).2 > 1000000 then 3 else if z5e l i ≥ (l.getD i default).1 then 7 else chk (z5e l (i + 1)) (l.drop (i + 1)) := by
 rw [vq h, chk]
 simp [z5e]
theorem zkE : ∀ {l : List Pt} {last : Int}, chk last l = 0 → ∀ p ∈ l, PtIn p
 | [], _, _, p, hp => by cases hp
 | q :: l, last, h, p, hp => by
  rw [chk] at h
  split at h
  ·cases h
  ·split at h
   ·cases h
   ·rcases List.mem_cons.1 hp with rfl | hp
    ·unfold PtIn; omega
    ·exact zkE h p hp
theorem Y6 {l : List Pt} (h : zQ l = 0) : l.length ≤ 40 := by
 unfold zQ at h
 split at h
 ·cases h
 ·omega
theorem z0U {l : List Pt} (h : zQ l = 0) : chk (-1) l = 0 := by
 unfold zQ at h
 split at h
 ·cases h
 ·exact h
theorem z7i {l : List Pt} (h : zQ l = 0) : ∀ p ∈ l, PtIn p := zkE (z0U h)
theorem y7 {α : Type} [Inhabited α] {l : List α} {i : Nat} (h : i < l.length) : l.getD i default ∈ l := by
 have : l.getD i default = l[i] := by simp [List.getD, List.getElem?_eq_getElem h]
 rw [this]; exact List.getElem_mem h
end Go.Rb
namespace Go.Rb
abbrev badP (p : Pt) : Prop := p.1 < 0 ∨ p.1 > 100000 ∨ p.2 < -1000000 ∨ p.2 > 1000000
def chkP (p : Pt) : Int := if badP p then 3 else 0
theorem zeC (p : Pt) : (badP p ∧ chkP p = 3) ∨ (PtIn p ∧ chkP p = 0) := by
 unfold chkP
 by_cases h : badP p
 ·left; exact ⟨h, if_pos h⟩
 ·right; exact ⟨by unfold badP at h; unfold PtIn; omega, if_neg h⟩
def Yc (l : List Pt) (i : Nat) : Pt := if i = 0 then ⟨0, 0⟩ else l.getD (i - 1) default
def vd (l : List Pt) (i : Nat) : Int := if i = 0 then 0 else (l.getD (i - 1) default).1 - (Yc l (i - 1)).1
theorem zlz (l : List Pt) (i : Nat) : Yc l (i + 1) = l.getD i default := by simp [Yc]
theorem zlA (l : List Pt) (i : Nat) : vd l (i + 1) = (l.getD i default).1 - (Yc l i).1 := by simp [vd]
def YC (last : Pt) (step : Int) (p : Pt) : List Bool := zenc 8 (Zm (p.1 - last.1 - step)) ++ zenc 8 (Zm (p.2 - last.2))
def yW (l : List Pt) (i : Nat) : List Bool := ((List.range i).map fun j => YC (Yc l j) (vd l j) (l.getD j default)).flatten
theorem z5M (l : List Pt) (i : Nat) : yW l (i + 1) = yW l i ++ YC (Yc l i) (vd l i) (l.getD i default) := by simp [yW, List.range_succ]
theorem zmM (a : Pt) (s : Int) (p : Pt) : (YC a s p).length ≤ 64 := by
 have h1 := z1v 8 (Zm (p.1 - a.1 - s))
 have h2 := z1v 8 (Zm (p.2 - a.2))
 unfold YC; rw [List.length_append]; omega
theorem zdk (l : List Pt) (i : Nat) : (yW l i).length ≤ 64 * i := by
 induction i with
 | zero => simp [yW]
 | succ i ih =>
  have := zmM (Yc l i) (vd l i) (l.getD i default)
  rw [z5M, List.length_append]; omega
def js (l : List Pt) : List Bool × Int := if zQ l = 0 then (yW l l.length, 0) else ([], zQ l)
theorem zoX {l : List Pt} (h : zQ l = 0) {i : Nat} (hi : i < l.length) : PtIn (l.getD i default) ∧ PtIn (Yc l i) ∧ -100000 ≤ vd l i ∧ vd l i ≤ 100000 := by
 have hall := z7i h
 have hp : ∀ j, j < l.length → PtIn (l.getD j default) := fun j hj => hall _ (y7 hj)
 have hl : ∀ j, j ≤ l.length → PtIn (Yc l j) := by
  intro j hj
  unfold Yc
  split
  ·unfold PtIn; decide
  ·exact hp _ (by omega)
 refine ⟨hp i hi, hl i (by omega), ?_⟩
 unfold vd
 split
 ·omega
 ·have h1 := hp (i - 1) (by omega)
  have h2 := hl (i - 1) (by omega)
  unfold PtIn at h1 h2
  omega
theorem second {l : List Pt} {i : Nat} : (i = 0 → (Yc l i).1 = 0 ∧ (Yc l i).2 = 0 ∧ vd l i = 0) ∧ (0 < i → (Yc l i) = l.getD (i - 1) default) ∧ (i = 1 → vd l i = (l.getD (i - 1) default).1) ∧
  (1 < i → vd l i = (l.getD (i - 1) default).1 - (l.getD (i - 2) default).1) := by
 refine ⟨?_, ?_, ?_, ?_⟩
 ·rintro rfl; simp [Yc, vd, ]
 ·intro h; unfold Yc; rw [if_neg (by omega)]
 ·rintro rfl; simp [Yc, vd, ]
 ·intro h
  unfold vd Yc
  rw [if_neg (by omega), if_neg (by omega), show i - 1 - 1 = i - 2 from by omega]
/-! ### Unpacking -/
def YD (k : Nat) (last p : Pt) : Int := if badP p then 3 else if 0 < k ∧ last.1 ≥ p.1 then 7 else 0
def nxt (last : Pt) (step : Int) (b : List Bool) : Pt := ⟨last.1 + step + (zo b).1, last.2 + (zo (b.drop (zo b).2.1.toNat)).1⟩
def Z0 (b : List Bool) : List Bool := b.drop (zo b).2.1.toNat
def z1L (b : List Bool) : List Bool := (Z0 b).drop (zo (Z0 b)).2.1.toNat
def unpk : Nat → Nat → Pt → Int → List Pt → List Bool → List Pt × Int
 | 0, _, _, _, acc, b => if b.length > 0 then ([], 8) else (acc, 0)
 | f + 1, k, last, step, acc, b =>
  if ¬ (zo b).2.2 = 0 then ([], (zo b).2.2) else
  if ¬ (zo (Z0 b)).2.2 = 0 then ([], (zo (Z0 b)).2.2) else
  if ¬ YD k last (nxt last step b) = 0 then ([], YD k last (nxt last step b)) else
  unpk f (k + 1) (nxt last step b) ((nxt last step b).1 - last.1) (acc ++ [nxt last step b]) (z1L b)
def ZA (b : List Bool) (n : Int) : List Pt × Int := if n < 0 ∨ n > 40 then ([], 2) else unpk n.toNat 0 ⟨0, 0⟩ 0 [] b
section
variable {f k : Nat} {last : Pt} {step : Int} {acc : List Pt} {b : List Bool}
theorem un_a (hf : 1 ≤ f) (h : ¬ (zo b).2.2 = 0) : unpk f k last step acc b = ([], (zo b).2.2) := by
 obtain ⟨g, rfl⟩ : ∃ g, f = g + 1 := ⟨f - 1, by omega⟩
 rw [unpk, if_pos h]
theorem un_b (hf : 1 ≤ f) (h : (zo b).2.2 = 0) (h1 : ¬ (zo (Z0 b)).2.2 = 0) : unpk f k last step acc b = ([], (zo (Z0 b)).2.2) := by
 obtain ⟨g, rfl⟩ : ∃ g, f = g + 1 := ⟨f - 1, by omega⟩
 rw [unpk, if_neg (by omega), if_pos h1]
theorem un_c (hf : 1 ≤ f) (h : (zo b).2.2 = 0) (h1 : (zo (Z0 b)).2.2 = 0) (h2 : ¬ YD k last (nxt last step b) = 0) : unpk f k last step acc b = ([], YD k last (nxt last step b)) := by
 obtain ⟨g, rfl⟩ : ∃ g, f = g + 1 := ⟨f - 1, by omega⟩
 rw [unpk, if_neg (by omega), if_neg (by omega), if_pos h2]
theorem un_d (hf : 1 ≤ f) (h : (zo b).2.2 = 0) (h1 : (zo (Z0 b)).2.2 = 0) (h2 : YD k last (nxt last step b) = 0) :
  unpk f k last step acc b = unpk (f - 1) (k + 1) (nxt last step b) ((nxt last step b).1 - last.1) (acc ++ [nxt last step b]) (z1L b) := by
 obtain ⟨g, rfl⟩ : ∃ g, f = g + 1 := ⟨f - 1, by omega⟩
 rw [unpk, if_neg (by omega), if_neg (by omega), if_neg (by omega)]; rfl
theorem un_e (h : b.length > 0) : unpk 0 k last step acc b = ([], 8) := by rw [unpk, if_pos h]
theorem un_f (h : ¬ b.length > 0) : unpk 0 k last step acc b = (acc, 0) := by rw [unpk, if_neg h]
end
theorem z7j (k : Nat) (last p : Pt) : (badP p ∧ YD k last p = 3) ∨ (PtIn p ∧ 0 < k ∧ p.1 ≤ last.1 ∧ YD k last p = 7) ∨ (PtIn p ∧ (k = 0 ∨ last.1 < p.1) ∧ YD k last p = 0) := by
 unfold YD
 by_cases h : badP p
 ·left; exact ⟨h, if_pos h⟩
 ·have hp : PtIn p := by unfold badP at h; unfold PtIn; omega
  right
  rw [if_neg h]
  by_cases h2 : 0 < k ∧ last.1 ≥ p.1
  ·left; rw [if_pos h2]; exact ⟨hp, h2.1, h2.2, rfl⟩
  ·right; rw [if_neg h2]; exact ⟨hp, by omega, rfl⟩
theorem zmN {acc : List Pt} {last p : Pt} {k : Nat} (hk : acc.length = k) (hl : PtIn last) (hlast : 0 < k → acc.getD (k - 1) default = last) : zQ (acc.drop (acc.length - 1) ++ [p]) = YD k last p := by
 by_cases h0 : k = 0
 ·have : acc = [] := List.eq_nil_of_length_eq_zero (by omega)
  subst this
  subst h0
  simp only [List.drop_nil, List.nil_append, zQ, List.length_cons, List.length_nil, chk, YD, badP]
  unfold PtIn at hl
  rw [if_neg (by omega)]
  by_cases hb : p.1 < 0 ∨ p.1 > 100000 ∨ p.2 < -1000000 ∨ p.2 > 1000000
  ·rw [if_pos hb, if_pos hb]
  ·rw [if_neg hb, if_neg hb, if_neg (by omega), if_neg (by omega)]
 ·have hd : acc.drop (acc.length - 1) = [last] := by
   rw [vq (by omega), List.drop_of_length_le (by omega), hk, hlast (by omega)]
  rw [hd]
  simp only [List.cons_append, List.nil_append, zQ, List.length_cons, List.length_nil, chk, YD, badP]
  unfold PtIn at hl
  rw [if_neg (by omega), if_neg (by omega), if_neg (by omega)]
  by_cases hb : p.1 < 0 ∨ p.1 > 100000 ∨ p.2 < -1000000 ∨ p.2 > 1000000
  ·rw [if_pos hb, if_pos hb]
  ·rw [if_neg hb, if_neg hb]
   by_cases hc : last.1 ≥ p.1
   ·rw [if_pos hc, if_pos ⟨by omega, hc⟩]
   ·rw [if_neg hc, if_neg (by omega)]
theorem z5f (l : List Bool) : -4000001 ≤ (zo l).1 ∧ (zo l).1 ≤ 4000000 := by
 by_cases h : (zo l).2.2 = 0
 ·obtain ⟨m, g1, g2, g3, g4, g5, _⟩ := z9x 8 0 0 1 l (by omega) (by omega) h
  rw [Int.zero_add, Int.mul_one] at g4 g5
  have hu := z6y g1
  have hv : (zo l).1 = unf m := g5
  omega
 ·rw [(zlx h).1]; omega
theorem zbq {b : List Bool} (h : (zo b).2.2 = 0) : (Yr b).2.1 = Z0 b := by unfold Yr Z0; exact if_pos h
theorem z9y (b : List Bool) : (Z0 b).length ≤ b.length := by unfold Z0; rw [List.length_drop]; omega
theorem zfI (b : List Bool) : (z1L b).length ≤ b.length := by
 have := z9y b
 unfold z1L; rw [List.length_drop]; omega
theorem zog {b : List Bool} (h : (zo b).2.2 = 0) (h1 : (zo (Z0 b)).2.2 = 0) : b.drop ((zo b).2.1 + (zo (Z0 b)).2.1).toNat = z1L b := by
 have g1 := z5d h
 have g2 := z5d h1
 unfold z1L Z0
 unfold Z0 at g2
 rw [List.drop_drop]
 congr 1
 omega
theorem zih : ∀ (f k : Nat) (last : Pt) (step : Int) (acc : List Pt) (b : List Bool), (unpk f k last step acc b).1.length ≤ acc.length + f
 | 0, k, last, step, acc, b => by
  by_cases h : b.length > 0
  ·rw [un_e h]; simp
  ·rw [un_f h]; simp
 | f + 1, k, last, step, acc, b => by
  by_cases h1 : (zo b).2.2 = 0
  ·by_cases h2 : (zo (Z0 b)).2.2 = 0
   ·by_cases h3 : YD k last (nxt last step b) = 0
    ·rw [un_d (by omega) h1 h2 h3]
     have := zih (f + 1 - 1) (k + 1) (nxt last step b) ((nxt last step b).1 - last.1) (acc ++ [nxt last step b]) (z1L b)
     rw [List.length_append] at this
     simp only [List.length_cons, List.length_nil] at this
     omega
    ·rw [un_c (by omega) h1 h2 h3]; simp
   ·rw [un_b (by omega) h1 h2]; simp
  ·rw [un_a (by omega) h1]; simp
theorem z5N (b : List Bool) (n : Int) : (ZA b n).1.length ≤ 40 := by
 unfold ZA
 split
 ·simp
 ·have := zih n.toNat 0 ⟨0, 0⟩ 0 [] b
  simp only [List.length_nil] at this
  omega
end Go.Rb
namespace Go.Rb
def Yj : Pt → Int → List Pt → List Bool
 | _, _, [] => []
 | last, st, p :: r => YC last st p ++ Yj p (p.1 - last.1) r
theorem zii (l : List Pt) : ∀ (d i : Nat), i + d = l.length → yW l i ++ Yj (Yc l i) (vd l i) (l.drop i) = yW l l.length
 | 0, i, h => by
  rw [List.drop_of_length_le (by omega), show i = l.length from by omega]
  simp [Yj]
 | d + 1, i, h => by
  rw [← zii l d (i + 1) (by omega), z5M, vq (show i < l.length by omega), Yj, zlz, zlA, List.append_assoc]
theorem z5g (l : List Pt) : Yj ⟨0, 0⟩ 0 l = yW l l.length := by
 have h := zii l l.length 0 (by omega)
 simpa [yW, Yc, vd] using h
theorem zkF (m : Int) : 4 ≤ (zenc 8 m).length := by
 rw [zenc, List.length_append, yF]; omega
theorem zoh (a : Pt) (s : Int) (p : Pt) : 8 ≤ (YC a s p).length := by
 have h1 := zkF (p.1 - a.1 - s |> Zm)
 have h2 := zkF (Zm (p.2 - a.2))
 unfold YC; rw [List.length_append]; omega
theorem zdl {v : Int} (h : -4000000 ≤ v ∧ v ≤ 4000000) (r : List Bool) : (zo (zenc 8 (Zm v) ++ r)).1 = v ∧ (zo (zenc 8 (Zm v) ++ r)).2.2 = 0 ∧ Z0 (zenc 8 (Zm v) ++ r) = r := by
 have h1 := zoe h r
 refine ⟨congrArg Prod.fst h1, congrArg (fun x => x.2.2) h1, ?_⟩
 have h2 : (Yr (zenc 8 (Zm v) ++ r)).2.1 = r := congrArg (fun x => x.2.1) h1
 rw [← zbq (congrArg (fun x => x.2.2) h1), h2]
theorem z9z {b : List Bool} (h : (zo b).2.2 = 0) : b = zenc 8 (Zm (zo b).1) ++ Z0 b ∧ -4000000 ≤ (zo b).1 ∧ (zo b).1 ≤ 4000000 := by
 have h1 := zmL (l := b) h
 have hr : -4000000 ≤ (zo b).1 ∧ (zo b).1 ≤ 4000000 := by
  apply Classical.byContradiction
  intro hc
  have h2 : (z0T [] (Yr b).1).2 = 3 := by
   unfold z0T
   rw [if_pos (by show (zo b).1 < _ ∨ (zo b).1 > _; omega)]
  rw [h1.1] at h2
  simp at h2
 refine ⟨?_, hr⟩
 have h3 := h1.2
 rw [z1x (v := (Yr b).1) hr, zbq h, List.nil_append] at h3
 exact h3.symm
def L0 (k : Nat) (last : Pt) : Int := if k = 0 then -1 else last.1
theorem zc5 {L : Int} {p : Pt} {r : List Pt} (h : chk L (p :: r) = 0) : PtIn p ∧ L < p.1 ∧ chk p.1 r = 0 := by
 rw [chk] at h
 split at h
 ·cases h
 ·split at h
  ·cases h
  ·exact ⟨by unfold PtIn; omega, by omega, h⟩
theorem zij {L : Int} {p : Pt} {r : List Pt} (h1 : PtIn p) (h2 : L < p.1) (h3 : chk p.1 r = 0) : chk L (p :: r) = 0 := by
 unfold PtIn at h1
 rw [chk, if_neg (by omega), if_neg (by omega)]; exact h3
theorem zlB {k : Nat} {last p : Pt} (h1 : PtIn p) (h2 : L0 k last < p.1) : YD k last p = 0 := by
 have h := z7j k last p
 unfold L0 at h2
 unfold badP at h
 unfold PtIn at h h1
 split at h2 <;> omega
theorem zmO {last p : Pt} {st : Int} (hl : PtIn last) (hs : -100000 ≤ st ∧ st ≤ 100000) (hp : PtIn p) (rest : List Bool) :
  (zo (YC last st p ++ rest)).2.2 = 0 ∧ (zo (Z0 (YC last st p ++ rest))).2.2 = 0 ∧ nxt last st (YC last st p ++ rest) = p ∧ z1L (YC last st p ++ rest) = rest := by
 unfold PtIn at hl hp
 have h1 := zdl (v := p.1 - last.1 - st) (by omega) (zenc 8 (Zm (p.2 - last.2)) ++ rest)
 have h2 := zdl (v := p.2 - last.2) (by omega) rest
 have e : YC last st p ++ rest = zenc 8 (Zm (p.1 - last.1 - st)) ++ (zenc 8 (Zm (p.2 - last.2)) ++ rest) := by unfold YC; rw [List.append_assoc]
 have hb : Z0 (YC last st p ++ rest) = zenc 8 (Zm (p.2 - last.2)) ++ rest := by rw [e, h1.2.2]
 refine ⟨by rw [e]; exact h1.2.1, by rw [hb]; exact h2.2.1, ?_, ?_⟩
 ·show (⟨last.1 + st + (zo (YC last st p ++ rest)).1, last.2 + (zo (Z0 (YC last st p ++ rest))).1⟩ : Pt) = p
  rw [hb, h2.1, e, h1.1]
  cases p
  simp only [Prod.mk.injEq, ]
  omega
 ·show Z0 (Z0 (YC last st p ++ rest)) = rest
  rw [hb, h2.2.2]
theorem z9A : ∀ (r : List Pt) (k : Nat) (last : Pt) (st : Int) (acc : List Pt) (more : List Bool), PtIn last → (-100000 ≤ st ∧ st ≤ 100000) → chk (L0 k last) r = 0 →
  unpk r.length k last st acc (Yj last st r ++ more) = if more.length > 0 then ([], 8) else (acc ++ r, 0)
 | [], k, last, st, acc, more, _, _, _ => by simp [Yj, unpk]
 | p :: r, k, last, st, acc, more, hl, hs, hc => by
  obtain ⟨h1, h2, h3⟩ := zc5 hc
  have hi := zmO hl hs h1 (Yj p (p.1 - last.1) r ++ more)
  rw [Yj, List.append_assoc, List.length_cons, un_d (by omega) hi.1 hi.2.1 (by rw [hi.2.2.1]; exact zlB h1 h2), hi.2.2.1, hi.2.2.2, Nat.add_sub_cancel]
  have hl' := hl
  have h1' := h1
  unfold PtIn at hl' h1'
  rw [z9A r (k + 1) p (p.1 - last.1) (acc ++ [p]) more h1 (by omega) (by unfold L0; rw [if_neg (by omega)]; exact h3), List.append_assoc]
  rfl
theorem z9B : ∀ (r1 r2 : List Pt) (last : Pt) (st : Int), ∃ last' st', Yj last st (r1 ++ r2) = Yj last st r1 ++ Yj last' st' r2
 | [], r2, last, st => ⟨last, st, rfl⟩
 | p :: r1, r2, last, st => by
  obtain ⟨a, b, h⟩ := z9B r1 r2 p (p.1 - last.1)
  exact ⟨a, b, by rw [List.cons_append, Yj, h, Yj, List.append_assoc]⟩
theorem zik : ∀ (l : List Pt) (L : Int) (k : Nat), chk L l = 0 → chk L (l.take k) = 0
 | [], _, _, _ => by simp [chk]
 | p :: l, L, 0, _ => rfl
 | p :: l, L, k + 1, h => by
  obtain ⟨h1, h2, h3⟩ := zc5 h
  rw [List.take_succ_cons]
  exact zij h1 h2 (zik l p.1 k h3)
theorem zjM {l : List Pt} (h : zQ l = 0) (k : Nat) : zQ (l.take k) = 0 := by
 have h1 := Y6 h
 unfold zQ
 rw [if_neg (by rw [List.length_take]; omega)]
 exact zik l (-1) k (z0U h)
theorem z1y : PtIn ⟨0, 0⟩ := by unfold PtIn; decide
theorem zfJ {l : List Pt} (h : zQ l = 0) : js l = (yW l l.length, 0) ∧ ZA (yW l l.length) l.length = (l, 0) ∧ (0 < l.length → ¬ (ZA (yW l l.length) (l.length - 1)).2 = 0) := by
 have hl := Y6 h
 refine ⟨by unfold js; rw [if_pos h], ?_, ?_⟩
 ·unfold ZA
  rw [if_neg (by omega)]
  have h1 := z9A l 0 ⟨0, 0⟩ 0 [] [] z1y (by omega) (z0U h)
  rw [List.append_nil, z5g] at h1
  rw [show ((l.length : Int)).toNat = l.length from by omega, h1]
  simp
 ·intro h0
  unfold ZA
  rw [if_neg (by omega), show ((l.length : Int) - 1).toNat = (l.take (l.length - 1)).length from by rw [List.length_take]; omega]
  obtain ⟨a, b, hab⟩ := z9B (l.take (l.length - 1)) (l.drop (l.length - 1)) ⟨0, 0⟩ 0
  rw [List.take_append_drop] at hab
  rw [← z5g, hab, z9A _ 0 ⟨0, 0⟩ 0 [] _ z1y (by omega) (z0U (zjM h _))]
  rw [if_pos]
  ·decide
  ·rw [vq (by omega), Yj, List.length_append]
   have := zoh a b (l.getD (l.length - 1) default)
   omega
theorem zil : ∀ (f k : Nat) (last : Pt) (st : Int) (acc : List Pt) (b : List Bool), PtIn last → (unpk f k last st acc b).2 = 0 →
  ∃ r, r.length = f ∧ (unpk f k last st acc b).1 = acc ++ r ∧ b = Yj last st r ∧ chk (L0 k last) r = 0
 | 0, k, last, st, acc, b, _, h => by
  by_cases hb : b.length > 0
  ·rw [un_e hb] at h; simp at h
  ·rw [un_f hb]
   exact ⟨[], rfl, by simp, by simpa [Yj] using hb, rfl⟩
 | f + 1, k, last, st, acc, b, hl, h => by
  by_cases h1 : (zo b).2.2 = 0
  ·by_cases h2 : (zo (Z0 b)).2.2 = 0
   ·by_cases h3 : YD k last (nxt last st b) = 0
    ·rw [un_d (by omega) h1 h2 h3, Nat.add_sub_cancel] at h ⊢
     have hse := z7j k last (nxt last st b)
     have hp : PtIn (nxt last st b) ∧ (k = 0 ∨ last.1 < (nxt last st b).1) := by
      rcases hse with g | g | g
      ·omega
      ·omega
      ·exact ⟨g.1, g.2.1⟩
     obtain ⟨r, g1, g2, g3, g4⟩ := zil f (k + 1) _ _ _ _ hp.1 h
     have s1 := z9z h1
     have s2 := z9z h2
     refine ⟨nxt last st b :: r, by simp [g1], by rw [g2, List.append_assoc]; rfl, ?_, ?_⟩
     ·rw [Yj, ← g3]
      show b = (zenc 8 (Zm (last.1 + st + (zo b).1 - last.1 - st)) ++ zenc 8 (Zm (last.2 + (zo (Z0 b)).1 - last.2))) ++ Z0 (Z0 b)
      rw [show last.1 + st + (zo b).1 - last.1 - st = (zo b).1 from by omega, show last.2 + (zo (Z0 b)).1 - last.2 = (zo (Z0 b)).1 from by omega, List.append_assoc, ← s2.1]
      exact s1.1
     ·refine zij hp.1 ?_ ?_
      ·have := hp.1
       unfold PtIn at this
       unfold L0
       split <;> omega
      ·unfold L0 at g4
       rw [if_neg (by omega)] at g4
       exact g4
    ·rw [un_c (by omega) h1 h2 h3] at h; exact absurd h h3
   ·rw [un_b (by omega) h1 h2] at h; exact absurd h h2
  ·rw [un_a (by omega) h1] at h; exact absurd h h1
theorem zlC {b : List Bool} {n : Int} (h : (ZA b n).2 = 0) : js (ZA b n).1 = (b, 0) ∧ ((ZA b n).1.length : Int) = n ∧ zQ (ZA b n).1 = 0 := by
 unfold ZA at h ⊢
 by_cases hn : n < 0 ∨ n > 40
 ·rw [if_pos hn] at h; simp at h
 ·rw [if_neg hn] at h ⊢
  obtain ⟨r, g1, g2, g3, g4⟩ := zil _ _ _ _ _ _ z1y h
  rw [g2, List.nil_append]
  have hc : zQ r = 0 := by
   unfold zQ
   rw [if_neg (by omega)]
   exact g4
  refine ⟨?_, by omega, hc⟩
  unfold js
  rw [if_pos hc, ← z5g, ← g3]
/-! ### Beginnings -/
/-! ### Steady points -/
end Go.Rb
namespace Go.Rb
def zdm : Bk := ⟨0, 0, 0, []⟩
def mkB (l : List Pt) : Bk := ⟨l.length, (l.getD 0 default).1, (l.getD (l.length - 1) default).1, yW l l.length⟩
def V6 (l : List Pt) : Bk × Int := if ¬ (js l).2 = 0 then (zdm, (js l).2) else if l.length = 0 then (zdm, 4) else (⟨l.length, (l.getD 0 default).1, (l.getD (l.length - 1) default).1, (js l).1⟩, 0)
def ptsR (x : Bk) : List Pt × Int :=
 if ¬ (ZA x.2.2.2 x.1).2 = 0 then ([], (ZA x.2.2.2 x.1).2) else
 if (ZA x.2.2.2 x.1).1.length = 0 ∨ ¬ ((ZA x.2.2.2 x.1).1.getD 0 default).1 = x.2.1 ∨ ¬ ((ZA x.2.2.2 x.1).1.getD ((ZA x.2.2.2 x.1).1.length - 1) default).1 = x.2.2.1 then ([], 4) else ((ZA x.2.2.2 x.1).1, 0)
def Ye (x y : Bk) : Bk × Int := if ¬ (ptsR x).2 = 0 then (zdm, (ptsR x).2) else if ¬ (ptsR y).2 = 0 then (zdm, (ptsR y).2) else V6 ((ptsR x).1 ++ (ptsR y).1)
theorem z1z (x : Bk) : (ptsR x).1.length ≤ 40 := by
 have := z5N x.2.2.2 x.1
 unfold ptsR
 split
 ·simp
 ·split
  ·simp
  ·exact this
theorem zoi {l : List Pt} (h : l.length ≤ 40) : (mkB l).2.2.2.length ≤ 2560 := by
 have := zdk l l.length
 show (yW l l.length).length ≤ 2560
 omega
theorem z48 {l : List Pt} (h : zQ l = 0) (h0 : 0 < l.length) : V6 l = (mkB l, 0) ∧ ptsR (mkB l) = (l, 0) := by
 have hb := zfJ h
 refine ⟨?_, ?_⟩
 ·unfold V6
  rw [hb.1, if_neg (by simp), if_neg (by omega)]; rfl
 ·have hu : ZA (mkB l).2.2.2 (mkB l).1 = (l, 0) := hb.2.1
  unfold ptsR
  rw [hu, if_neg (by simp), if_neg (not_or.2 ⟨by show ¬ l.length = 0; omega, not_or.2 ⟨fun h => h rfl, fun h => h rfl⟩⟩)]
theorem zmP {a b : List Pt} (ha : zQ a = 0) (hb : zQ b = 0) (ha0 : 0 < a.length) (hb0 : 0 < b.length) (h : zQ (a ++ b) = 0) : Ye (mkB a) (mkB b) = (mkB (a ++ b), 0) := by
 unfold Ye
 rw [(z48 ha ha0).2, (z48 hb hb0).2, if_neg (by simp), if_neg (by simp)]
 exact (z48 h (by rw [List.length_append]; omega)).1
end Go.Rb
namespace Go.Proofs.Y
open Go.Rb Go.Kx
theorem z9C {a : List Bool} (h : a.length ≤ 140737488355328) : JF a = some a := z09 1 a (by omega) (by omega)
theorem zfK {a b : List Bool} (h : a.length < 4611686018427387904) : z40 a b = some (decide (a = b)) := zfC eqB (fun x y => by cases x <;> cases y <;> rfl) a b h
theorem zeD {n k : Int} (h0 : 0 ≤ n) (hk : 0 ≤ k ∧ k ≤ 40) : wshr .i64 n k = n / 2 ^ k.toNat := by
 unfold wshr
 rw [show min k.toNat IntKind.i64.bits = k.toNat from by show min k.toNat 64 = _; omega, zo8 h0]
theorem zqs {n k : Int} (h0 : 0 ≤ n) (h1 : n ≤ 9223372036854775807) (hk : 0 ≤ k ∧ k ≤ 40) : eqI (wand .i64 (wshr .i64 n k) 1) 1 = z0S n k.toNat := by
 have h2 := zlw h0 k.toNat
 rw [zeD h0 hk]
 unfold wand eqI z0S
 rw [zo7 h2.1 (by omega)]
theorem zmQ (l : List Bool) (n w : Int) (hl : l.length ≤ 140737488355200) (hn : n ≤ 9223372036854775807) : jo l n w = some (putR l n w) := by
 unfold jo putR
 rw [zh, zx, zh, zh, zi, z9C (by omega), z7]
 by_cases hw0 : w < 0
 ·rw [if_pos hw0, if_neg (by unfold zax; omega)]
 rw [if_neg hw0]
 by_cases hw1 : 40 < w
 ·rw [if_pos hw1, if_neg (by unfold zax; omega)]
 rw [if_neg hw1]
 by_cases hn0 : n < 0
 ·rw [if_pos hn0, if_neg (by unfold zax; omega)]
 rw [if_neg hn0, if_neg hw0, zeD (by omega) ⟨by omega, by omega⟩]
 by_cases hs : n / 2 ^ w.toNat = 0
 ·rw [if_pos hs, if_pos ⟨by omega, by omega, by omega, (zic (by omega)).1 hs⟩]
  have hws : wsub .i64 w 1 = w - 1 := Zz ⟨by omega, by omega⟩
  rw [hws]
  have key := yB (f := fun (x : Int × List Bool) => ifB (geI (Prod.fst x) 0) (ifB (ltI (Prod.fst x) 0) none (ifB (ze 1 (Prod.snd x) [eqI (wand IntKind.i64 (wshr IntKind.i64 n (Prod.fst x)) 1) 1])
    (some (Sum.inl (wsub IntKind.i64 (Prod.fst x) 1, cat (Prod.snd x) [eqI (wand IntKind.i64 (wshr IntKind.i64 n (Prod.fst x)) 1) 1]))) none)) (mapO Sum.inr (some (Prod.snd x, (0 : Int)))))
   (G := fun x => some (x.2 ++ (ZQ w.toNat n).drop (w - 1 - x.1).toNat, 0)) (P := fun x => -1 ≤ x.1 ∧ x.1 ≤ w - 1 ∧ (x.2.length : Int) ≤ l.length + (w - 1 - x.1)) (μ := fun x => (x.1 + 1).toNat) ?_ maxR (w - 1, l) ⟨by show -1 ≤ w - 1; omega, by show w - 1 ≤ w - 1; omega, by show (l.length : Int) ≤ l.length + (w - 1 - (w - 1)); omega⟩ (by show (w - 1 + 1).toNat < maxR; unfold maxR; omega)
  ·rw [key]
   simp
  ·rintro ⟨k, acc⟩ ⟨h0, h1, h2⟩ K hk
   simp only at h0 h1 h2
   simp only [zA, zq, Z5, zd, Zu, zw, Zi, Zv, Zq, zh, Zo, zx, zT, zf, zi, zB, Zw, ZF, ZL, zD, Zx, Zr, Zs, Zt, Zj, Z6, zH, ZM, zz, Z3, Z8, Z4, Zp, ZN, Zk, z7, zZ, Zd, Ze, zb, ZG, zY, zS, Z1, ZO, Zl, zM, Zy, List.length_cons, List.length_nil]
   by_cases hk0 : 0 ≤ k
   ·rw [if_pos hk0, if_neg (by omega), if_pos ⟨by omega, by omega⟩, zqs (by omega) hn ⟨hk0, by omega⟩, Zz ⟨by omega, by omega⟩]
    rw [hk _ ⟨by show -1 ≤ k - 1; omega, by show k - 1 ≤ w - 1; omega, by show (((acc ++ [z0S n k.toNat]).length : Nat) : Int) ≤ l.length + (w - 1 - (k - 1)); rw [List.length_append, List.length_cons, List.length_nil]; omega⟩ (by show (k - 1 + 1).toNat < (k + 1).toNat; omega)]
    have hlt : (w - 1 - k).toNat < (ZQ w.toNat n).length := by rw [yF]; omega
    show some (acc ++ [z0S n k.toNat] ++ (ZQ w.toNat n).drop (w - 1 - (k - 1)).toNat, (0 : Int)) = some (acc ++ (ZQ w.toNat n).drop (w - 1 - k).toNat, 0)
    rw [vq hlt, zmF (by omega), show (w - 1 - (k - 1)).toNat = (w - 1 - k).toNat + 1 by omega, show w.toNat - 1 - (w - 1 - k).toNat = k.toNat by omega]
    simp
   ·rw [if_neg hk0, List.drop_of_length_le (by rw [yF]; omega), List.append_nil]
 ·rw [if_neg hs, if_neg (by intro hc; exact hs ((zic (by omega)).2 hc.2.2.2))]
theorem zpx (l : List Bool) (w : Int) (hl : l.length ≤ 140737488355328) : Jj l w = some (zP l w) := by
 unfold Jj zP
 rw [zh, zx, zh, zD, zb]
 by_cases hw0 : w < 0
 ·rw [if_pos hw0, if_pos (by omega)]
 rw [if_neg hw0]
 by_cases hw1 : 40 < w
 ·rw [if_pos hw1, if_pos (by omega)]
 rw [if_neg hw1, if_neg (show ¬ (w < 0 ∨ w > 40) by omega)]
 by_cases hw2 : (l.length : Int) < w
 ·rw [if_pos hw2, if_pos hw2]
 rw [if_neg hw2, if_neg hw2, if_pos ⟨by omega, by omega⟩, zS]
 have hlen : (l.take w.toNat).length = w.toNat := by rw [List.length_take]; omega
 generalize l.take w.toNat = a at hlen
 show _ = some (a.foldl (fun n b => 2 * n + (if b then 1 else 0)) (0 : Int), (0 : Int))
 refine zR a (fun j (s : Int) => (s, (j : Int))) (G := fun rest (s : Int) => some (rest.foldl (fun (n : Int) b => 2 * n + (if b then 1 else 0)) s, (0 : Int))) (P := fun j s => 0 ≤ s ∧ s < 2 ^ j) ?_ ?_ (s0 := 0) ⟨by omega, by decide⟩ (by omega)
 ·rintro j s hj ⟨h0, h1⟩ k hk
  have h2 := (zr4 (k := j) (by omega)).2
  have h3 : (2 : Int) ^ (j + 1) = 2 ^ j * 2 := Int.pow_succ _ _
  simp only [zA, zq, Z5, zd, Zu, zw, Zi, Zv, Zq, zh, Zo, zx, zT, zf, zi, zB, Zw, ZF, ZL, zD, Zx, Zr, Zs, Zt, Zj, Z6, zH, ZM, zz, Z3, Z8, Z4, Zp, ZN, Zk, z7, zZ, Zd, Ze, zb, ZG, zY, zS, Z1, ZO, Zl, zM, Zy, za]
  rw [if_pos (by omega), zK hj, z7, zF (by omega), YN ⟨by omega, by omega⟩]
  rw [ZP ⟨by omega, by omega⟩, hk _ ⟨by omega, by omega⟩, hk _ ⟨by omega, by omega⟩, List.foldl_cons, z6u]
  cases a.getD j default <;> simp [Int.mul_comm]
 ·rintro s ⟨h0, h1⟩ k
  simp only [zA, zq, Z5, zd, Zu, zw, Zi, Zv, Zq, zh, Zo, zx, zT, zf, zi, zB, Zw, ZF, ZL, zD, Zx, Zr, Zs, Zt, Zj, Z6, zH, ZM, zz, Z3, Z8, Z4, Zp, ZN, Zk, z7, zZ, Zd, Ze, zb, ZG, zY, zS, Z1, ZO, Zl, zM, Zy]
  rw [if_neg (by omega)]
  rfl
end Go.Proofs.Y
namespace Go.Proofs.Y
open Go.Rb Go.Kx
theorem zlD {n : Int} (h : 0 ≤ n) : wrem n 8 = n % 8 := by unfold wrem; exact Int.tmod_eq_emod_of_nonneg h
theorem zoY {n : Int} (h : 0 ≤ n) : wrem n 2 = n % 2 := by unfold wrem; exact Int.tmod_eq_emod_of_nonneg h
theorem zoZ {n : Int} (h : 0 ≤ n) (h1 : n ≤ 9223372036854775807) : wquo .i64 n 8 = n / 8 := by
 unfold wquo; rw [Int.tdiv_eq_ediv_of_nonneg h]; exact z0R (by omega) (by omega)
theorem zpy {v : Int} (h : -4000000 ≤ v ∧ v ≤ 4000000) : z0P v = some (Zm v) := by
 unfold z0P Zm
 rw [zh]
 split
 ·rw [YN ⟨by omega, by omega⟩, Zz ⟨by omega, by omega⟩]
 ·rw [YN ⟨by omega, by omega⟩]
theorem zkG : ∀ (f : Nat) (m : Int), 1 ≤ f → 0 ≤ m → m < 8 ^ f → zenc (f + 1) m = zenc f m
 | 0, m, h, _, _ => absurd h (by omega)
 | f + 1, m, _, h0, h1 => by
  by_cases h8 : m < 8
  ·rw [VZ (by omega) h8, VZ (by omega) h8]
  ·have h2 := z6z (f := f + 1) h1 (by omega)
   rw [z0a (f := f + 2) (by omega) (by omega), z0a (f := f + 1) (by omega) (by omega)]
   exact congrArg _ (zkG f (m / 8) (by omega) (by omega) h2.2)
theorem zkH (l : List Bool) (v : Int) (hl : l.length ≤ 140737488355100) : z08 l v = some (z0T l v) := by
 unfold z08 z0T
 rw [zh, zx]
 by_cases h0 : v < -4000000
 ·rw [if_pos h0, if_pos (.inl h0)]
 rw [if_neg h0]
 by_cases h1 : 4000000 < v
 ·rw [if_pos h1, if_pos (.inr h1)]
 rw [if_neg h1, if_neg (show ¬ (v < -4000000 ∨ v > 4000000) by omega), zpy ⟨by omega, by omega⟩, z7]
 have hf := z1u v
 refine yB (G := fun x => some (x.1 ++ zenc 8 x.2, (0 : Int))) (P := fun (x : List Bool × Int) => 0 ≤ x.2 ∧ ∃ f, 1 ≤ f ∧ f ≤ 8 ∧ x.2 < 8 ^ f ∧ x.1.length ≤ l.length + 4 * (8 - f)) (μ := fun x => x.2.toNat) ?_ maxR (l, Zm v) ⟨by show 0 ≤ Zm v; omega, 8, by omega, by omega, by show Zm v < 8 ^ 8; omega, by show l.length ≤ _; omega⟩ (by show (Zm v).toNat < maxR; unfold maxR; omega)
 rintro ⟨acc, n⟩ ⟨g0, f, g1, g2, g3, g4⟩ k hk
 simp only at g0 g3 g4
 have h8 := (pow8 g2).2
 simp only [zA, zq, Z5, zd, Zu, zw, Zi, Zv, Zq, zh, Zo, zx, zT, zf, zi, zB, Zw, ZF, ZL, zD, Zx, Zr, Zs, Zt, Zj, Z6, zH, ZM, zz, Z3, Z8, Z4, Zp, ZN, Zk, z7, zZ, Zd, Ze, zb, ZG, zY, zS, Z1, ZO, Zl, zM, Zy]
 rw [zlD g0, ZP ⟨by omega, by omega⟩, ZP ⟨by omega, by omega⟩, zmQ _ _ _ (by omega) (by omega), zmQ _ _ _ (by omega) (by omega), z7, z7, (putm g0).1, (putm g0).2, zoZ g0 (by omega)]
 split
 ·rename_i hge
  have hd := z6z g3 hge
  rw [hk _ ⟨by show 0 ≤ n / 8; omega, f - 1, by omega, by omega, hd.2, by show (acc ++ ZQ 4 (8 + n % 8)).length ≤ _; rw [List.length_append, yF]; omega⟩ (by show (n / 8).toNat < n.toNat; omega)]
  show some (acc ++ ZQ 4 (8 + n % 8) ++ zenc 8 (n / 8), (0 : Int)) = _
  rw [z0a (f := 8) (m := n) (by omega) hge, List.append_assoc]
  congr 4
  refine (zkG 7 (n / 8) (by omega) (by omega) ?_).trans rfl
  have : n < 8 ^ 8 := by have : (8 : Int) ^ 8 = 16777216 := by decide
                         omega
  show n / 8 < 8 ^ 7
  omega
 ·rename_i hlt
  show some (acc ++ ZQ 4 (0 + n % 8), (0 : Int)) = _
  rw [VZ (f := 8) (m := n) (by omega) (by omega)]
theorem zim (l : List Bool) (hl : l.length ≤ 140737488355328) : jm l = some (zo l) := by
 unfold jm zo
 refine yB (G := fun (x : Int × Int × Int) => some (ZD (8 - x.2.2.toNat) x.2.2.toNat x.1 x.2.1 (l.drop (4 * x.2.2.toNat)))) (P := fun (x : Int × Int × Int) => 0 ≤ x.2.2 ∧ x.2.2 ≤ 8 ∧ 0 ≤ x.1 ∧ x.1 ≤ 8000000 ∧ x.2.1 = 8 ^ x.2.2.toNat) (μ := fun x => 8 - x.2.2.toNat) ?_ maxR (0, 1, 0) ⟨by decide, by decide, by decide, by decide, by decide⟩ (by decide)
 rintro ⟨n, sc, kk⟩ ⟨g0, g1, g2, g3, g4⟩ K hk
 simp only at g0 g1 g2 g3 g4
 obtain ⟨k, rfl⟩ : ∃ k : Nat, kk = k := ⟨kk.toNat, by omega⟩
 rw [Int.toNat_natCast] at g4
 have hp := pow8 (k := k) (by omega)
 have hmin : minI (lenI l) (wmul .i64 4 (k : Int)) = min (l.length : Int) (4 * k) := by
  rw [YN ⟨by omega, by omega⟩]; rfl
 have hdrop : yb l (minI (lenI l) (wmul .i64 4 (k : Int))) = l.drop (4 * k) := by
  rw [hmin, Z1]
  by_cases h : (l.length : Int) ≤ 4 * k
  ·rw [List.drop_of_length_le (by omega), List.drop_of_length_le (by omega)]
  ·congr 1; omega
 have hin : in1 l (minI (lenI l) (wmul .i64 4 (k : Int))) = true := by
  rw [hmin, in1, ← Bool.decide_and]; exact decide_eq_true ⟨by omega, by omega⟩
 have hrd := zpx (l.drop (4 * k)) 4 (by rw [List.length_drop]; omega)
 have h4 : wadd .i64 (wmul .i64 4 (k : Int)) 4 = 4 * (k : Int) + 4 := by rw [YN ⟨by omega, by omega⟩, ZP ⟨by omega, by omega⟩]
 simp only [hin, hdrop, hrd, h4, Zi, z7, Int.toNat_natCast]
 simp only [za, zd, zq, zw]
 rw [zh]
 by_cases h8 : (k : Int) < 8
 ·rw [if_pos h8]
  rcases rd4 (l.drop (4 * k)) with ⟨r1, r2, r3⟩ | ⟨r1, r2, r3, r4, r5⟩
  ·rw [zi, r3, if_neg (by decide), z6A (by omega) r1]
  ·rw [zi, r3, if_pos rfl]
   generalize hx : (zP (List.drop (4 * k) l) 4).fst = x at *
   have hm := zie (a := x % 8) (b := sc) (c := 16777216) (by omega) (by omega) (by omega) (by omega)
   have hsc : sc ≤ 2097152 := by
    rw [g4]
    exact (by decide : ∀ k : Fin 8, (8 : Int) ^ k.val ≤ 2097152) ⟨k, by omega⟩
   rw [zlD r4, YN ⟨by omega, by omega⟩, ZP ⟨by omega, by omega⟩, YN (a := sc) (b := 8) ⟨by omega, by omega⟩, zF (by omega)]
   have hmm := zie (a := x % 8) (b := sc) (c := 2097152) (by omega) (by omega) (by omega) hsc
   generalize hN : n + x % 8 * sc = N at *
   have hwa : wadd .i64 N 1 = N + 1 := ZP ⟨by omega, by omega⟩
   have hwn : wneg .i64 (N + 1) = 0 - (N + 1) := zey ⟨by omega, by omega⟩
   rw [hwa, hwn, zoY (by omega)]
   -- what is read
   have tail : ¬ (x = 0 ∧ 0 < k) → ifB (gtI N 8000000) (some (0, 0, 3)) (ifB (ltI x 8) (ifB (eqI (N % 2) 1) (some (wquo IntKind.i64 (0 - (N + 1)) 2, 4 * (k : Int) + 4, 0)) (some (wquo IntKind.i64 N 2, 4 * (k : Int) + 4, 0))) (K (N, sc * 8, ((k + 1 : Nat) : Int)))) =
     some (ZD (8 - k) k n sc (List.drop (4 * k) l)) := by
    intro hnf
    rw [zx]
    by_cases hr : 8000000 < N
    ·rw [if_pos hr, z47 (by omega) r1 (by rw [hx]; exact hnf) (by rw [hx, hN]; exact hr)]
    rw [if_neg hr, zh]
    by_cases hd : x < 8
    ·rw [if_pos hd, z1w (by omega) r1 (by rw [hx]; exact hnf) (by rw [hx, hN]; omega) (by rw [hx]; exact hd), hx, hN, zf]
     rcases z6y (n := N) (by omega) with ⟨u1, u2, u3⟩ | ⟨u1, u2, u3⟩
     ·rw [if_pos u1]
      unfold wquo
      rw [u3, z0R (by omega) (by omega)]
     ·rw [if_neg (by omega)]
      unfold wquo
      rw [u3, z0R (by omega) (by omega)]
    ·rw [if_neg hd, z3q (by omega) r1 (by rw [hx]; exact hnf) (by rw [hx, hN]; omega) (by rw [hx]; exact hd), hx, hN]
     rw [hk _ ⟨by show (0 : Int) ≤ ((k + 1 : Nat) : Int); omega, by show ((k + 1 : Nat) : Int) ≤ 8; omega, by show 0 ≤ N; omega, by show N ≤ 8000000; omega, by show sc * 8 = 8 ^ (((k + 1 : Nat) : Int)).toNat; rw [Int.toNat_natCast, g4, Int.pow_succ]⟩ (by show 8 - (((k + 1 : Nat) : Int)).toNat < 8 - ((k : Int)).toNat; omega)]
     simp only [Int.toNat_natCast, List.drop_drop]
     rfl
   rw [zf]
   by_cases h0 : x = 0
   ·rw [if_pos h0, zx]
    by_cases hk0 : (0 : Int) < k
    ·rw [if_pos hk0, z6B (by omega) r1 (by rw [hx]; exact h0) (by omega)]
    ·rw [if_neg hk0]; exact tail (by omega)
   ·rw [if_neg h0]; exact tail (by omega)
 ·rw [if_neg h8]
  have : k = 8 := by omega
  subst this
  rfl
end Go.Proofs.Y
namespace Go.Proofs.Y
open Go.Rb Go.Kx
theorem Jz (a b c : Int) : zj a b c = some (decide (b ≤ a ∧ a ≤ c)) := by
 unfold zj
 rw [Zo]
 split
 ·simp [leI, *]
 ·simp [*]
theorem zkI : ∀ (f : Nat) (m : Int), (dig f m).length ≤ f
 | 0, _ => by simp [dig]
 | f + 1, m => by
  rw [dig, List.length_cons]
  split
  ·have := zkI f (m / 8); omega
  ·simp
theorem zlE (l : List Bool) (D : List Int) (hl : l.length ≤ 140737488355100) (hD : D.length ≤ 8) : zk maxR (fun (x_1 : Int × List Bool) => ifB (ltI (Prod.fst x_1) (lenI D)) (ifB (ltL (Prod.fst x_1) D)
   (z6 (atN D (natI (Prod.fst x_1))) fun (y : Int) => ifB (ze 1 (Prod.snd x_1) [ltI (Prod.fst x_1) (wsub IntKind.i64 (lenI D) 1), geI y 4, geI (wrem y 4) 2, eqI (wrem y 2) 1])
    (some (Sum.inl (wadd IntKind.i64 (Prod.fst x_1) 1, cat (Prod.snd x_1) [ltI (Prod.fst x_1) (wsub IntKind.i64 (lenI D) 1), geI y 4, geI (wrem y 4) 2, eqI (wrem y 2) 1]))) none) none)
   (mapO Sum.inr (some (Prod.snd x_1, (0 : Int))))) (0, l) = some (l ++ Yd D D.length, 0) := by
 refine zR D (fun j (s : List Bool) => ((j : Int), s)) (G := fun _ _ => some (l ++ Yd D D.length, (0 : Int))) (P := fun j s => s = l ++ Yd D j) ?_ ?_ (s0 := l) (by simp [Yd]) (by omega)
 ·rintro j s hj rfl k hk
  have hc := zly D j
  simp only [zA, zq, Z5, zd, Zu, zw, Zi, Zv, Zq, zh, Zo, zx, zT, zf, zi, zB, Zw, ZF, ZL, zD, Zx, Zr, Zs, Zt, Zj, Z6, zH, ZM, zz, Z3, Z8, Z4, Zp, ZN, Zk, z7, zZ, Zd, Ze, zb, ZG, zY, zS, Z1, ZO, Zl, zM, Zy]
  rw [if_pos (by omega), if_pos ⟨by omega, by omega⟩, Int.toNat_natCast, yV hj, z7, zF (by omega), if_pos (by simp only [List.length_append, List.length_cons, List.length_nil, hc]; omega)]
  rw [hk _ ?_]
  rw [zbp, List.append_assoc]
  congr 2
  unfold grp wsub wrem ltI geI eqI
  rw [z0R (by omega) (by omega)]
 ·rintro s rfl k
  simp only [zA, zq, Z5, zd, Zu, zw, Zi, Zv, Zq, zh, Zo, zx, zT, zf, zi, zB, Zw, ZF, ZL, zD, Zx, Zr, Zs, Zt, Zj, Z6, zH, ZM, zz, Z3, Z8, Z4, Zp, ZN, Zk, z7, zZ, Zd, Ze, zb, ZG, zY, zS, Z1, ZO, Zl, zM, Zy]
  rw [if_neg (by omega)]
theorem zin (l : List Bool) (v : Int) (hl : l.length ≤ 140737488355100) : zU l v = some (z0T l v) := by
 unfold zU z0T
 rw [Jz, z7, zB, zL, z9C (by omega)]
 by_cases hv : -4000000 ≤ v ∧ v ≤ 4000000
 ·rw [if_pos hv, if_neg (by omega), ← zmI hv]
  have hf := z1u v
  have key : ∀ N0 : Int, 0 ≤ N0 → N0 < 16777216 → zk maxR (fun (x : Int × Bool × List Int) => ifB (Prod.fst (Prod.snd x)) (ifB (ze 8 (Prod.snd (Prod.snd x)) [wrem (Prod.fst x) 8])
     (some (Sum.inl (wquo IntKind.i64 (Prod.fst x) 8, false, cat (Prod.snd (Prod.snd x)) [wrem (Prod.fst x) 8]))) none)
    (ifB (gtI (Prod.fst x) 0) (ifB (ze 8 (Prod.snd (Prod.snd x)) [wrem (Prod.fst x) 8])
      (some (Sum.inl (wquo IntKind.i64 (Prod.fst x) 8, false, cat (Prod.snd (Prod.snd x)) [wrem (Prod.fst x) 8]))) none)
     (mapO Sum.inr (z6 (some l) fun (y : List Bool) => zk maxR (fun (x_1 : Int × List Bool) => ifB (ltI (Prod.fst x_1) (lenI (Prod.snd (Prod.snd x)))) (ifB (ltL (Prod.fst x_1) (Prod.snd (Prod.snd x)))
      (z6 (atN (Prod.snd (Prod.snd x)) (natI (Prod.fst x_1))) fun (y : Int) => ifB (ze 1 (Prod.snd x_1) [ltI (Prod.fst x_1) (wsub IntKind.i64 (lenI (Prod.snd (Prod.snd x))) 1), geI y 4, geI (wrem y 4) 2, eqI (wrem y 2) 1])
       (some (Sum.inl (wadd IntKind.i64 (Prod.fst x_1) 1, cat (Prod.snd x_1) [ltI (Prod.fst x_1) (wsub IntKind.i64 (lenI (Prod.snd (Prod.snd x))) 1), geI y 4, geI (wrem y 4) 2, eqI (wrem y 2) 1]))) none) none)
      (mapO Sum.inr (some (Prod.snd x_1, (0 : Int))))) (0, y))))) (N0, true, []) = some (l ++ Yd (dig 8 N0) (dig 8 N0).length, 0) := by
   intro N0 hN0 hN1
   refine yB (G := fun _ => some (l ++ Yd (dig 8 N0) (dig 8 N0).length, (0 : Int))) (P := fun (x : Int × Bool × List Int) => 0 ≤ x.1 ∧ x.1 < 16777216 ∧ ∃ f, 1 ≤ f ∧ f ≤ 8 ∧ x.1 < 8 ^ f ∧ x.2.2 ++ (if x.2.1 = true ∨ x.1 > 0 then dig f x.1 else []) = dig 8 N0) (μ := fun x => 2 * x.1.toNat + (if x.2.1 = true then 1 else 0)) ?_ maxR (N0, true, []) ⟨hN0, hN1, 8, by omega, by omega, hN1, by simp⟩ (by show 2 * N0.toNat + 1 < maxR; unfold maxR; omega)
   rintro ⟨n, fst, D⟩ ⟨g0, g1, f, g2, g3, g4, g5⟩ k hk
   simp only at g0 g1 g4 g5
   have hDl : D.length ≤ 8 := by
    have h1 := zkI 8 N0
    rw [← g5, List.length_append] at h1
    omega
   simp only [za, zd, zq, zA, zY, z7, zz]
   rw [zlD g0, zoZ g0 (by omega), if_pos (by simp; omega)]
   have next : (fst = true ∨ n > 0) → k (n / 8, false, D ++ [n % 8]) = some (l ++ Yd (dig 8 N0) (dig 8 N0).length, 0) := by
    intro hc
    rw [if_pos hc, zoc g2 g0] at g5
    refine hk _ ⟨by show 0 ≤ n / 8; omega, by show n / 8 < _; omega, ?_⟩ ?_
    ·by_cases h8 : 8 ≤ n
     ·have hd := z6z g4 h8
      refine ⟨f - 1, by omega, by omega, hd.2, ?_⟩
      show D ++ [n % 8] ++ (if false = true ∨ n / 8 > 0 then dig (f - 1) (n / 8) else []) = _
      rw [if_pos (by omega)] at g5
      rw [if_pos (.inr (by omega)), ← g5]; simp
     ·refine ⟨f, by omega, by omega, by show n / 8 < _; omega, ?_⟩
      show D ++ [n % 8] ++ (if false = true ∨ n / 8 > 0 then dig f (n / 8) else []) = _
      rw [if_neg (by omega)] at g5
      rw [if_neg (by simp; omega), ← g5]; simp
    ·show 2 * (n / 8).toNat + (if false = true then 1 else 0) < 2 * n.toNat + (if fst = true then 1 else 0)
     rcases hc with hc | hc
     ·rw [if_pos hc]; simp; omega
     ·simp; omega
   cases fst with
   | true => exact next (.inl rfl)
   | false =>
    rw [Zv, zx]
    by_cases hn : 0 < n
    ·rw [if_pos hn]; exact next (.inr hn)
    ·rw [if_neg hn]
     rw [if_neg (by simp; omega), List.append_nil] at g5
     show zk maxR _ (0, l) = _
     rw [← g5]
     have hc := zlE l D hl hDl
     simp only [zY, zz] at hc
     exact hc
  rw [zh]
  split
  ·have e1 : wsub .i64 (wmul .i64 2 (wneg .i64 v)) 1 = Zm v := by
    rw [zey ⟨by omega, by omega⟩, YN ⟨by omega, by omega⟩, Zz ⟨by omega, by omega⟩]; omega
   rw [e1]; exact key (Zm v) (by omega) (by omega)
  ·have e1 : wmul .i64 2 v = Zm v := by rw [YN ⟨by omega, by omega⟩]; omega
   rw [e1]; exact key (Zm v) (by omega) (by omega)
 ·rw [if_neg hv, if_pos (by omega)]
theorem zdn (l : List Bool) (hl : l.length ≤ 140737488355328) : yd l = some (Yr l) := by
 unfold yd Yr zo
 refine (yB (G := fun (x : List Bool × Int × Int × Int) => some ((ZD (8 - x.2.2.2.toNat) x.2.2.2.toNat x.2.1 x.2.2.1 x.1).1, (if (ZD (8 - x.2.2.2.toNat) x.2.2.2.toNat x.2.1 x.2.2.1 x.1).2.2 = 0 then x.1.drop ((ZD (8 - x.2.2.2.toNat) x.2.2.2.toNat x.2.1 x.2.2.1 x.1).2.1 - 4 * x.2.2.2).toNat else []), (ZD (8 - x.2.2.2.toNat) x.2.2.2.toNat x.2.1 x.2.2.1 x.1).2.2))
  (P := fun (x : List Bool × Int × Int × Int) => 0 ≤ x.2.2.2 ∧ x.2.2.2 ≤ 8 ∧ 0 ≤ x.2.1 ∧ x.2.1 ≤ 8000000 ∧ x.2.2.1 = 8 ^ x.2.2.2.toNat ∧ x.1.length ≤ 140737488355328) (μ := fun x => 8 - x.2.2.2.toNat) ?_ maxR (l, 0, 1, 0) ⟨Int.le_refl 0, (by decide : (0 : Int) ≤ 8), Int.le_refl 0, (by decide : (0 : Int) ≤ 8000000), rfl, hl⟩ (by show 8 - Int.toNat 0 < maxR; unfold maxR; omega)).trans (by simp)
 rintro ⟨r, n, sc, kk⟩ ⟨g0, g1, g2, g3, g4, g5⟩ K hk
 simp only at g0 g1 g2 g3 g4 g5
 obtain ⟨k, rfl⟩ : ∃ k : Nat, kk = k := ⟨kk.toNat, by omega⟩
 rw [Int.toNat_natCast] at g4
 simp only [Int.toNat_natCast]
 rw [za, zd, zf]
 by_cases hk8 : (k : Int) = 8
 ·rw [if_pos hk8]
  have : k = 8 := by omega
  subst this
  rfl
 rw [if_neg hk8, za, zd, zh, zb]
 have hp := pow8 (k := k) (by omega)
 by_cases h4 : (r.length : Int) < 4
 ·rw [if_pos h4, z6A (by omega) (by omega)]; rfl
 rw [if_neg h4, za, zA, Zx, if_pos ⟨by omega, by omega, by omega⟩]
 have hsl : sliI r 1 4 = (r.take 4).drop 1 := rfl
 rw [hsl]
 have hbl : ((r.take 4).drop 1).length = 3 := by rw [List.length_drop, List.length_take]; omega
 have hgm := zmJ (l := r) (by omega)
 have hgt := zpw (l := r) (by omega)
 have hgf := zpv (l := r) (by omega)
 have hd := zdj ((r.take 4).drop 1) 3
 have hsc : sc ≤ 2097152 := by
  rw [g4]
  exact (by decide : ∀ k : Fin 8, (8 : Int) ^ k.val ≤ 2097152) ⟨k, by omega⟩
 have hmm := zie (a := dAt ((r.take 4).drop 1) 3) (b := sc) (c := 2097152) hd.1 hd.2 (by omega) hsc
 generalize hb : (r.take 4).drop 1 = b at *
 rw [zpt (fun j => (dAt b j, (j : Int))) 3 (x0 := (0, 0)) (by simp [dAt]) (by omega)]
 rotate_left
 ·intro j hj
  have hdj := zdj b j
  have hdj1 := zdj b (j + 1)
  have hnx := zod (b := b) (i := j) hj
  have h3 : j = 0 ∨ j = 1 ∨ j = 2 := by omega
  have hshr : wshr .i64 4 (j : Int) = (4 : Int) / 2 ^ j := by rw [zeD (by omega) ⟨by omega, by omega⟩, Int.toNat_natCast]
  have hq : 0 ≤ (4 : Int) / 2 ^ j ∧ (4 : Int) / 2 ^ j ≤ 4 := by rcases h3 with rfl | rfl | rfl <;> decide
  rw [zh, zb, if_pos (by omega), zK (by omega), z7, zh, if_neg (by omega), zF (by omega), hshr, ZP ⟨by omega, by omega⟩, z6u]
  split
  ·rename_i hb1; rw [hnx, if_pos hb1]
  ·rename_i hb1; rw [hnx, if_neg hb1, Int.add_zero]
 show yg (yg (ifB (ltI ((3 : Nat) : Int) (lenI b)) _ (mapO Sum.inr _)) _) K = _
 rw [za, zd, zh, zb, if_neg (by omega)]
 simp only []
 generalize hdd : dAt b 3 = d at *
 have e1 : wmul .i64 d sc = d * sc := YN ⟨by omega, by omega⟩
 have e2 : wadd .i64 n (d * sc) = n + d * sc := ZP ⟨by omega, by omega⟩
 have e3 : wadd .i64 (k : Int) 1 = ((k + 1 : Nat) : Int) := zF (by omega)
 have e4 : wmul .i64 sc 8 = sc * 8 := YN ⟨by omega, by omega⟩
 have hat : atI r 0 = some (r.getD 0 default) := zK (l := r) (j := 0) (by omega)
 have hin : in1 r 4 = true := by rw [in1, ← Bool.decide_and]; exact decide_eq_true ⟨by omega, by omega⟩
 simp only [e1, e2, e3, e4, hat, hin, z7, Zi, Z1]
 generalize hN : n + d * sc = N at *
 have tail : ¬ ((zP r 4).1 = 0 ∧ 0 < k) → yg (ifB (gtI N 8000000) (mapO Sum.inr (some ((0 : Int), ([] : List Bool), (3 : Int)))) (ifB (notB (r.getD 0 default))
   (mapO Sum.inr (ifB (eqI (wrem N 2) 0) (some (wquo IntKind.i64 N 2, r.drop (Int.toNat 4), 0)) (some (wneg IntKind.i64 (wadd IntKind.i64 (wquo IntKind.i64 N 2) 1), r.drop (Int.toNat 4), 0))))
   (some (Sum.inl (r.drop (Int.toNat 4), N, sc * 8, ((k + 1 : Nat) : Int)))))) K =
   some ((ZD (8 - k) k n sc r).1, (if (ZD (8 - k) k n sc r).2.2 = 0 then r.drop ((ZD (8 - k) k n sc r).2.1 - 4 * (k : Int)).toNat else []), (ZD (8 - k) k n sc r).2.2) := by
  intro hnf
  rw [za, zd, zx]
  by_cases hr : 8000000 < N
  ·rw [if_pos hr, z47 (by omega) (by omega) hnf (by rw [hgm, hN]; exact hr)]; rfl
  rw [if_neg hr, za, zd, zq, zB]
  cases hr0 : r.getD 0 default with
  | false =>
   have hx := hgf hr0
   rw [Zv, z1w (by omega) (by omega) hnf (by rw [hgm, hN]; omega) (by rw [hx]; omega), hgm, hN, zoY (by omega), zf]
   have hdr : (4 * (k : Int) + 4 - 4 * (k : Int)).toNat = Int.toNat 4 := by omega
   simp only [if_true, hdr]
   rcases z6y (n := N) (by omega) with ⟨u1, u2, u3⟩ | ⟨u1, u2, u3⟩
   ·rw [if_neg (by omega), u2]
    have hq : wquo .i64 N 2 = N / 2 := by unfold wquo; rw [Int.tdiv_eq_ediv_of_nonneg (by omega)]; exact z0R (by omega) (by omega)
    rw [hq, ZP ⟨by omega, by omega⟩, zey ⟨by omega, by omega⟩]
    congr 2; omega
   ·rw [if_pos u1]
    have hq : wquo .i64 N 2 = N / 2 := by unfold wquo; rw [Int.tdiv_eq_ediv_of_nonneg (by omega)]; exact z0R (by omega) (by omega)
    rw [hq, u2]
  | true =>
   have hx := hgt hr0
   rw [Zi, z3q (by omega) (by omega) hnf (by rw [hgm, hN]; omega) (by rw [hx]; omega), hgm, hN]
   have hlen : (r.drop (Int.toNat 4)).length ≤ 140737488355328 := by rw [List.length_drop]; omega
   rw [hk _ ⟨by show (0 : Int) ≤ ((k + 1 : Nat) : Int); omega, by show ((k + 1 : Nat) : Int) ≤ 8; omega, by show 0 ≤ N; omega, by show N ≤ 8000000; omega, by show sc * 8 = 8 ^ (((k + 1 : Nat) : Int)).toNat; rw [Int.toNat_natCast, g4, Int.pow_succ], hlen⟩ (by show 8 - (((k + 1 : Nat) : Int)).toNat < 8 - ((k : Int)).toNat; omega)]
   simp only [Int.toNat_natCast]
   rw [show 8 - (k + 1) = 8 - k - 1 by omega]
   have hz := zc4 (8 - k - 1) (k + 1) N (sc * 8) (r.drop 4)
   have h44 : Int.toNat 4 = 4 := rfl
   rw [h44]
   generalize ZD (8 - k - 1) (k + 1) N (sc * 8) (r.drop 4) = z at *
   congr 3
   by_cases hz0 : z.2.2 = 0
   ·rw [if_pos hz0, if_pos hz0, List.drop_drop]
    congr 1
    have := hz hz0
    omega
   ·rw [if_neg hz0, if_neg hz0]
 rw [za, zx]
 by_cases hk0 : (0 : Int) < k
 ·rw [if_pos hk0, za, zf]
  by_cases hd0 : d = 0
  ·rw [if_pos hd0, za, zd, zB]
   cases hr0 : r.getD 0 default with
   | false =>
    have hx := hgf hr0
    rw [Zv, z6B (by omega) (by omega) (by omega) (by omega)]; rfl
   | true =>
    have hx := hgt hr0
    rw [Zi, ← hr0]
    exact tail (by omega)
  ·rw [if_neg hd0]
   refine tail ?_
   cases hr0 : r.getD 0 default with
   | false => have hx := hgf hr0; omega
   | true => have hx := hgt hr0; omega
 ·rw [if_neg hk0]
  exact tail (by omega)
end Go.Proofs.Y
