/-
  What is proved, part by part: what shelf.Merge comes to. what shelf.Drop$1 comes to. what slices.IndexFunc[[]api.Block,api.Block] comes to. what slices.DeleteFunc[[]api.Block,api.Block] comes to. what shelf.Drop comes to. what store.Next comes to. what shelf.New comes to. what store.Replay comes to. What is stated: the program's data as plain Lean types. how loops run; plain operations in plain words. records and what is asked of them, as a plain function. slices cloned, held against each other, put together: in plain words, for elements of any kind. a record checked by the program. what slices.Equal[[]api.Point,api.Point] comes to. what slices.Equal[[]bool,bool] comes to. what block.Same comes to. what rainbookref.SameBlock comes to. what slices.EqualFunc[[]api.Block,[]api.Block,api.Block,api.Block] comes to. what shelf.Same$1 comes to. what rainbookref.SameShelf$1 comes to. what slices.EqualFunc[[]api.Row,[]api.Row,api.Row,api.Row] comes to. what rainbookref.SameShelf comes to. what shelf.Same comes to. what rainbooklaw.at comes to. what rainbookref.FreshShelf comes to. what shelf.All comes to. what query.Range$1 comes to. what slices.IndexFunc[[]api.Point,api.Point] comes to. what slices.DeleteFunc[[]api.Point,api.Point] comes to. what query.Range comes to. what rainbookref.Ranged comes to. numbers as bits, as plain functions. numbers as bits, further plain facts. numbers as bits: what is put is taken. small numbers in groups of four bits, as plain functions. what is put in groups of four bits is taken, and no two ways write one number. when points rise, as a plain function. points in bits, as plain functions. points that are packed are unpacked, just so many; what is unpacked is packed as it was; beginnings; steady points. blocks, as plain functions; of two merged both are there. numbers as bits: what the program's functions come to, in plain words. numbers either way as bits: what the program's functions come to, in plain words. numbers either way as bits: what the document's functions come to, in plain words. Conditions: none.
-/
import Derived.Test.YtnkegapccacndaaGreatDoorKPA
import Derived.Test.YtnkegapccacndaaGreatDoorKED
set_option linter.unusedVariables false
set_option linter.unusedSimpArgs false
set_option linter.unnecessarySimpa false
set_option maxRecDepth 4000
namespace Go.Proofs.Y
open Go.Rb Go.Kx
noncomputable def zaw : Code := zg Tryz.f82
noncomputable def zax : FuncId → Option GS := tabG [(78, YV), (107, jT), (115, zav), (116, zjf)]
theorem zkj : ΓOK Tryz.prog zax := z8 (YK) (z8 (jo) (z8 (zfe) (z8 (zlV) (ze))))
def zay : HT := ⟨tabL [], tabH [(15, [.frzq 3 0 0, .frzq 3 0 1, .frzq 3 0 2, .frzq 3 0 3, .frzq 3 0 4, .frzq 3 0 5, .frzq 3 0 6, .frzq 3 0 7, .pack 3 0 (.cons (.sl 126 (.cons (.int .i64) (.cons (.int .i64) (.cons (.int .i64) (.one (.sl 4 (.one .bool))))))) (.one (.sl 73 (.cons (.int .i64) (.one (.int .i64))))))])]⟩
abbrev z3j : List IT := [.v (.one (.sl 95 (.cons (.sl 126 (.cons (.int .i64) (.cons (.int .i64) (.cons (.int .i64) (.one (.sl 4 (.one .bool))))))) (.one (.sl 73 (.cons (.int .i64) (.one (.int .i64)))))))) true, .v (.one (.int .i64)) false, .v (.one (.int .i64)) false]
abbrev z8W : List OT := [⟨.one (.sl 95 (.cons (.sl 126 (.cons (.int .i64) (.cons (.int .i64) (.cons (.int .i64) (.one (.sl 4 (.one .bool))))))) (.one (.sl 73 (.cons (.int .i64) (.one (.int .i64))))))), true, []⟩, ⟨.one (.int .i64), false, []⟩]
set_option maxRecDepth 100000
noncomputable def VT : List (List (Int × Int × Int × List Bool) × List (Int × Int)) → Int → Int → Option (List (List (Int × Int × Int × List Bool) × List (Int × Int)) × Int) := fun a b c => z6 (yP a) fun y => ifB (neI y 0) (some ([], y)) (ifB (ltI b 0) (some ([], 5)) (ifB (geI b (lenI a)) (some ([], 5)) (z6 (YC a) fun y => z6 (four y) fun (y : (List (Int × Int × Int × List Bool) × List (Int × Int)) × (List (Int × Int × Int × List Bool) × List (Int × Int)) × (List (Int × Int × Int × List Bool) × List (Int × Int)) × List (Int × Int × Int × List Bool) × List (Int × Int)) => z6 (Ze y.1.1) fun y_1 => z6 (Zq y.1.2) fun y_2 => zk maxR (fun (x : Int × List (Int × Int × Int × List Bool)) => ifB (ltI x.1 (lenI y.1.1)) (z6 (atI y.1.1 x.1) fun y => z6 (zS (y.1, y.2.1, y.2.2.1, y.2.2.2)) fun y => ifB (ltL x.1 x.2) (z6 (atN x.2 (natI x.1)) fun y_3 => some (Sum.inl (wadd .i64 x.1 1, setN x.2 (natI x.1) (y.1, y.2.1, y.2.2.1, y.2.2.2)))) none) (mapO Sum.inr (z6 (Ze y.2.1.1) fun y_3 => z6 (Zq y.2.1.2) fun y_4 => zk maxR (fun (x_1 : Int × List (Int × Int × Int × List Bool)) => ifB (ltI x_1.1 (lenI y.2.1.1)) (z6 (atI y.2.1.1 x_1.1) fun y => z6 (zS (y.1, y.2.1, y.2.2.1, y.2.2.2)) fun y => ifB (ltL x_1.1 x_1.2) (z6 (atN x_1.2 (natI x_1.1)) fun y_5 => some (Sum.inl (wadd .i64 x_1.1 1, setN x_1.2 (natI x_1.1) (y.1, y.2.1, y.2.2.1, y.2.2.2)))) none) (mapO Sum.inr (z6 (Ze y.2.2.1.1) fun y_5 => z6 (Zq y.2.2.1.2) fun y_6 => zk maxR (fun (x_2 : Int × List (Int × Int × Int × List Bool)) => ifB (ltI x_2.1 (lenI y.2.2.1.1)) (z6 (atI y.2.2.1.1 x_2.1) fun y => z6 (zS (y.1, y.2.1, y.2.2.1, y.2.2.2)) fun y => ifB (ltL x_2.1 x_2.2) (z6 (atN x_2.2 (natI x_2.1)) fun y_7 => some (Sum.inl (wadd .i64 x_2.1 1, setN x_2.2 (natI x_2.1) (y.1, y.2.1, y.2.2.1, y.2.2.2)))) none) (mapO Sum.inr (z6 (Ze y.2.2.2.1) fun y_7 => z6 (Zq y.2.2.2.2) fun y_8 => zk maxR (fun (x_3 : Int × List (Int × Int × Int × List Bool)) => ifB (ltI x_3.1 (lenI y.2.2.2.1)) (z6 (atI y.2.2.2.1 x_3.1) fun y => z6 (zS (y.1, y.2.1, y.2.2.1, y.2.2.2)) fun y => ifB (ltL x_3.1 x_3.2) (z6 (atN x_3.2 (natI x_3.1)) fun y_9 => some (Sum.inl (wadd .i64 x_3.1 1, setN x_3.2 (natI x_3.1) (y.1, y.2.1, y.2.2.1, y.2.2.2)))) none) (mapO Sum.inr (ifB (eqI b 0) (ifB (ltI c 0) (some ([], 3)) (ifB (geI c (wsub .i64 (lenI x.2) 1)) (some ([], 3)) (ifB (ltL c x.2) (z6 (atN x.2 (natI c)) fun y => ifB (ltL (wadd .i64 c 1) x.2) (z6 (atN x.2 (natI (wadd .i64 c 1))) fun y_9 => z6 (Yd (y.1, y.2.1, y.2.2.1, y.2.2.2) (y_9.1, y_9.2.1, y_9.2.2.1, y_9.2.2.2)) fun y => ifB (neI y.2 0) (some ([], y.2)) (ifB (ltL c x.2) (z6 (atN x.2 (natI c)) fun y_10 => z6 (vZ (setN x.2 (natI c) (y.1.1, y.1.2.1, y.1.2.2.1, y.1.2.2.2)) (wadd .i64 c 1) (wadd .i64 c 2)) fun y => some ([(y, y_2), (x_1.2, y_4), (x_2.2, y_6), (x_3.2, y_8)], 0)) none)) none) none))) (ifB (eqI b 1) (ifB (ltI c 0) (some ([], 3)) (ifB (geI c (wsub .i64 (lenI x_1.2) 1)) (some ([], 3)) (ifB (ltL c x_1.2) (z6 (atN x_1.2 (natI c)) fun y => ifB (ltL (wadd .i64 c 1) x_1.2) (z6 (atN x_1.2 (natI (wadd .i64 c 1))) fun y_9 => z6 (Yd (y.1, y.2.1, y.2.2.1, y.2.2.2) (y_9.1, y_9.2.1, y_9.2.2.1, y_9.2.2.2)) fun y => ifB (neI y.2 0) (some ([], y.2)) (ifB (ltL c x_1.2) (z6 (atN x_1.2 (natI c)) fun y_10 => z6 (vZ (setN x_1.2 (natI c) (y.1.1, y.1.2.1, y.1.2.2.1, y.1.2.2.2)) (wadd .i64 c 1) (wadd .i64 c 2)) fun y => some ([(x.2, y_2), (y, y_4), (x_2.2, y_6), (x_3.2, y_8)], 0)) none)) none) none))) (ifB (eqI b 2) (ifB (ltI c 0) (some ([], 3)) (ifB (geI c (wsub .i64 (lenI x_2.2) 1)) (some ([], 3)) (ifB (ltL c x_2.2) (z6 (atN x_2.2 (natI c)) fun y => ifB (ltL (wadd .i64 c 1) x_2.2) (z6 (atN x_2.2 (natI (wadd .i64 c 1))) fun y_9 => z6 (Yd (y.1, y.2.1, y.2.2.1, y.2.2.2) (y_9.1, y_9.2.1, y_9.2.2.1, y_9.2.2.2)) fun y => ifB (neI y.2 0) (some ([], y.2)) (ifB (ltL c x_2.2) (z6 (atN x_2.2 (natI c)) fun y_10 => z6 (vZ (setN x_2.2 (natI c) (y.1.1, y.1.2.1, y.1.2.2.1, y.1.2.2.2)) (wadd .i64 c 1) (wadd .i64 c 2)) fun y => some ([(x.2, y_2), (x_1.2, y_4), (y, y_6), (x_3.2, y_8)], 0)) none)) none) none))) (ifB (eqI b 3) (ifB (ltI c 0) (some ([], 3)) (ifB (geI c (wsub .i64 (lenI x_3.2) 1)) (some ([], 3)) (ifB (ltL c x_3.2) (z6 (atN x_3.2 (natI c)) fun y => ifB (ltL (wadd .i64 c 1) x_3.2) (z6 (atN x_3.2 (natI (wadd .i64 c 1))) fun y_9 => z6 (Yd (y.1, y.2.1, y.2.2.1, y.2.2.2) (y_9.1, y_9.2.1, y_9.2.2.1, y_9.2.2.2)) fun y => ifB (neI y.2 0) (some ([], y.2)) (ifB (ltL c x_3.2) (z6 (atN x_3.2 (natI c)) fun y_10 => z6 (vZ (setN x_3.2 (natI c) (y.1.1, y.1.2.1, y.1.2.2.1, y.1.2.2.2)) (wadd .i64 c 1) (wadd .i64 c 2)) fun y => some ([(x.2, y_2), (x_1.2, y_4), (x_2.2, y_6), (y, y_8)], 0)) none)) none) none))) none)))))) (0, y_7)))) (0, y_5)))) (0, y_3)))) (0, y_1))))
theorem zff (x : PI z3j) : VT (x.1) (x.2.1) (x.2.2) = fnE T zax zay zaw (zo Tryz.f82) z3j z8W x := by kernel_rfl
noncomputable abbrev zaz : GS := zp false z3j z8W fun x => VT (x.1) (x.2.1) (x.2.2)
theorem zfg : GSOK Tryz.prog 82 zaz := zm tok zkj fmo (Ht := zay) (fn := Tryz.f82) (Tryz.func82) (c := zaw) (by kernel_rfl) (by kernel_rfl) (by kernel_rfl) (by decide +kernel) (by decide) zff
end Go.Proofs.Y
namespace Go.Proofs.Y
open Go.Rb Go.Kx
noncomputable def z8X : Code := zg Tryz.f118
noncomputable def z8Y : FuncId → Option GS := tabG []
theorem zi7 : ΓOK Tryz.prog z8Y := ze
def z8Z : HT := ⟨tabL [], tabH []⟩
noncomputable def Jt : GS := inl T z8Y z8Z z8X (zo Tryz.f118) (Tryz.f118.ntmps)
theorem z0h : GSOK Tryz.prog 118 Jt := yV tok zi7 fmo (Ht := z8Z) (fn := Tryz.f118) (Tryz.func118) (c := z8X) (by kernel_rfl) (by kernel_rfl) (by kernel_rfl)
end Go.Proofs.Y
namespace Go.Proofs.Y
open Go.Rb Go.Kx
noncomputable def zbV : Code := zg Tryz.f147
noncomputable def zbW : FuncId → Option GS := tabG [(118, Jt)]
theorem zlW : ΓOK Tryz.prog zbW := z8 (z0h) (ze)
def zbX : HT := ⟨tabL [(2, .it [] (dyn [.t 8 (.int .i64)]))], tabH []⟩
noncomputable def zbY : GS := inl T zbW zbX zbV (zo Tryz.f147) (Tryz.f147.ntmps)
theorem zgA : GSOK Tryz.prog 147 zbY := yV tok zlW fmo (Ht := zbX) (fn := Tryz.f147) (Tryz.func147) (c := zbV) (by kernel_rfl) (by kernel_rfl) (by kernel_rfl)
end Go.Proofs.Y
namespace Go.Proofs.Y
open Go.Rb Go.Kx
noncomputable def zaA : Code := zg Tryz.f117
noncomputable def zaB : FuncId → Option GS := tabG [(147, zbY), (118, Jt)]
theorem zkk : ΓOK Tryz.prog zaB := z8 (zgA) (z8 (z0h) (ze))
def zaC : HT := ⟨tabL [(5, .it [] (dyn [.t 5 (.int .i64), .t 6 (.int .i64), .a 0 126 (.cons (.int .i64) (.cons (.int .i64) (.cons (.int .i64) (.one (.sl 4 (.one .bool))))))]))], tabH [(5, [.touch 0])]⟩
abbrev z3k : List WA := [.f 118 (.one (.int .i64))]
abbrev z90 : List OT := [⟨.one (.sl 126 (.cons (.int .i64) (.cons (.int .i64) (.cons (.int .i64) (.one (.sl 4 (.one .bool))))))), false, []⟩]
set_option maxRecDepth 100000
noncomputable def YD : List (Int × Int × Int × List Bool) → Int → Option (List (Int × Int × Int × List Bool)) := fun a b => zk maxR (fun (x : Int) => ifB (ltI x (lenI a)) (ifB (ltL x a) (z6 (atN a (natI x)) fun y => ifB (ltI y.2.2.1 b) (mapO Sum.inr (ifB (eqI x (-1)) (some a) (zk maxR (fun (x : Int × Int × List (Int × Int × Int × List Bool)) => ifB (ltI x.2.1 (lenI x.2.2)) (ifB (ltL x.2.1 x.2.2) (z6 (atN x.2.2 (natI x.2.1)) fun y => ifB (notB (ltI y.2.2.1 b)) (ifB (ltL x.1 x.2.2) (z6 (atN x.2.2 (natI x.1)) fun y_1 => some (Sum.inl (wadd .i64 x.1 1, wadd .i64 x.2.1 1, setN x.2.2 (natI x.1) (y.1, y.2.1, y.2.2.1, y.2.2.2)))) none) (some (Sum.inl (x.1, wadd .i64 x.2.1 1, x.2.2)))) none) (mapO Sum.inr (ifB (in1 x.2.2 x.1) (ifB (inN x.2.2 (addN 0 (natI x.1)) (Zh (lenN x.2.2) x.1)) (ifB (in1 (zK x.2.2 (addN 0 (natI x.1)) (repN (Zh (lenN x.2.2) x.1) (0, 0, 0, []))) x.1) (ifB (inN (zK x.2.2 (addN 0 (natI x.1)) (repN (Zh (lenN x.2.2) x.1) (0, 0, 0, []))) 0 (natI x.1)) (some (subN (zK x.2.2 (addN 0 (natI x.1)) (repN (Zh (lenN x.2.2) x.1) (0, 0, 0, []))) 0 (natI x.1))) none) none) none) none))) (x, wadd .i64 x 1, a)))) (some (Sum.inl (wadd .i64 x 1)))) none) (mapO Sum.inr (some a))) 0
theorem zfh (rows : List (DenR (.cons (.int .i64) (.cons (.int .i64) (.cons (.int .i64) (.one (.sl 4 (.one .bool)))))))) (x : PW z3k) : YD rows (x.1) = fnM T zaB zaC zaA (zo Tryz.f117) 126 (.cons (.int .i64) (.cons (.int .i64) (.cons (.int .i64) (.one (.sl 4 (.one .bool)))))) z3k z90 rows x := by kernel_rfl
noncomputable abbrev zaD : GS := zqy 126 (.cons (.int .i64) (.cons (.int .i64) (.cons (.int .i64) (.one (.sl 4 (.one .bool)))))) z3k z90 fun rows x => YD rows (x.1)
theorem zfi : GSOK Tryz.prog 117 zaD := zoM tok zkk fmo (Ht := zaC) (fn := Tryz.f117) (Tryz.func117) (c := zaA) (by kernel_rfl) (by kernel_rfl) (by kernel_rfl) (by decide +kernel) (by decide) zfh
end Go.Proofs.Y
namespace Go.Proofs.Y
open Go.Rb Go.Kx
noncomputable def zbZ : Code := zg Tryz.f83
noncomputable def zc0 : FuncId → Option GS := tabG [(78, YV), (107, jT), (118, Jt), (117, zaD)]
theorem zlX : ΓOK Tryz.prog zc0 := z8 (YK) (z8 (jo) (z8 (z0h) (z8 (zfi) (ze))))
def zc1 : HT := ⟨tabL [(8, .unroll 5)], tabH [(7, [.frzb 3 (.one (.int .i64))]), (12, [.frzq 2 0 0, .frzq 2 0 1, .frzq 2 0 2, .frzq 2 0 3, .frzq 2 0 4, .frzq 2 0 5, .frzq 2 0 6, .frzq 2 0 7, .pack 2 0 (.cons (.sl 126 (.cons (.int .i64) (.cons (.int .i64) (.cons (.int .i64) (.one (.sl 4 (.one .bool))))))) (.one (.sl 73 (.cons (.int .i64) (.one (.int .i64))))))])]⟩
abbrev z4l : List IT := [.v (.one (.sl 95 (.cons (.sl 126 (.cons (.int .i64) (.cons (.int .i64) (.cons (.int .i64) (.one (.sl 4 (.one .bool))))))) (.one (.sl 73 (.cons (.int .i64) (.one (.int .i64)))))))) true, .v (.one (.int .i64)) false]
abbrev zaE : List OT := [⟨.one (.sl 95 (.cons (.sl 126 (.cons (.int .i64) (.cons (.int .i64) (.cons (.int .i64) (.one (.sl 4 (.one .bool))))))) (.one (.sl 73 (.cons (.int .i64) (.one (.int .i64))))))), true, []⟩, ⟨.one (.int .i64), false, []⟩]
set_option maxRecDepth 100000
noncomputable def jV : List (List (Int × Int × Int × List Bool) × List (Int × Int)) → Int → Option (List (List (Int × Int × Int × List Bool) × List (Int × Int)) × Int) := fun a b => z6 (yP a) fun y => ifB (neI y 0) (some ([], y)) (ifB (ltI b 0) (some ([], 3)) (ifB (gtI b 100001) (some ([], 3)) (z6 (YC a) fun y => z6 (four y) fun (y : (List (Int × Int × Int × List Bool) × List (Int × Int)) × (List (Int × Int × Int × List Bool) × List (Int × Int)) × (List (Int × Int × Int × List Bool) × List (Int × Int)) × List (Int × Int × Int × List Bool) × List (Int × Int)) => z6 (Ze y.1.1) fun y_1 => z6 (Zq y.1.2) fun y_2 => zk maxR (fun (x : Int × List (Int × Int × Int × List Bool)) => ifB (ltI x.1 (lenI y.1.1)) (z6 (atI y.1.1 x.1) fun y => z6 (zS (y.1, y.2.1, y.2.2.1, y.2.2.2)) fun y => ifB (ltL x.1 x.2) (z6 (atN x.2 (natI x.1)) fun y_3 => some (Sum.inl (wadd .i64 x.1 1, setN x.2 (natI x.1) (y.1, y.2.1, y.2.2.1, y.2.2.2)))) none) (mapO Sum.inr (z6 (Ze y.2.1.1) fun y_3 => z6 (Zq y.2.1.2) fun y_4 => zk maxR (fun (x_1 : Int × List (Int × Int × Int × List Bool)) => ifB (ltI x_1.1 (lenI y.2.1.1)) (z6 (atI y.2.1.1 x_1.1) fun y => z6 (zS (y.1, y.2.1, y.2.2.1, y.2.2.2)) fun y => ifB (ltL x_1.1 x_1.2) (z6 (atN x_1.2 (natI x_1.1)) fun y_5 => some (Sum.inl (wadd .i64 x_1.1 1, setN x_1.2 (natI x_1.1) (y.1, y.2.1, y.2.2.1, y.2.2.2)))) none) (mapO Sum.inr (z6 (Ze y.2.2.1.1) fun y_5 => z6 (Zq y.2.2.1.2) fun y_6 => zk maxR (fun (x_2 : Int × List (Int × Int × Int × List Bool)) => ifB (ltI x_2.1 (lenI y.2.2.1.1)) (z6 (atI y.2.2.1.1 x_2.1) fun y => z6 (zS (y.1, y.2.1, y.2.2.1, y.2.2.2)) fun y => ifB (ltL x_2.1 x_2.2) (z6 (atN x_2.2 (natI x_2.1)) fun y_7 => some (Sum.inl (wadd .i64 x_2.1 1, setN x_2.2 (natI x_2.1) (y.1, y.2.1, y.2.2.1, y.2.2.2)))) none) (mapO Sum.inr (z6 (Ze y.2.2.2.1) fun y_7 => z6 (Zq y.2.2.2.2) fun y_8 => zk maxR (fun (x_3 : Int × List (Int × Int × Int × List Bool)) => ifB (ltI x_3.1 (lenI y.2.2.2.1)) (z6 (atI y.2.2.2.1 x_3.1) fun y => z6 (zS (y.1, y.2.1, y.2.2.1, y.2.2.2)) fun y => ifB (ltL x_3.1 x_3.2) (z6 (atN x_3.2 (natI x_3.1)) fun y_9 => some (Sum.inl (wadd .i64 x_3.1 1, setN x_3.2 (natI x_3.1) (y.1, y.2.1, y.2.2.1, y.2.2.2)))) none) (mapO Sum.inr (z6 (YD x.2 b) fun y => z6 (YD x_1.2 b) fun y_9 => z6 (YD x_2.2 b) fun y_10 => z6 (YD x_3.2 b) fun y_11 => some ([(y, y_2), (y_9, y_4), (y_10, y_6), (y_11, y_8)], 0)))) (0, y_7)))) (0, y_5)))) (0, y_3)))) (0, y_1))))
theorem zgB (x : PI z4l) : jV (x.1) (x.2) = fnE T zc0 zc1 zbZ (zo Tryz.f83) z4l zaE x := by kernel_rfl
noncomputable abbrev zc2 : GS := zp false z4l zaE fun x => jV (x.1) (x.2)
theorem zgC : GSOK Tryz.prog 83 zc2 := zm tok zlX fmo (Ht := zc1) (fn := Tryz.f83) (Tryz.func83) (c := zbZ) (by kernel_rfl) (by kernel_rfl) (by kernel_rfl) (by decide +kernel) (by decide) zgB
end Go.Proofs.Y
namespace Go.Proofs.Y
open Go.Rb Go.Kx
noncomputable def zc3 : Code := zg Tryz.f31
noncomputable def zc4 : FuncId → Option GS := tabG [(78, YV), (79, z23), (80, zen), (81, zbU), (82, zaz), (83, zc2)]
theorem zlY : ΓOK Tryz.prog zc4 := z8 (YK) (z8 (z24) (z8 (zi4) (z8 (zgx) (z8 (zfg) (z8 (zgC) (ze))))))
def zc5 : HT := ⟨tabL [], tabH []⟩
abbrev z4m : List IT := [.v (.one (.sl 95 (.cons (.sl 126 (.cons (.int .i64) (.cons (.int .i64) (.cons (.int .i64) (.one (.sl 4 (.one .bool))))))) (.one (.sl 73 (.cons (.int .i64) (.one (.int .i64)))))))) true, .v (.cons (.int .i64) (.cons (.int .i64) (.cons (.int .i64) (.one (.sl 77 (.cons (.int .i64) (.cons (.int .i64) (.one (.int .i64))))))))) true]
abbrev zaF : List OT := [⟨.one (.sl 95 (.cons (.sl 126 (.cons (.int .i64) (.cons (.int .i64) (.cons (.int .i64) (.one (.sl 4 (.one .bool))))))) (.one (.sl 73 (.cons (.int .i64) (.one (.int .i64))))))), true, []⟩, ⟨.one (.int .i64), false, []⟩]
set_option maxRecDepth 100000
noncomputable def y5 : List (List (Int × Int × Int × List Bool) × List (Int × Int)) → Int × Int × Int × List (Int × Int × Int) → Option (List (List (Int × Int × Int × List Bool) × List (Int × Int)) × Int) := fun a b => z6 (yP a) fun y => ifB (neI y 0) (some ([], y)) (z6 (Zl (b.1, b.2.1, b.2.2.1, b.2.2.2)) fun y => ifB (neI y 0) (some ([], y)) (ifB (eqI b.1 1) (z6 (z0B a b.2.2.2) fun y => some (y.1, y.2)) (ifB (eqI b.1 2) (z6 (jU a b.2.1 b.2.2.1) fun y => some (y.1, y.2)) (ifB (eqI b.1 3) (z6 (VT a b.2.1 b.2.2.1) fun y => some (y.1, y.2)) (z6 (jV a b.2.2.1) fun y => some (y.1, y.2))))))
theorem zgD (x : PI z4m) : y5 (x.1) (x.2) = fnE T zc4 zc5 zc3 (zo Tryz.f31) z4m zaF x := by kernel_rfl
noncomputable abbrev z65 : GS := zp false z4m zaF fun x => y5 (x.1) (x.2)
theorem z7s : GSOK Tryz.prog 31 z65 := zm tok zlY fmo (Ht := zc5) (fn := Tryz.f31) (Tryz.func31) (c := zc3) (by kernel_rfl) (by kernel_rfl) (by kernel_rfl) (by decide +kernel) (by decide) zgD
end Go.Proofs.Y
namespace Go.Proofs.Y
open Go.Rb Go.Kx
noncomputable def zeu : Code := zg Tryz.f75
noncomputable def zev : FuncId → Option GS := tabG []
theorem znT : ΓOK Tryz.prog zev := ze
def zew : HT := ⟨tabL [], tabH []⟩
abbrev z66 : List IT := []
abbrev zc6 : List OT := [⟨.one (.sl 95 (.cons (.sl 126 (.cons (.int .i64) (.cons (.int .i64) (.cons (.int .i64) (.one (.sl 4 (.one .bool))))))) (.one (.sl 73 (.cons (.int .i64) (.one (.int .i64))))))), true, []⟩]
set_option maxRecDepth 100000
noncomputable def yu : Option (List (List (Int × Int × Int × List Bool) × List (Int × Int))) := ifB (z3B 48 4) (some (repI 4 ([], []))) none
theorem zi8 (x : PI z66) : yu  = fnE T zev zew zeu (zo Tryz.f75) z66 zc6 x := by kernel_rfl
noncomputable abbrev z0D : GS := zp false z66 zc6 fun x => yu 
theorem Ju : GSOK Tryz.prog 75 z0D := zm tok znT fmo (Ht := zew) (fn := Tryz.f75) (Tryz.func75) (c := zeu) (by kernel_rfl) (by kernel_rfl) (by kernel_rfl) (by decide +kernel) (by decide) zi8
end Go.Proofs.Y
namespace Go.Proofs.Y
open Go.Rb Go.Kx
noncomputable def z91 : Code := zg Tryz.f28
noncomputable def z92 : FuncId → Option GS := tabG [(75, z0D), (31, z65)]
theorem zi9 : ΓOK Tryz.prog z92 := z8 (Ju) (z8 (z7s) (ze))
def z93 : HT := ⟨tabL [(5, .it [] (dyn [.t 15 (.int .i64), .c 2 0 (.sl 95 (.cons (.sl 126 (.cons (.int .i64) (.cons (.int .i64) (.cons (.int .i64) (.one (.sl 4 (.one .bool))))))) (.one (.sl 73 (.cons (.int .i64) (.one (.int .i64))))))), .c 4 0 (.sl 95 (.cons (.sl 126 (.cons (.int .i64) (.cons (.int .i64) (.cons (.int .i64) (.one (.sl 4 (.one .bool))))))) (.one (.sl 73 (.cons (.int .i64) (.one (.int .i64)))))))]))], tabH []⟩
abbrev z2s : List IT := [.v (.one (.sl 52 (.cons (.int .i64) (.cons (.int .i64) (.cons (.int .i64) (.one (.sl 77 (.cons (.int .i64) (.cons (.int .i64) (.one (.int .i64))))))))))) false]
abbrev z7t : List OT := [⟨.one (.sl 95 (.cons (.sl 126 (.cons (.int .i64) (.cons (.int .i64) (.cons (.int .i64) (.one (.sl 4 (.one .bool))))))) (.one (.sl 73 (.cons (.int .i64) (.one (.int .i64))))))), true, []⟩, ⟨.one (.int .i64), false, []⟩]
set_option maxRecDepth 100000
noncomputable def y0 : List (Int × Int × Int × List (Int × Int × Int)) → Option (List (List (Int × Int × Int × List Bool) × List (Int × Int)) × Int) := fun a => ifB (gtI (lenI a) 60) (some ([], 2)) (z6 yu fun y => zk maxR (fun (x : Int × List (List (Int × Int × Int × List Bool) × List (Int × Int)) × List (List (Int × Int × Int × List Bool) × List (Int × Int))) => ifB (ltI x.1 (lenI a)) (z6 (atI a x.1) fun y => z6 (y5 x.2.2 (y.1, y.2.1, y.2.2.1, y.2.2.2)) fun y => ifB (neI y.2 0) (mapO Sum.inr (some ([], y.2))) (some (Sum.inl (wadd .i64 x.1 1, x.2.1, y.1)))) (mapO Sum.inr (some (x.2.2, 0)))) (0, [], y))
theorem zdS (x : PI z2s) : y0 x = fnE T z92 z93 z91 (zo Tryz.f28) z2s z7t x := by kernel_rfl
noncomputable abbrev Jv : GS := zp false z2s z7t fun x => y0 x
theorem z0i : GSOK Tryz.prog 28 Jv := zm tok zi9 fmo (Ht := z93) (fn := Tryz.f28) (Tryz.func28) (c := z91) (by kernel_rfl) (by kernel_rfl) (by kernel_rfl) (by decide +kernel) (by decide) zdS
end Go.Proofs.Y
namespace Go.Rb
abbrev Pt := Int × Int
abbrev Pt.t (p : Pt) : Int := Prod.fst p
abbrev Pt.v (p : Pt) : Int := Prod.snd p
abbrev Bk := Int × Int × Int × List Bool
abbrev Bk.n (b : Bk) : Int := Prod.fst b
abbrev Bk.fr (b : Bk) : Int := Prod.fst (Prod.snd b)
abbrev Bk.to (b : Bk) : Int := Prod.fst (Prod.snd (Prod.snd b))
abbrev Bk.bits (b : Bk) : List Bool := Prod.snd (Prod.snd (Prod.snd b))
abbrev Rowd := List Bk × List Pt
abbrev Rowd.blocks (r : Rowd) : List Bk := Prod.fst r
abbrev Rowd.head (r : Rowd) : List Pt := Prod.snd r
abbrev Shf := List Rowd
abbrev Ent := Int × Int × Int
abbrev Rc := Int × Int × Int × List Ent
def z9V (n : Int) : Prop := -9223372036854775808 ≤ n ∧ n ≤ 9223372036854775807
theorem z2t {n : Int} (h1 : -9223372036854775808 ≤ n) (h2 : n ≤ 9223372036854775807) : IntKind.wrap .i64 n = n := by rw [IntKind.wrap_i64]; omega
theorem z3Y {α : Type} [Inhabited α] {l : List α} {i : Nat} (h : i < l.length) : l.take (i + 1) = l.take i ++ [l.getD i default] := by
 rw [List.take_succ_eq_append_getElem h]; simp [List.getD, List.getElem?_eq_getElem h]
end Go.Rb
namespace Go.Kx
open Go.Rb
/-! ### Tests -/
theorem Z0 {α : Type} (x y : α) : ifB true x y = x := rfl
theorem ZA {α : Type} (x y : α) : ifB false x y = y := rfl
theorem Zt {α : Type} (b : Bool) (x : α) : ifB b x x = x := by cases b <;> rfl
theorem z94 {α : Type} (b : Bool) (x y : α) : ifB b x y = if b = true then x else y := by cases b <;> rfl
theorem zO {α : Type} (p : Prop) [Decidable p] (x y : α) : ifB (decide p) x y = if p then x else y := by by_cases h : p <;> simp [ifB, h]
theorem zi {α : Type} (a b : Int) (x y : α) : ifB (ltI a b) x y = if a < b then x else y := zO _ _ _
theorem Zy {α : Type} (a b : Int) (x y : α) : ifB (leI a b) x y = if a ≤ b then x else y := zO _ _ _
theorem zy {α : Type} (a b : Int) (x y : α) : ifB (gtI a b) x y = if b < a then x else y := zO _ _ _
theorem zP {α : Type} (a b : Int) (x y : α) : ifB (geI a b) x y = if b ≤ a then x else y := zO _ _ _
theorem zf {α : Type} (a b : Int) (x y : α) : ifB (eqI a b) x y = if a = b then x else y := by
 rw [z94]; simp only [eqI, beq_iff_eq]
theorem zj {α : Type} (a b : Int) (x y : α) : ifB (neI a b) x y = if a = b then y else x := by
 rw [z94]; simp only [neI, bne_iff_ne, ne_eq, ite_not]
theorem zC {α : Type} (b : Bool) (x y : α) : ifB (notB b) x y = ifB b y x := by cases b <;> rfl
theorem ZD {α : Type} (a b : Bool) (x y : α) : ifB (ifB a b false) x y = ifB a (ifB b x y) y := by cases a <;> rfl
theorem ZK {α : Type} (a b : Bool) (x y : α) : ifB (eqB a b) x y = if a = b then x else y := by
 rw [z94]; simp only [eqB, beq_iff_eq]
theorem ZQ {α β : Type} (l : List β) (x y : α) : ifB (isE l) x y = if l = [] then x else y := by cases l <;> rfl
theorem zI {α β : Type} (l : List β) (a : Int) (x y : α) : ifB (in1 l a) x y = if 0 ≤ a ∧ a ≤ l.length then x else y := by rw [in1, ← Bool.decide_and]; exact zO _ _ _
theorem ZE {α β : Type} (l : List β) (a b : Int) (x y : α) : ifB (in2 l a b) x y = if 0 ≤ a ∧ a ≤ b ∧ b ≤ l.length then x else y := by rw [in2, ← Bool.decide_and, ← Bool.decide_and]; exact zO _ _ _
theorem Zu {α : Type} (c : Nat) (a : Int) (x y : α) : ifB (in1N c a) x y = if 0 ≤ a ∧ a ≤ c then x else y := by rw [in1N, ← Bool.decide_and]; exact zO _ _ _
theorem Zv {α : Type} (c : Nat) (a b : Int) (x y : α) : ifB (in2N c a b) x y = if 0 ≤ a ∧ a ≤ b ∧ b ≤ c then x else y := by rw [in2N, ← Bool.decide_and, ← Bool.decide_and]; exact zO _ _ _
theorem Zw {α : Type} (n c : Nat) (a : Int) (x y : α) : ifB (in1C n c a) x y = if 0 ≤ a ∧ a ≤ (max n c : Nat) then x else y := by rw [in1C, ← Bool.decide_and]; exact zO _ _ _
theorem Zr {α : Type} (n c : Nat) (a b : Int) (x y : α) : ifB (in2C n c a b) x y = if 0 ≤ a ∧ a ≤ b ∧ b ≤ (max n c : Nat) then x else y := by rw [in2C, ← Bool.decide_and, ← Bool.decide_and]; exact zO _ _ _
theorem Za {α β : Type} (l : List β) (o n : Nat) (x y : α) : ifB (inN l o n) x y = if o + n ≤ l.length then x else y := zO _ _ _
theorem zH {α β : Type} (n : Int) (l : List β) (x y : α) : ifB (ltL n l) x y = if 0 ≤ n ∧ n < l.length then x else y := by rw [ltL, ← Bool.decide_and]; exact zO _ _ _
theorem ZR {α : Type} (n : Int) (c : Nat) (x y : α) : ifB (ltN n c) x y = if 0 ≤ n ∧ n < c then x else y := by rw [ltN, ← Bool.decide_and]; exact zO _ _ _
theorem zz {α β : Type} (n : Nat) (a b : List β) (x y : α) : ifB (zh n a b) x y = if (a.length + b.length + (a.length + b.length) / 4 + 192) * n ≤ 281474976710656 ∧ a.length + b.length ≤ 9223372036854775807 then x else y := by rw [zh, ← Bool.decide_and]; exact zO _ _ _
theorem Z2 {α : Type} (b : Nat) (n : Int) (x y : α) : ifB (z3B b n) x y = if 0 ≤ n ∧ n * b ≤ 140737488355328 ∧ n ≤ 9223372036854775807 then x else y := by rw [z3B, ← Bool.decide_and, ← Bool.decide_and]; exact zO _ _ _
theorem Zc {α : Type} (b : Nat) (n : Int) (x y : α) : ifB (z1T b n) x y = if 1 ≤ n ∧ n * b ≤ 140737488355328 ∧ n ≤ 9223372036854775807 then x else y := by rw [z1T, ← Bool.decide_and, ← Bool.decide_and]; exact zO _ _ _
theorem Z3 {α : Type} (a b : List UInt8) (x y : α) : ifB (Jl a b) x y = if (a.length : Int) + b.length ≤ 9223372036854775807 then x else y := zO _ _ _
theorem Zz {α : Type} (a b : List UInt8) (x y : α) : ifB (eqS a b) x y = if a = b then x else y := by
 rw [z94]; simp only [eqS, beq_iff_eq]
theorem ZS {α : Type} (a b : List Int) (x y : α) : ifB (eqL a b) x y = if a = b then x else y := zO _ _ _
theorem Zs {α β : Type} (n : Nat) (l : List β) (c : Nat) (x y : α) : ifB (fits n l c) x y = if l = [] ∨ n + l.length ≤ c then x else y := by
 cases l with
 | nil => simp [ifB, fits]
 | cons a l => rw [fits]; simp only [List.isEmpty_cons, Bool.false_or, zO, reduceCtorEq, false_or]
theorem z7 {α β : Type} (a : α) (f : α → Option β) : z6 (some a) f = f a := rfl
theorem Z1 {α β : Type} (f : α → Option β) : z6 none f = none := rfl
theorem Zf {α β : Type} (a : α) (f : α → β) : mapO f (some a) = some (f a) := rfl
theorem Zg {α β : Type} (f : α → β) : mapO f none = none := rfl
theorem zr8 {α : Type} (a : Option α) : ambO a a = a := by simp [ambO]
theorem zb {α : Type} (l : List α) : lenI l = (l.length : Int) := rfl
theorem ZL {α : Type} (l : List α) : lenN l = l.length := rfl
theorem zY {α : Type} (a b : List α) : cat a b = a ++ b := rfl
theorem zU {α : Type} (a : List α) (b : Int) : YE a b = a.take b.toNat := rfl
theorem Z6 {α : Type} (a : List α) (b : Int) : yF a b = a.drop b.toNat := rfl
theorem ZT {α : Type} (l : List α) (a b : Int) : sliI l a b = (l.take b.toNat).drop a.toNat := rfl
theorem Zi {α : Type} (l : List α) (n : Nat) (a : α) : setN l n a = l.set n a := rfl
theorem zL (a : Int) : natI a = a.toNat := rfl
theorem ZF (a : Nat) : intN a = (a : Int) := rfl
theorem zN {α : Type} [Inhabited α] {l : List α} {j : Nat} (h : j < l.length) : atI l (j : Int) = some (l.getD j default) := by
 rw [atI, if_pos (by omega), Int.toNat_natCast, List.getElem?_eq_getElem h]; simp [List.getD, List.getElem?_eq_getElem h]
theorem zoV {α : Type} [Inhabited α] {l : List α} {j : Int} (h0 : 0 ≤ j) (h : j < l.length) : atI l j = some (l.getD j.toNat default) := by
 obtain ⟨k, rfl⟩ : ∃ k : Nat, j = k := ⟨j.toNat, by omega⟩
 exact zN (by omega)
theorem yw {α : Type} [Inhabited α] {l : List α} {j : Nat} (h : j < l.length) : atN l j = some (l.getD j default) := by
 rw [atN, List.getElem?_eq_getElem h]; simp [List.getD, List.getElem?_eq_getElem h]
theorem ZM {a b : Int} (h : -9223372036854775808 ≤ a + b ∧ a + b ≤ 9223372036854775807) : wadd .i64 a b = a + b := z2t h.1 h.2
theorem ZU {a b : Int} (h : -9223372036854775808 ≤ a - b ∧ a - b ≤ 9223372036854775807) : wsub .i64 a b = a - b := z2t h.1 h.2
theorem vr {a b : Int} (h : -9223372036854775808 ≤ a * b ∧ a * b ≤ 9223372036854775807) : wmul .i64 a b = a * b := z2t h.1 h.2
theorem zia {a : Int} (h : -9223372036854775808 ≤ 0 - a ∧ 0 - a ≤ 9223372036854775807) : wneg .i64 a = 0 - a := z2t h.1 h.2
theorem zF {j : Nat} (h : (j : Int) < 4611686018427387904) : wadd .i64 (j : Int) 1 = ((j + 1 : Nat) : Int) := by rw [ZM ⟨by omega, by omega⟩]; rfl
/-! ### Loops -/
def yJ {α β : Type} (o : Option (Sum β α)) (k : β → Option α) : Option α :=
 match o with
 | none => none
 | some (.inl y) => k y
 | some (.inr a) => some a
theorem zB {α β : Type} (k : β → Option α) : yJ none k = none := rfl
theorem zu {α β : Type} (y : β) (k : β → Option α) : yJ (some (.inl y)) k = k y := rfl
theorem Z7 {α β : Type} (a : α) (k : β → Option α) : yJ (some (.inr a)) k = some a := rfl
theorem zd {α β : Type} (o : Option α) (k : β → Option α) : yJ (mapO Sum.inr o) k = o := by cases o <;> rfl
theorem Zx {α β : Type} (p : Prop) [Decidable p] (x y : Option (Sum β α)) (k : β → Option α) : yJ (if p then x else y) k = if p then yJ x k else yJ y k := by split <;> rfl
theorem za {α β : Type} (b : Bool) (x y : Option (Sum β α)) (k : β → Option α) : yJ (ifB b x y) k = ifB b (yJ x k) (yJ y k) := by cases b <;> rfl
theorem zx {α β γ : Type} (o : Option γ) (f : γ → Option (Sum β α)) (k : β → Option α) : yJ (z6 o f) k = z6 o fun y => yJ (f y) k := by cases o <;> rfl
theorem yD {α β : Type} {f : β → Option (Sum β α)} (G : β → Option α) (P : β → Prop) (μ : β → Nat)
  (h : ∀ x, P x → ∀ k : β → Option α, (∀ y, P y → μ y < μ x → k y = G y) → yJ (f x) k = G x) : ∀ (n : Nat) (x : β), P x → μ x < n → zk n f x = G x
 | 0, x, _, hm => absurd hm (Nat.not_lt_zero _)
 | n + 1, x, hp, hm => by
  rw [Jm, ← h x hp (zk n f) (fun y hy hl => yD G P μ h n y hy (by omega))]
  cases f x with
  | none => rfl
  | some s => cases s <;> rfl
theorem zQ {α β γ σ : Type} [Inhabited γ] (l : List γ) (enc : Nat → σ → β) {f : β → Option (Sum β α)} (G : List γ → σ → Option α) (P : Nat → σ → Prop)
  (hs : ∀ (j : Nat) (s : σ), j < l.length → P j s → ∀ k : β → Option α, (∀ s', P (j + 1) s' → k (enc (j + 1) s') = G (l.drop (j + 1)) s') → yJ (f (enc j s)) k = G (l.getD j default :: l.drop (j + 1)) s)
  (he : ∀ s, P l.length s → ∀ k : β → Option α, yJ (f (enc l.length s)) k = G [] s) {s0 : σ} (h0 : P 0 s0) (hl : l.length < 9223372036854775808) : zk maxR f (enc 0 s0) = G l s0 := by
 have key : ∀ (d j : Nat) (s : σ) (n : Nat), j + d = l.length → P j s → d < n → zk n f (enc j s) = G (l.drop j) s := by
  intro d
  induction d with
  | zero =>
   intro j s n hj hp hn
   obtain ⟨n, rfl⟩ : ∃ m, n = m + 1 := ⟨n - 1, by omega⟩
   have hj' : j = l.length := by omega
   subst hj'
   rw [List.drop_length, ← he s hp (zk n f), Jm]
   cases f (enc l.length s) with
   | none => rfl
   | some q => cases q <;> rfl
  | succ d ih =>
   intro j s n hj hp hn
   obtain ⟨n, rfl⟩ : ∃ m, n = m + 1 := ⟨n - 1, by omega⟩
   have hlt : j < l.length := by omega
   have hd : l.drop j = l.getD j default :: l.drop (j + 1) := by rw [List.drop_eq_getElem_cons hlt]; simp [List.getD, List.getElem?_eq_getElem hlt]
   rw [hd, ← hs j s hlt hp (zk n f) (fun s' hp' => ih (j + 1) s' n (by omega) hp' (by omega)), Jm]
   cases f (enc j s) with
   | none => rfl
   | some q => cases q <;> rfl
 have := key l.length 0 s0 maxR (by omega) h0 (by unfold maxR; omega)
 simpa using this
end Go.Kx
namespace Go.Kx
theorem zgE {α β : Type} {f : β → Option (Sum β α)} (seq : Nat → β) : ∀ (n m : Nat), (∀ j, j < n → f (seq j) = some (.inl (seq (j + 1)))) → zk (n + 1 + m) f (seq 0) = yJ (f (seq n)) (zk m f)
 | 0, m, _ => by
  rw [Nat.zero_add, Nat.add_comm 1 m, Jm]
  cases f (seq 0) with
  | none => rfl
  | some q => cases q <;> rfl
 | n + 1, m, h => by
  have h0 := h 0 (by omega)
  have h1 := zgE (fun j => seq (j + 1)) n m (fun j hj => h (j + 1) (by omega))
  rw [show n + 1 + 1 + m = (n + 1 + m) + 1 by omega, Jm, h0]
  exact h1
end Go.Kx
namespace Go.Kx
theorem zuh {α β : Type} {f : β → Option (Sum β α)} (seq : Nat → β) (n : Nat) {x0 : β} (h0 : x0 = seq 0) (hn : n < 9223372036854775807) (h : ∀ j, j < n → f (seq j) = some (.inl (seq (j + 1)))) : zk maxR f x0 = yJ (f (seq n)) (zk (maxR - n - 1) f) := by
 have := zgE seq n (maxR - n - 1) h
 rw [show n + 1 + (maxR - n - 1) = maxR by unfold maxR; omega] at this
 rw [h0]
 exact this
end Go.Kx
namespace Go.Rb
open Go.Kx
def z0E (x : Ent) : Prop := x.1 < 0 ∨ 4 ≤ x.1 ∨ x.2.1 < 0 ∨ 100000 < x.2.1 ∨ x.2.2 < -1000000 ∨ 1000000 < x.2.2
instance badEntDec (x : Ent) : Decidable (z0E x) := inferInstanceAs (Decidable (_ ∨ _))
def entE : List Ent → Int
 | [] => 0
 | x :: l => if z0E x then 3 else entE l
def zA (r : Rc) : Int :=
 if r.1 < 1 ∨ 4 < r.1 then 4 else
 if r.1 = 1 then (if ¬ r.2.1 = 0 ∨ ¬ r.2.2.1 = 0 then 4 else if 10 < r.2.2.2.length then 2 else entE r.2.2.2) else
 if 0 < r.2.2.2.length ∨ (r.1 = 4 ∧ ¬ r.2.1 = 0) then 4 else if r.2.1 < 0 ∨ 4 ≤ r.2.1 ∨ r.2.2.1 < 0 ∨ 100001 < r.2.2.1 then 3 else 0
theorem Ym {r : Rc} (h : zA r = 0) : 1 ≤ r.1 ∧ r.1 ≤ 4 ∧ (r.1 = 1 → r.2.1 = 0 ∧ r.2.2.1 = 0 ∧ r.2.2.2.length ≤ 10 ∧ entE r.2.2.2 = 0) ∧ (¬ r.1 = 1 → r.2.2.2 = [] ∧ 0 ≤ r.2.1 ∧ r.2.1 ≤ 3 ∧ 0 ≤ r.2.2.1 ∧ r.2.2.1 ≤ 100001 ∧ (r.1 = 4 → r.2.1 = 0)) := by
 unfold zA at h
 split at h
 ·cases h
 ·rename_i h1
  split at h
  ·rename_i h2
   split at h
   ·cases h
   ·rename_i h3
    split at h
    ·cases h
    ·rename_i h4
     exact ⟨by omega, by omega, fun _ => ⟨by omega, by omega, by omega, h⟩, fun h => absurd h2 h⟩
  ·rename_i h2
   split at h
   ·cases h
   ·rename_i h3
    split at h
    ·cases h
    ·rename_i h4
     refine ⟨by omega, by omega, fun h => absurd h h2, fun _ => ⟨List.eq_nil_of_length_eq_zero (by omega), by omega, by omega, by omega, by omega, fun h5 => ?_⟩⟩
     exact Classical.byContradiction fun h6 => h3 (.inr ⟨h5, h6⟩)
end Go.Rb
namespace Go.Kx
open Go.Rb
theorem z1s {α : Type} (b : Nat) (a : List α) (h : (a.length + a.length / 4 + 192) * b ≤ 281474976710656) (h2 : a.length ≤ 9223372036854775807) :
  ifB (isE a) (ambO (some []) (ifB (zh b [] a) (some (cat [] a)) none)) (ifB (zh b [] a) (some (cat [] a)) none) = some a := by
 simp only [zB, zu, Z7, zd, Zx, zx, Z0, ZA, Zt, zi, Zy, zy, zP, zf, zj, zC, ZD, ZK, ZQ, zI, ZE, Zu, Zv, Zw, Zr, Za, zH, ZR, zz, Z2, Zc, Z3, Zz, ZS, Zs, z7, Z1, Zf, Zg, zb, ZL, zY, zU, Z6, ZT, Zi, zL, ZF, List.length_nil, Nat.zero_add, List.nil_append]
 rw [if_pos (⟨h, h2⟩ : (a.length + a.length / 4 + 192) * b ≤ 281474976710656 ∧ a.length ≤ 9223372036854775807)]
 split
 ·rename_i h0; subst h0; exact zr8 _
 ·rfl
theorem zlZ {α : Type} [Inhabited α] {a b : List α} (h : a.length = b.length) (hg : ∀ j, j < a.length → a.getD j default = b.getD j default) : a = b := by
 apply List.ext_getElem h
 intro i h1 h2
 have := hg i h1
 simpa [List.getD, List.getElem?_eq_getElem h1, List.getElem?_eq_getElem h2] using this
theorem z3Z {α : Type} [Inhabited α] [DecidableEq α] (eqv : α → α → Bool) (he : ∀ x y, eqv x y = decide (x = y)) (a b : List α) (hl : a.length < 4611686018427387904) :
  ifB (neI (lenI a) (lenI b)) (some false) (zk maxR (fun (x : Int) => ifB (ltI x (lenI a)) (z6 (atI a x) fun (y : α) => z6 (atI b x) fun (y_1 : α) => ifB (notB (eqv y y_1)) (mapO Sum.inr (some false)) (some (Sum.inl (wadd IntKind.i64 x 1)))) (mapO Sum.inr (some true))) 0) = some (decide (a = b)) := by
 rw [zj]
 by_cases hab : (a.length : Int) = b.length
 ·rw [zb, zb, if_pos hab]
  have hn : a.length = b.length := by omega
  refine yD (G := fun _ => some (decide (a = b))) (P := fun (i : Int) => 0 ≤ i ∧ i ≤ a.length ∧ ∀ j : Nat, (j : Int) < i → a.getD j default = b.getD j default) (μ := fun (i : Int) => a.length - i.toNat) ?_ maxR 0 ⟨by omega, by omega, fun j hj => by omega⟩ (by unfold maxR; omega)
  rintro i ⟨h0, h1, h2⟩ k hk
  obtain ⟨j, rfl⟩ : ∃ j : Nat, i = j := ⟨i.toNat, by omega⟩
  simp only [zB, zu, Z7, zd, Zx, zx, Z0, ZA, Zt, zi, Zy, zy, zP, zf, zj, zC, ZD, ZK, ZQ, zI, ZE, Zu, Zv, Zw, Zr, Za, zH, ZR, zz, Z2, Zc, Z3, Zz, ZS, Zs, z7, Z1, Zf, Zg, zb, ZL, zY, zU, Z6, ZT, Zi, zL, ZF]
  by_cases hj : j < a.length
  ·rw [if_pos (by omega), zN hj, zN (by omega : j < b.length), z7, z7, he, zF (by omega), za, zu, Z7]
   by_cases hq : a.getD j default = b.getD j default
   ·rw [hk _ ⟨by omega, by omega, fun j' hj' => ?_⟩ (by omega)]
    ·rw [zO, if_pos hq]
    ·by_cases h : j' = j
     ·subst h; exact hq
     ·exact h2 j' (by omega)
   ·have hne : a ≠ b := by rintro rfl; exact hq rfl
    rw [zO, if_neg hq]
    simp [hne]
  ·rw [if_neg (by omega)]
   have : a = b := zlZ hn fun j' hj' => h2 j' (by omega)
   simp [this]
 ·rw [zb, zb, if_neg hab]
  have : a ≠ b := by rintro rfl; exact hab rfl
  simp [this]
theorem zc7 {α : Type} (a : List (List α)) {j : Nat} (h : j < a.length) : (a.take (j + 1)).flatten.length = (a.take j).flatten.length + (a.getD j default).length := by
 rw [z3Y h]; simp
theorem z7u {α : Type} (a : List (List α)) (j : Nat) : (a.take j).flatten.length ≤ a.flatten.length := by
 have h : a.flatten = (a.take j).flatten ++ (a.drop j).flatten := by rw [← List.flatten_append, List.take_append_drop]
 rw [h, List.length_append]; omega
theorem zfj {α : Type} (a : List (List α)) {j : Nat} (h : j < a.length) : (a.take (j + 1)).flatten = (a.take j).flatten ++ a.getD j default := by
 rw [z3Y h]; simp
theorem z5d {α : Type} (bytes : Nat) (z : α) (a : List (List α)) (ha : a.length < 4611686018427387904) (hb : 1 ≤ bytes) (h : a.flatten.length * bytes ≤ 140737488355328) (hbb : bytes ≤ 1048576) :
  zk maxR (fun (x : Int × Int) => ifB (ltI (Prod.snd x) (lenI a)) (z6 (atI a (Prod.snd x)) fun (y : List α) => ifB (ltI (wadd IntKind.i64 (Prod.fst x) (lenI y)) 0) none (some (Sum.inl (wadd IntKind.i64 (Prod.fst x) (lenI y), wadd IntKind.i64 (Prod.snd x) 1))))
   (mapO Sum.inr (ifB (ltI (Prod.fst x) 0) none (ifB (gtI (wsub IntKind.i64 (Prod.fst x) (wsub IntKind.i64 0 0)) 0)
    (ifB (z1T bytes (wsub IntKind.i64 (Prod.fst x) (wsub IntKind.i64 0 0))) (ifB (in1 (repI (wsub IntKind.i64 (Prod.fst x) (wsub IntKind.i64 0 0)) z) 0) (ifB (inN (repI (wsub IntKind.i64 (Prod.fst x) (wsub IntKind.i64 0 0)) z) 0 (natI 0))
     (zk maxR (fun (x : Int × List α) => ifB (ltI (Prod.fst x) (lenI a)) (z6 (atI a (Prod.fst x)) fun (y : List α) => ifB (zh bytes (Prod.snd x) y) (some (Sum.inl (wadd IntKind.i64 (Prod.fst x) 1, cat (Prod.snd x) y))) none) (mapO Sum.inr (some (Prod.snd x)))) (0, subN (repI (wsub IntKind.i64 (Prod.fst x) (wsub IntKind.i64 0 0)) z) 0 (natI 0)))
     none) none) none)
    (zk maxR (fun (x : Int × List α) => ifB (ltI (Prod.fst x) (lenI a)) (z6 (atI a (Prod.fst x)) fun (y : List α) => ifB (zh bytes (Prod.snd x) y) (some (Sum.inl (wadd IntKind.i64 (Prod.fst x) 1, cat (Prod.snd x) y))) none) (mapO Sum.inr (some (Prod.snd x)))) (0, [])))))) (0, 0) = some a.flatten := by
 have hfl : a.flatten.length ≤ 140737488355328 := by
  have : a.flatten.length * 1 ≤ a.flatten.length * bytes := Nat.mul_le_mul_left _ hb
  omega
 have second : zk maxR (fun (x : Int × List α) => ifB (ltI (Prod.fst x) (lenI a)) (z6 (atI a (Prod.fst x)) fun (y : List α) => ifB (zh bytes (Prod.snd x) y) (some (Sum.inl (wadd IntKind.i64 (Prod.fst x) 1, cat (Prod.snd x) y))) none) (mapO Sum.inr (some (Prod.snd x)))) (0, []) = some a.flatten := by
  refine zQ a (fun j s => ((j : Int), s)) (G := fun _ _ => some a.flatten) (P := fun j s => s = (a.take j).flatten) ?_ ?_ (by simp) (by omega)
  ·rintro j s hj rfl k hk
   have h1 := zc7 a hj
   have h2 := z7u a (j + 1)
   simp only [zB, zu, Z7, zd, Zx, zx, Z0, ZA, Zt, zi, Zy, zy, zP, zf, zj, zC, ZD, ZK, ZQ, zI, ZE, Zu, Zv, Zw, Zr, Za, zH, ZR, zz, Z2, Zc, Z3, Zz, ZS, Zs, z7, Z1, Zf, Zg, zb, ZL, zY, zU, Z6, ZT, Zi, zL, ZF]
   rw [if_pos (by omega), zN hj, z7, zF (by omega), ← zfj a hj, hk _ rfl, if_pos]
   refine ⟨?_, by omega⟩
   have h3 : ((a.take j).flatten.length + (a.getD j default).length) * bytes ≤ 140737488355328 := Nat.le_trans (Nat.mul_le_mul_right _ (by omega)) h
   generalize (a.take j).flatten.length + (a.getD j default).length = m at *
   have h4 : m / 4 * bytes ≤ m * bytes := Nat.mul_le_mul_right _ (by omega)
   have h5 : m / 4 * bytes * 4 ≤ m * bytes := by rw [Nat.mul_right_comm]; exact Nat.mul_le_mul_right _ (by omega)
   rw [Nat.add_mul, Nat.add_mul]
   omega
  ·rintro s rfl k
   simp only [zB, zu, Z7, zd, Zx, zx, Z0, ZA, Zt, zi, Zy, zy, zP, zf, zj, zC, ZD, ZK, ZQ, zI, ZE, Zu, Zv, Zw, Zr, Za, zH, ZR, zz, Z2, Zc, Z3, Zz, ZS, Zs, z7, Z1, Zf, Zg, zb, ZL, zY, zU, Z6, ZT, Zi, zL, ZF]
   rw [if_neg (by omega), List.take_length]
 refine zQ a (fun j s => (s, (j : Int))) (G := fun _ _ => some a.flatten) (P := fun j s => s = ((a.take j).flatten.length : Int)) ?_ ?_ (by simp) (by omega)
 ·rintro j s hj rfl k hk
  have h1 := zc7 a hj
  have h2 := z7u a (j + 1)
  simp only [zB, zu, Z7, zd, Zx, zx, Z0, ZA, Zt, zi, Zy, zy, zP, zf, zj, zC, ZD, ZK, ZQ, zI, ZE, Zu, Zv, Zw, Zr, Za, zH, ZR, zz, Z2, Zc, Z3, Zz, ZS, Zs, z7, Z1, Zf, Zg, zb, ZL, zY, zU, Z6, ZT, Zi, zL, ZF]
  rw [if_pos (by omega), zN hj, z7, zF (by omega), ZM ⟨by omega, by omega⟩, if_neg (by omega)]
  exact hk _ (by omega)
 ·rintro s rfl k
  rw [List.take_length]
  have hw : wsub .i64 (a.flatten.length : Int) (wsub .i64 0 0) = (a.flatten.length : Int) := by
   rw [ZU (a := 0) (b := 0) ⟨by omega, by omega⟩, ZU ⟨by omega, by omega⟩]; omega
  have hz : subN (repI (a.flatten.length : Int) z) 0 (natI 0) = [] := by simp [subN, natI]
  show yJ (ifB (ltI ((a.length : Nat) : Int) (lenI a)) _ (mapO Sum.inr (ifB (ltI (a.flatten.length : Int) 0) none (ifB (gtI (wsub .i64 (a.flatten.length : Int) (wsub .i64 0 0)) 0) _ _)))) k = _
  rw [za, zd, zi, if_neg (show ¬ ((a.length : Nat) : Int) < lenI a by rw [zb]; omega), zi, if_neg (by omega)]
  show ifB (gtI (wsub .i64 (a.flatten.length : Int) (wsub .i64 0 0)) 0) (ifB (z1T bytes (wsub .i64 (a.flatten.length : Int) (wsub .i64 0 0))) (ifB (in1 (repI (wsub .i64 (a.flatten.length : Int) (wsub .i64 0 0)) z) 0) (ifB (inN (repI (wsub .i64 (a.flatten.length : Int) (wsub .i64 0 0)) z) 0 (natI 0))
   (zk maxR _ (0, subN (repI (wsub .i64 (a.flatten.length : Int) (wsub .i64 0 0)) z) 0 (natI 0))) none) none) none) (zk maxR _ (0, [])) = _
  rw [hw, hz, second, zy]
  split
  ·rw [Zc, if_pos, zI, if_pos ⟨by omega, by simp [repI]⟩, Za, if_pos (by simp [repI, natI])]
   refine ⟨by omega, ?_, by omega⟩
   rw [← Int.natCast_mul]; omega
  ·rfl
theorem z3l {α : Type} (a b : List α) : [a, b].flatten = a ++ b := by simp
end Go.Kx
namespace Go.Proofs.Y
open Go.Rb Go.Kx
theorem z67 (r : Rc) (hl : r.2.2.2.length < 4611686018427387904) : Zl r = some (zA r) := by
 unfold Zl zA
 have hloop : zk maxR (fun (x : Int) => ifB (ltI x (lenI (Prod.snd (Prod.snd (Prod.snd r))))) (z6 (atI (Prod.snd (Prod.snd (Prod.snd r))) x) fun (y : Int × Int × Int) =>
   ifB (ltI (Prod.fst y) 0) (mapO Sum.inr (some 3)) (ifB (geI (Prod.fst y) 4) (mapO Sum.inr (some 3)) (ifB (ltI (Prod.fst (Prod.snd y)) 0) (mapO Sum.inr (some 3)) (ifB (gtI (Prod.fst (Prod.snd y)) 100000) (mapO Sum.inr (some 3))
    (ifB (ltI (Prod.snd (Prod.snd y)) (-1000000)) (mapO Sum.inr (some 3)) (ifB (gtI (Prod.snd (Prod.snd y)) 1000000) (mapO Sum.inr (some 3)) (some (Sum.inl (wadd IntKind.i64 x 1))))))))) (mapO Sum.inr (some 0))) 0 = some (entE r.2.2.2) := by
  generalize r.2.2.2 = l at *
  refine zQ l (fun j (_ : Unit) => (j : Int)) (G := fun rest _ => some (entE rest)) (P := fun _ _ => True) ?_ ?_ (s0 := ()) trivial (by omega)
  ·rintro j _ hj _ k hk
   have hat := zN hj
   generalize l.getD j default = x at *
   simp only [za, zx, zd, zu]
   rw [zi, zb, if_pos (by omega), hat, z7, zi, zP, zi, zy, zi, zy, zF (by omega), hk () trivial, entE]
   by_cases hb : z0E x
   ·rw [if_pos hb]
    unfold z0E at hb
    repeat' split
    all_goals first | rfl | (exfalso; omega)
   ·rw [if_neg hb]
    unfold z0E at hb
    repeat' split
    all_goals first | rfl | (exfalso; omega)
  ·rintro _ _ k
   simp only [za, zd]
   rw [zi, zb, if_neg (by omega)]; rfl
 rw [hloop]
 simp only [zi, zy, zf, zj, zP, zb]
 repeat' split
 all_goals first | rfl | (exfalso; omega)
end Go.Proofs.Y
namespace Go.Proofs.Y
open Go.Rb Go.Kx
noncomputable def zm0 : Code := zg Tryz.f44
noncomputable def zm1 : FuncId → Option GS := tabG []
theorem zsK : ΓOK Tryz.prog zm1 := ze
def zm2 : HT := ⟨tabL [(4, .it [] (dyn [.t 13 (.int .i64)]))], tabH []⟩
abbrev zc8 : List IT := [.v (.one (.sl 73 (.cons (.int .i64) (.one (.int .i64))))) false, .v (.one (.sl 73 (.cons (.int .i64) (.one (.int .i64))))) false]
abbrev zjg : List OT := [⟨.one .bool, false, []⟩]
set_option maxRecDepth 100000
noncomputable def z3m : List (Int × Int) → List (Int × Int) → Option Bool := fun a b => ifB (neI (lenI a) (lenI b)) (some false) (zk maxR (fun (x : Int) => ifB (ltI x (lenI a)) (z6 (atI a x) fun y => z6 (atI b x) fun y_1 => ifB (notB (eqL [y.1, y.2] [y_1.1, y_1.2])) (mapO Sum.inr (some false)) (some (Sum.inl (wadd .i64 x 1)))) (mapO Sum.inr (some true))) 0)
theorem znU (x : PI zc8) : z3m (x.1) (x.2) = fnE T zm1 zm2 zm0 (zo Tryz.f44) zc8 zjg x := by kernel_rfl
noncomputable abbrev z9W : GS := zp false zc8 zjg fun x => z3m (x.1) (x.2)
theorem z8e : GSOK Tryz.prog 44 z9W := zm tok zsK fmo (Ht := zm2) (fn := Tryz.f44) (Tryz.func44) (c := zm0) (by kernel_rfl) (by kernel_rfl) (by kernel_rfl) (by decide +kernel) (by decide) znU
end Go.Proofs.Y
namespace Go.Proofs.Y
open Go.Rb Go.Kx
noncomputable def zm3 : Code := zg Tryz.f124
noncomputable def zm4 : FuncId → Option GS := tabG []
theorem zsL : ΓOK Tryz.prog zm4 := ze
def zm5 : HT := ⟨tabL [(4, .it [] (dyn [.t 13 (.int .i64)]))], tabH []⟩
abbrev zc9 : List IT := [.v (.one (.sl 4 (.one .bool))) false, .v (.one (.sl 4 (.one .bool))) false]
abbrev zjh : List OT := [⟨.one .bool, false, []⟩]
set_option maxRecDepth 100000
noncomputable def z68 : List Bool → List Bool → Option Bool := fun a b => ifB (neI (lenI a) (lenI b)) (some false) (zk maxR (fun (x : Int) => ifB (ltI x (lenI a)) (z6 (atI a x) fun y => z6 (atI b x) fun y_1 => ifB (notB (eqB y y_1)) (mapO Sum.inr (some false)) (some (Sum.inl (wadd .i64 x 1)))) (mapO Sum.inr (some true))) 0)
theorem znV (x : PI zc9) : z68 (x.1) (x.2) = fnE T zm4 zm5 zm3 (zo Tryz.f124) zc9 zjh x := by kernel_rfl
noncomputable abbrev zfk : GS := zp false zc9 zjh fun x => z68 (x.1) (x.2)
theorem zex : GSOK Tryz.prog 124 zfk := zm tok zsL fmo (Ht := zm5) (fn := Tryz.f124) (Tryz.func124) (c := zm3) (by kernel_rfl) (by kernel_rfl) (by kernel_rfl) (by decide +kernel) (by decide) znV
end Go.Proofs.Y
namespace Go.Proofs.Y
open Go.Rb Go.Kx
noncomputable def zca : Code := zg Tryz.f92
noncomputable def zcb : FuncId → Option GS := tabG [(124, zfk)]
theorem zm6 : ΓOK Tryz.prog zcb := z8 (zex) (ze)
def zcc : HT := ⟨tabL [], tabH []⟩
abbrev z4n : List IT := [.v (.cons (.int .i64) (.cons (.int .i64) (.cons (.int .i64) (.one (.sl 4 (.one .bool)))))) true, .v (.cons (.int .i64) (.cons (.int .i64) (.cons (.int .i64) (.one (.sl 4 (.one .bool)))))) true]
abbrev zaG : List OT := [⟨.one .bool, false, []⟩]
set_option maxRecDepth 100000
noncomputable def jW : Int × Int × Int × List Bool → Int × Int × Int × List Bool → Option Bool := fun a b => ifB (eqI a.1 b.1) (ifB (eqI a.2.1 b.2.1) (ifB (eqI a.2.2.1 b.2.2.1) (z6 (z68 a.2.2.2 b.2.2.2) fun y => some y) (some false)) (some false)) (some false)
theorem zgF (x : PI z4n) : jW (x.1) (x.2) = fnE T zcb zcc zca (zo Tryz.f92) z4n zaG x := by kernel_rfl
noncomputable abbrev z69 : GS := zp false z4n zaG fun x => jW (x.1) (x.2)
theorem z7v : GSOK Tryz.prog 92 z69 := zm tok zm6 fmo (Ht := zcc) (fn := Tryz.f92) (Tryz.func92) (c := zca) (by kernel_rfl) (by kernel_rfl) (by kernel_rfl) (by decide +kernel) (by decide) zgF
end Go.Proofs.Y
namespace Go.Proofs.Y
open Go.Rb Go.Kx
noncomputable def JR : Code := zg Tryz.f110
noncomputable def JS : FuncId → Option GS := tabG [(124, zfk)]
theorem z6Q : ΓOK Tryz.prog JS := z8 (zex) (ze)
def JT : HT := ⟨tabL [], tabH []⟩
abbrev vw : List IT := [.v (.cons (.int .i64) (.cons (.int .i64) (.cons (.int .i64) (.one (.sl 4 (.one .bool)))))) true, .v (.cons (.int .i64) (.cons (.int .i64) (.cons (.int .i64) (.one (.sl 4 (.one .bool)))))) true]
abbrev jX : List OT := [⟨.one .bool, false, []⟩]
set_option maxRecDepth 100000
noncomputable def yX : Int × Int × Int × List Bool → Int × Int × Int × List Bool → Option Bool := fun a b => ifB (eqI a.1 b.1) (ifB (eqI a.2.1 b.2.1) (ifB (eqI a.2.2.1 b.2.2.1) (z6 (z68 a.2.2.2 b.2.2.2) fun y => some y) (some false)) (some false)) (some false)
theorem z4o (x : PI vw) : yX (x.1) (x.2) = fnE T JS JT JR (zo Tryz.f110) vw jX x := by kernel_rfl
noncomputable abbrev vO : GS := zp false vw jX fun x => yX (x.1) (x.2)
theorem VU : GSOK Tryz.prog 110 vO := zm tok z6Q fmo (Ht := JT) (fn := Tryz.f110) (Tryz.func110) (c := JR) (by kernel_rfl) (by kernel_rfl) (by kernel_rfl) (by decide +kernel) (by decide) z4o
end Go.Proofs.Y
namespace Go.Proofs.Y
open Go.Rb Go.Kx
noncomputable def zcd : Code := zg Tryz.f91
noncomputable def zce : FuncId → Option GS := tabG [(92, z69), (110, vO)]
theorem zm7 : ΓOK Tryz.prog zce := z8 (z7v) (z8 (VU) (ze))
def zcf : HT := ⟨tabL [(4, .it [] (dyn [.t 17 (.int .i64)]))], tabH []⟩
noncomputable def z6a : GS := inl T zce zcf zcd (zo Tryz.f91) (Tryz.f91.ntmps)
theorem z7w : GSOK Tryz.prog 91 z6a := yV tok zm7 fmo (Ht := zcf) (fn := Tryz.f91) (Tryz.func91) (c := zcd) (by kernel_rfl) (by kernel_rfl) (by kernel_rfl)
end Go.Proofs.Y
namespace Go.Proofs.Y
open Go.Rb Go.Kx
noncomputable def z95 : Code := zg Tryz.f90
noncomputable def z96 : FuncId → Option GS := tabG [(44, z9W), (91, z6a), (92, z69)]
theorem zib : ΓOK Tryz.prog z96 := z8 (z8e) (z8 (z7w) (z8 (z7v) (ze)))
def z97 : HT := ⟨tabL [], tabH []⟩
noncomputable def z3n : GS := inl T z96 z97 z95 (zo Tryz.f90) (Tryz.f90.ntmps)
theorem z4M : GSOK Tryz.prog 90 z3n := yV tok zib fmo (Ht := z97) (fn := Tryz.f90) (Tryz.func90) (c := z95) (by kernel_rfl) (by kernel_rfl) (by kernel_rfl)
end Go.Proofs.Y
namespace Go.Proofs.Y
open Go.Rb Go.Kx
noncomputable def jp : Code := zg Tryz.f109
noncomputable def jq : FuncId → Option GS := tabG [(91, z6a), (110, vO), (44, z9W)]
theorem z5e : ΓOK Tryz.prog jq := z8 (z7w) (z8 (VU) (z8 (z8e) (ze)))
def jr : HT := ⟨tabL [], tabH []⟩
noncomputable def ve : GS := inl T jq jr jp (zo Tryz.f109) (Tryz.f109.ntmps)
theorem Vr : GSOK Tryz.prog 109 ve := yV tok z5e fmo (Ht := jr) (fn := Tryz.f109) (Tryz.func109) (c := jp) (by kernel_rfl) (by kernel_rfl) (by kernel_rfl)
end Go.Proofs.Y
namespace Go.Proofs.Y
open Go.Rb Go.Kx
noncomputable def zcg : Code := zg Tryz.f89
noncomputable def zch : FuncId → Option GS := tabG [(90, z3n), (109, ve)]
theorem zm8 : ΓOK Tryz.prog zch := z8 (z4M) (z8 (Vr) (ze))
def zci : HT := ⟨tabL [(4, .it [] (dyn [.t 17 (.int .i64)]))], tabH []⟩
noncomputable def z6b : GS := inl T zch zci zcg (zo Tryz.f89) (Tryz.f89.ntmps)
theorem z7x : GSOK Tryz.prog 89 z6b := yV tok zm8 fmo (Ht := zci) (fn := Tryz.f89) (Tryz.func89) (c := zcg) (by kernel_rfl) (by kernel_rfl) (by kernel_rfl)
end Go.Proofs.Y
namespace Go.Proofs.Y
open Go.Rb Go.Kx
noncomputable def JU : Code := zg Tryz.f63
noncomputable def JV : FuncId → Option GS := tabG [(89, z6b), (109, ve)]
theorem z6R : ΓOK Tryz.prog JV := z8 (z7x) (z8 (Vr) (ze))
def JW : HT := ⟨tabL [], tabH []⟩
abbrev vx : List IT := [.v (.one (.sl 95 (.cons (.sl 126 (.cons (.int .i64) (.cons (.int .i64) (.cons (.int .i64) (.one (.sl 4 (.one .bool))))))) (.one (.sl 73 (.cons (.int .i64) (.one (.int .i64)))))))) true, .v (.one (.sl 95 (.cons (.sl 126 (.cons (.int .i64) (.cons (.int .i64) (.cons (.int .i64) (.one (.sl 4 (.one .bool))))))) (.one (.sl 73 (.cons (.int .i64) (.one (.int .i64)))))))) true]
abbrev jY : List OT := [⟨.one .bool, false, []⟩]
set_option maxRecDepth 100000
noncomputable def Zj : List (List (Int × Int × Int × List Bool) × List (Int × Int)) → List (List (Int × Int × Int × List Bool) × List (Int × Int)) → Option Bool := fun a b => ifB (neI (lenI a) (lenI b)) (some false) (zk maxR (fun (x : Int) => ifB (ltI x (lenI a)) (z6 (atI a x) fun y => z6 (atI b x) fun y_1 => ifB (neI (lenI y.1) (lenI y_1.1)) (mapO Sum.inr (some false)) (zk maxR (fun (x_1 : Int) => ifB (ltI x_1 (lenI y.1)) (z6 (atI y.1 x_1) fun y => z6 (atI y_1.1 x_1) fun y_2 => z6 (yX (y.1, y.2.1, y.2.2.1, y.2.2.2) (y_2.1, y_2.2.1, y_2.2.2.1, y_2.2.2.2)) fun y => ifB (notB y) (mapO Sum.inr (mapO Sum.inr (some false))) (some (Sum.inl (wadd .i64 x_1 1)))) (mapO Sum.inr (z6 (z3m y.2 y_1.2) fun y => ifB (notB y) (mapO Sum.inr (some false)) (some (Sum.inl (wadd .i64 x 1)))))) 0)) (mapO Sum.inr (some true))) 0)
theorem z4p (x : PI vx) : Zj (x.1) (x.2) = fnE T JV JW JU (zo Tryz.f63) vx jY x := by kernel_rfl
noncomputable abbrev vP : GS := zp false vx jY fun x => Zj (x.1) (x.2)
theorem VV : GSOK Tryz.prog 63 vP := zm tok z6R fmo (Ht := JW) (fn := Tryz.f63) (Tryz.func63) (c := JU) (by kernel_rfl) (by kernel_rfl) (by kernel_rfl) (by decide +kernel) (by decide) z4p
end Go.Proofs.Y
namespace Go.Proofs.Y
open Go.Rb Go.Kx
noncomputable def zcj : Code := zg Tryz.f35
noncomputable def zck : FuncId → Option GS := tabG [(89, z6b), (90, z3n)]
theorem zm9 : ΓOK Tryz.prog zck := z8 (z7x) (z8 (z4M) (ze))
def zcl : HT := ⟨tabL [], tabH []⟩
abbrev z4q : List IT := [.v (.one (.sl 95 (.cons (.sl 126 (.cons (.int .i64) (.cons (.int .i64) (.cons (.int .i64) (.one (.sl 4 (.one .bool))))))) (.one (.sl 73 (.cons (.int .i64) (.one (.int .i64)))))))) true, .v (.one (.sl 95 (.cons (.sl 126 (.cons (.int .i64) (.cons (.int .i64) (.cons (.int .i64) (.one (.sl 4 (.one .bool))))))) (.one (.sl 73 (.cons (.int .i64) (.one (.int .i64)))))))) true]
abbrev zaH : List OT := [⟨.one .bool, false, []⟩]
set_option maxRecDepth 100000
noncomputable def yz : List (List (Int × Int × Int × List Bool) × List (Int × Int)) → List (List (Int × Int × Int × List Bool) × List (Int × Int)) → Option Bool := fun a b => ifB (neI (lenI a) (lenI b)) (some false) (zk maxR (fun (x : Int) => ifB (ltI x (lenI a)) (z6 (atI a x) fun y => z6 (atI b x) fun y_1 => z6 (z3m y.2 y_1.2) fun y_2 => ifB y_2 (ifB (neI (lenI y.1) (lenI y_1.1)) (mapO Sum.inr (some false)) (zk maxR (fun (x_1 : Int) => ifB (ltI x_1 (lenI y.1)) (z6 (atI y.1 x_1) fun y => z6 (atI y_1.1 x_1) fun y_3 => z6 (jW (y.1, y.2.1, y.2.2.1, y.2.2.2) (y_3.1, y_3.2.1, y_3.2.2.1, y_3.2.2.2)) fun y => ifB (notB y) (mapO Sum.inr (mapO Sum.inr (some false))) (some (Sum.inl (wadd .i64 x_1 1)))) (mapO Sum.inr (some (Sum.inl (wadd .i64 x 1))))) 0)) (mapO Sum.inr (some false))) (mapO Sum.inr (some true))) 0)
theorem zgG (x : PI z4q) : yz (x.1) (x.2) = fnE T zck zcl zcj (zo Tryz.f35) z4q zaH x := by kernel_rfl
noncomputable abbrev z6c : GS := zp false z4q zaH fun x => yz (x.1) (x.2)
theorem z7y : GSOK Tryz.prog 35 z6c := zm tok zm9 fmo (Ht := zcl) (fn := Tryz.f35) (Tryz.func35) (c := zcj) (by kernel_rfl) (by kernel_rfl) (by kernel_rfl) (by decide +kernel) (by decide) zgG
end Go.Proofs.Y
namespace Go.Proofs.Y
open Go.Rb Go.Kx
set_option maxRecDepth 100000
noncomputable def z6d : Int → Int → Option Int := fun a b => ifB (eqI b 0) none (ifB (ltI (wrem a b) 0) (some (wadd .i64 (wrem a b) b)) (some (wrem a b)))
end Go.Proofs.Y
namespace Go.Proofs.Y
open Go.Rb Go.Kx
noncomputable def jZ : Code := zg Tryz.f70
noncomputable def J0 : FuncId → Option GS := tabG []
theorem z6e : ΓOK Tryz.prog J0 := ze
def J1 : HT := ⟨tabL [], tabH []⟩
abbrev vf : List IT := []
abbrev js : List OT := [⟨.one (.sl 95 (.cons (.sl 126 (.cons (.int .i64) (.cons (.int .i64) (.cons (.int .i64) (.one (.sl 4 (.one .bool))))))) (.one (.sl 73 (.cons (.int .i64) (.one (.int .i64))))))), true, [true]⟩]
set_option maxRecDepth 100000
noncomputable def zT : Option (List (List (Int × Int × Int × List Bool) × List (Int × Int))) := ifB (z3B 48 4) (some (repI 4 ([], []))) none
theorem z40 (x : PI vf) : zT  = fnE T J0 J1 jZ (zo Tryz.f70) vf js x := by kernel_rfl
noncomputable abbrev vy : GS := zp false vf js fun x => zT 
theorem Vy : GSOK Tryz.prog 70 vy := zm tok z6e fmo (Ht := J1) (fn := Tryz.f70) (Tryz.func70) (c := jZ) (by kernel_rfl) (by kernel_rfl) (by kernel_rfl) (by decide +kernel) (by decide) z40
end Go.Proofs.Y
namespace Go.Proofs.Y
open Go.Rb Go.Kx
noncomputable def zey : Code := zg Tryz.f48
noncomputable def zez : FuncId → Option GS := tabG [(78, YV), (97, z8b)]
theorem znW : ΓOK Tryz.prog zez := z8 (YK) (z8 (z8T) (ze))
def zeA : HT := ⟨tabL [], tabH []⟩
abbrev z6f : List IT := [.v (.one (.sl 95 (.cons (.sl 126 (.cons (.int .i64) (.cons (.int .i64) (.cons (.int .i64) (.one (.sl 4 (.one .bool))))))) (.one (.sl 73 (.cons (.int .i64) (.one (.int .i64)))))))) true, .v (.one (.int .i64)) false]
abbrev zcm : List OT := [⟨.one (.sl 73 (.cons (.int .i64) (.one (.int .i64)))), false, [true]⟩, ⟨.one (.int .i64), false, []⟩]
set_option maxRecDepth 100000
noncomputable def ja : List (List (Int × Int × Int × List Bool) × List (Int × Int)) → Int → Option (List (Int × Int) × Int) := fun a b => z6 (yP a) fun y => ifB (neI y 0) (some ([], y)) (ifB (ltI b 0) (some ([], 5)) (ifB (geI b (lenI a)) (some ([], 5)) (z6 (atI a b) fun y => z6 (yB (y.1, y.2)) fun y => some (y.1, y.2))))
theorem zic (x : PI z6f) : ja (x.1) (x.2) = fnE T zez zeA zey (zo Tryz.f48) z6f zcm x := by kernel_rfl
noncomputable abbrev z8f : GS := zp false z6f zcm fun x => ja (x.1) (x.2)
theorem z98 : GSOK Tryz.prog 48 z8f := zm tok znW fmo (Ht := zeA) (fn := Tryz.f48) (Tryz.func48) (c := zey) (by kernel_rfl) (by kernel_rfl) (by kernel_rfl) (by decide +kernel) (by decide) zic
end Go.Proofs.Y
namespace Go.Proofs.Y
open Go.Rb Go.Kx
noncomputable def z7z : Code := zg Tryz.f96
noncomputable def z7A : FuncId → Option GS := tabG []
theorem zgH : ΓOK Tryz.prog z7A := ze
def z7B : HT := ⟨tabL [], tabH []⟩
noncomputable def jt : GS := inl T z7A z7B z7z (zo Tryz.f96) (Tryz.f96.ntmps)
theorem J2 : GSOK Tryz.prog 96 jt := yV tok zgH fmo (Ht := z7B) (fn := Tryz.f96) (Tryz.func96) (c := z7z) (by kernel_rfl) (by kernel_rfl) (by kernel_rfl)
end Go.Proofs.Y
namespace Go.Proofs.Y
open Go.Rb Go.Kx
noncomputable def zcn : Code := zg Tryz.f125
noncomputable def zco : FuncId → Option GS := tabG [(96, jt)]
theorem zma : ΓOK Tryz.prog zco := z8 (J2) (ze)
def zcp : HT := ⟨tabL [(2, .it [] (dyn [.t 8 (.int .i64)]))], tabH []⟩
noncomputable def zcq : GS := inl T zco zcp zcn (zo Tryz.f125) (Tryz.f125.ntmps)
theorem zgI : GSOK Tryz.prog 125 zcq := yV tok zma fmo (Ht := zcp) (fn := Tryz.f125) (Tryz.func125) (c := zcn) (by kernel_rfl) (by kernel_rfl) (by kernel_rfl)
end Go.Proofs.Y
namespace Go.Proofs.Y
open Go.Rb Go.Kx
noncomputable def zaI : Code := zg Tryz.f95
noncomputable def zaJ : FuncId → Option GS := tabG [(125, zcq), (96, jt)]
theorem zkl : ΓOK Tryz.prog zaJ := z8 (zgI) (z8 (J2) (ze))
def zaK : HT := ⟨tabL [(5, .it [] (dyn [.t 5 (.int .i64), .t 6 (.int .i64), .a 0 73 (.cons (.int .i64) (.one (.int .i64)))]))], tabH [(5, [.touch 0])]⟩
noncomputable def zaL : GS := inl T zaJ zaK zaI (zo Tryz.f95) (Tryz.f95.ntmps)
theorem zfl : GSOK Tryz.prog 95 zaL := yV tok zkl fmo (Ht := zaK) (fn := Tryz.f95) (Tryz.func95) (c := zaI) (by kernel_rfl) (by kernel_rfl) (by kernel_rfl)
end Go.Proofs.Y
namespace Go.Proofs.Y
open Go.Rb Go.Kx
noncomputable def zaM : Code := zg Tryz.f46
noncomputable def zaN : FuncId → Option GS := tabG [(48, z8f), (96, jt), (95, zaL)]
theorem zkm : ΓOK Tryz.prog zaN := z8 (z98) (z8 (J2) (z8 (zfl) (ze)))
def zaO : HT := ⟨tabL [], tabH []⟩
abbrev z3o : List IT := [.v (.one (.sl 95 (.cons (.sl 126 (.cons (.int .i64) (.cons (.int .i64) (.cons (.int .i64) (.one (.sl 4 (.one .bool))))))) (.one (.sl 73 (.cons (.int .i64) (.one (.int .i64)))))))) true, .v (.one (.int .i64)) false, .v (.one (.int .i64)) false, .v (.one (.int .i64)) false]
abbrev z99 : List OT := [⟨.one (.sl 73 (.cons (.int .i64) (.one (.int .i64)))), false, []⟩, ⟨.one (.int .i64), false, []⟩]
set_option maxRecDepth 100000
noncomputable def VW : List (List (Int × Int × Int × List Bool) × List (Int × Int)) → Int → Int → Int → Option (List (Int × Int) × Int) := fun a b c d => z6 (ja a b) fun y => ifB (neI y.2 0) (some ([], y.2)) (zk maxR (fun (x : Int) => ifB (ltI x (lenI y.1)) (ifB (ltL x y.1) (z6 (atN y.1 (natI x)) fun y_1 => ifB (ltI y_1.1 c) (mapO Sum.inr (ifB (eqI x (-1)) (some (y.1, 0)) (zk maxR (fun (x : Int × Int × List (Int × Int)) => ifB (ltI x.2.1 (lenI x.2.2)) (ifB (ltL x.2.1 x.2.2) (z6 (atN x.2.2 (natI x.2.1)) fun y => ifB (ltI y.1 c) (some (Sum.inl (x.1, wadd .i64 x.2.1 1, x.2.2))) (ifB (notB (geI y.1 d)) (ifB (ltL x.1 x.2.2) (z6 (atN x.2.2 (natI x.1)) fun y_2 => some (Sum.inl (wadd .i64 x.1 1, wadd .i64 x.2.1 1, setN x.2.2 (natI x.1) (y.1, y.2)))) none) (some (Sum.inl (x.1, wadd .i64 x.2.1 1, x.2.2))))) none) (mapO Sum.inr (ifB (in1 x.2.2 x.1) (ifB (inN x.2.2 (addN 0 (natI x.1)) (Zh (lenN x.2.2) x.1)) (ifB (in1 (zK x.2.2 (addN 0 (natI x.1)) (repN (Zh (lenN x.2.2) x.1) (0, 0))) x.1) (ifB (inN (zK x.2.2 (addN 0 (natI x.1)) (repN (Zh (lenN x.2.2) x.1) (0, 0))) 0 (natI x.1)) (some (subN (zK x.2.2 (addN 0 (natI x.1)) (repN (Zh (lenN x.2.2) x.1) (0, 0))) 0 (natI x.1), 0)) none) none) none) none))) (x, wadd .i64 x 1, y.1)))) (ifB (geI y_1.1 d) (mapO Sum.inr (ifB (eqI x (-1)) (some (y.1, 0)) (zk maxR (fun (x : Int × Int × List (Int × Int)) => ifB (ltI x.2.1 (lenI x.2.2)) (ifB (ltL x.2.1 x.2.2) (z6 (atN x.2.2 (natI x.2.1)) fun y => ifB (ltI y.1 c) (some (Sum.inl (x.1, wadd .i64 x.2.1 1, x.2.2))) (ifB (notB (geI y.1 d)) (ifB (ltL x.1 x.2.2) (z6 (atN x.2.2 (natI x.1)) fun y_2 => some (Sum.inl (wadd .i64 x.1 1, wadd .i64 x.2.1 1, setN x.2.2 (natI x.1) (y.1, y.2)))) none) (some (Sum.inl (x.1, wadd .i64 x.2.1 1, x.2.2))))) none) (mapO Sum.inr (ifB (in1 x.2.2 x.1) (ifB (inN x.2.2 (addN 0 (natI x.1)) (Zh (lenN x.2.2) x.1)) (ifB (in1 (zK x.2.2 (addN 0 (natI x.1)) (repN (Zh (lenN x.2.2) x.1) (0, 0))) x.1) (ifB (inN (zK x.2.2 (addN 0 (natI x.1)) (repN (Zh (lenN x.2.2) x.1) (0, 0))) 0 (natI x.1)) (some (subN (zK x.2.2 (addN 0 (natI x.1)) (repN (Zh (lenN x.2.2) x.1) (0, 0))) 0 (natI x.1), 0)) none) none) none) none))) (x, wadd .i64 x 1, y.1)))) (some (Sum.inl (wadd .i64 x 1))))) none) (mapO Sum.inr (some (y.1, 0)))) 0)
theorem zfm (x : PI z3o) : VW (x.1) (x.2.1) (x.2.2.1) (x.2.2.2) = fnE T zaN zaO zaM (zo Tryz.f46) z3o z99 x := by kernel_rfl
noncomputable abbrev zaP : GS := zp false z3o z99 fun x => VW (x.1) (x.2.1) (x.2.2.1) (x.2.2.2)
theorem zfn : GSOK Tryz.prog 46 zaP := zm tok zkm fmo (Ht := zaO) (fn := Tryz.f46) (Tryz.func46) (c := zaM) (by kernel_rfl) (by kernel_rfl) (by kernel_rfl) (by decide +kernel) (by decide) zfm
end Go.Proofs.Y
namespace Go.Proofs.Y
open Go.Rb Go.Kx
set_option maxRecDepth 100000
end Go.Proofs.Y
namespace Go.Rb
def z2u (n : Int) (k : Nat) : Bool := n / 2 ^ k % 2 == 1
def y9 (w : Nat) (n : Int) : List Bool := (List.range w).map fun j => z2u n (w - 1 - j)
def zdJ (n w : Int) : Prop := 0 ≤ w ∧ w ≤ 40 ∧ 0 ≤ n ∧ n < 2 ^ w.toNat
instance (n w : Int) : Decidable (zdJ n w) := by unfold zdJ; infer_instance
def putR (l : List Bool) (n w : Int) : List Bool × Int := if zdJ n w then (l ++ y9 w.toNat n, 0) else ([], 3)
def val (l : List Bool) : Int := l.foldl (fun n b => 2 * n + (if b then 1 else 0)) 0
def zX (l : List Bool) (w : Int) : Int × Int := if w < 0 ∨ w > 40 then (0, 3) else if (l.length : Int) < w then (0, 8) else (val (l.take w.toNat), 0)
theorem Y2 (w : Nat) (n : Int) : (y9 w n).length = w := by simp [y9]
theorem zr9 {w : Nat} {n : Int} {j : Nat} (h : j < w) : (y9 w n).getD j default = z2u n (w - 1 - j) := by
 simp [y9, List.getD, h]
theorem z9X (k : Nat) : (0 : Int) < 2 ^ k := Int.pow_pos (by omega)
theorem zsM {a : Int} (h0 : 0 ≤ a) (h1 : a ≤ 9223372036854775807) : IntKind.wrap .i64 ((BitVec.ofInt (IntKind.i64.bits) a &&& BitVec.ofInt (IntKind.i64.bits) 1).toNat : Int) = a % 2 := by
 have hb : IntKind.i64.bits = 64 := rfl
 rw [hb]
 obtain ⟨m, rfl⟩ : ∃ m : Nat, a = (m : Int) := ⟨a.toNat, by omega⟩
 have h2 : (BitVec.ofInt 64 (m : Int)).toNat = m := by
  simp only [BitVec.toNat_ofInt]
  omega
 have h3 : (BitVec.ofInt 64 (1 : Int)).toNat = 1 := by decide
 rw [BitVec.toNat_and, h2, h3, Nat.and_one_is_mod, z2t (by omega) (by omega)]
 omega
theorem zsN {a : Int} (h0 : 0 ≤ a) (k : Nat) : a.fdiv (2 ^ k) = a / 2 ^ k := Int.fdiv_eq_ediv_of_nonneg a (by have := z9X k; omega)
theorem zpR {a : Int} (h0 : 0 ≤ a) (k : Nat) : 0 ≤ a / 2 ^ k ∧ a / 2 ^ k ≤ a := by
 have := z9X k
 refine ⟨Int.ediv_nonneg h0 (by omega), Int.ediv_le_self _ h0⟩
theorem zmb {n : Int} {w : Nat} (h0 : 0 ≤ n) : n / 2 ^ w = 0 ↔ n < 2 ^ w := by
 have h1 := z9X w
 constructor
 ·intro h
  have := Int.lt_ediv_add_one_mul_self n h1
  rw [h] at this
  omega
 ·intro h
  exact Int.ediv_eq_zero_of_lt h0 h
theorem zmc (l : List Bool) (b : Bool) : val (l ++ [b]) = 2 * val l + (if b then 1 else 0) := by simp [val]
theorem zra : ∀ (l : List Bool), 0 ≤ val l ∧ val l < 2 ^ l.length := by
 intro l
 have key : ∀ (l : List Bool) (a : Int) (k : Nat), 0 ≤ a → a < 2 ^ k → 0 ≤ l.foldl (fun n b => 2 * n + (if b then 1 else 0)) a ∧ l.foldl (fun n b => 2 * n + (if b then 1 else 0)) a < 2 ^ (k + l.length) := by
  intro l
  induction l with
  | nil => intro a k h0 h1; exact ⟨h0, h1⟩
  | cons b l ih =>
   intro a k h0 h1
   rw [List.foldl_cons, List.length_cons, show k + (l.length + 1) = (k + 1) + l.length from by omega]
   refine ih _ (k + 1) ?_ ?_
   ·split <;> omega
   ·rw [Int.pow_succ]
    split <;> omega
 have := key l 0 0 (by omega) (by decide)
 simpa [val] using this
end Go.Rb
namespace Go.Rb
theorem zsO {a b : Nat} (h : a ≤ b) : (2 : Int) ^ a ≤ 2 ^ b := by
 have := Nat.pow_le_pow_right (n := 2) (by omega) h
 exact_mod_cast this
theorem zvW {k : Nat} (h : k ≤ 40) : 0 < (2 : Int) ^ k ∧ (2 : Int) ^ k ≤ 1099511627776 := ⟨z9X k, zsO (b := 40) h⟩
end Go.Rb
namespace Go.Rb
theorem zgJ (w : Nat) (n : Int) : y9 (w + 1) n = y9 w (n / 2) ++ [z2u n 0] := by
 apply List.ext_getElem
 ·simp [Y2]
 ·intro i h1 h2
  rw [List.getElem_append]
  rw [Y2] at h1
  split
  ·rename_i h3
   rw [Y2] at h3
   simp only [y9, List.getElem_map, List.getElem_range, z2u]
   rw [Int.ediv_ediv_of_nonneg (by omega), show w + 1 - 1 - i = (w - 1 - i) + 1 from by omega, Int.pow_succ, Int.mul_comm]
  ·rename_i h3
   rw [Y2] at h3
   have hi : i = w := by omega
   subst hi
   simp [y9, Y2]
theorem zji : ∀ (w : Nat) (n : Int), 0 ≤ n → n < 2 ^ w → val (y9 w n) = n
 | 0, n, h0, h1 => by
  have : n = 0 := by simp at h1; omega
  subst this; rfl
 | w + 1, n, h0, h1 => by
  rw [Int.pow_succ] at h1
  rw [zgJ, zmc, zji w (n / 2) (by omega) (by omega)]
  simp only [z2u, Int.pow_zero, Int.ediv_one]
  by_cases h : n % 2 = 1
  ·simp [h]; omega
  ·simp [h]; omega
theorem zrb : ∀ l : List Bool, y9 l.length (val l) = l := by
 intro l
 induction h : l.length generalizing l with
 | zero => rw [List.length_eq_zero_iff] at h; subst h; rfl
 | succ w ih =>
  have hl : l ≠ [] := by intro h0; subst h0; simp at h
  rw [zgJ]
  obtain ⟨k, b, rfl⟩ : ∃ k b, l = k ++ [b] := ⟨l.dropLast, l.getLast hl, (List.dropLast_concat_getLast hl).symm⟩
  have hk : k.length = w := by simpa using h
  rw [zmc]
  have e1 : (2 * val k + (if b then 1 else 0)) / 2 = val k := by cases b <;> simp <;> omega
  have e2 : z2u (2 * val k + (if b then 1 else 0)) 0 = b := by
   simp only [z2u, Int.pow_zero, Int.ediv_one]
   cases b
   ·simp
   ·simp only [if_true, beq_iff_eq]; omega
  rw [e1, e2, ih k hk]
/-! ### Numbers one after the other -/
end Go.Rb
namespace Go.Rb
def ZG (v : Int) : Int := if v < 0 then -2 * v - 1 else 2 * v
theorem z3p (v : Int) : (v < 0 ∧ ZG v = -2 * v - 1) ∨ (0 ≤ v ∧ ZG v = 2 * v) := by unfold ZG; split <;> omega
def unf (n : Int) : Int := if n % 2 = 1 then (-(n + 1)).tdiv 2 else n.tdiv 2
theorem z9a {n : Int} (h : 0 ≤ n) : (n % 2 = 1 ∧ unf n = -(n / 2 + 1) ∧ (0 - (n + 1)).tdiv 2 = unf n) ∨ (n % 2 = 0 ∧ unf n = n / 2 ∧ n.tdiv 2 = unf n) := by
 unfold unf
 have h1 : n.tdiv 2 = n / 2 := Int.tdiv_eq_ediv_of_nonneg h
 have h2 : (-(n + 1)).tdiv 2 = -((n + 1) / 2) := by rw [Int.neg_tdiv, Int.tdiv_eq_ediv_of_nonneg (by omega)]
 split
 ·left; refine ⟨by assumption, ?_, by rw [Int.zero_sub]⟩; rw [h2]; omega
 ·right; refine ⟨by omega, h1, rfl⟩
theorem zsP (v : Int) : unf (ZG v) = v := by
 have h := z3p v
 have h1 := z9a (n := ZG v) (by omega)
 omega
theorem zsQ {n : Int} (h : 0 ≤ n) : ZG (unf n) = n := by
 have h1 := z9a h
 have h2 := z3p (unf n)
 omega
theorem pow8 {k : Nat} (h : k ≤ 8) : 1 ≤ (8 : Int) ^ k ∧ (8 : Int) ^ k ≤ 16777216 := by
 have h1 : (8 : Int) ^ k ≤ 8 ^ 8 := by
  have := Nat.pow_le_pow_right (n := 8) (by omega) h
  exact_mod_cast this
 have h2 : (0 : Int) < 8 ^ k := Int.pow_pos (by omega)
 exact ⟨by omega, h1⟩
def zenc : Nat → Int → List Bool
 | 0, _ => []
 | f + 1, m => y9 4 ((if m ≥ 8 then 8 else 0) + m % 8) ++ (if m ≥ 8 then zenc f (m / 8) else [])
theorem J3 {f : Nat} {m : Int} (hf : 1 ≤ f) (h : m < 8) : zenc f m = y9 4 (0 + m % 8) := by
 obtain ⟨g, rfl⟩ : ∃ g, f = g + 1 := ⟨f - 1, by omega⟩
 rw [zenc, if_neg (by omega), if_neg (by omega), List.append_nil]
theorem z1t {f : Nat} {m : Int} (hf : 1 ≤ f) (h : 8 ≤ m) : zenc f m = y9 4 (8 + m % 8) ++ zenc (f - 1) (m / 8) := by
 obtain ⟨g, rfl⟩ : ∃ g, f = g + 1 := ⟨f - 1, by omega⟩
 rw [zenc, if_pos h, if_pos h]; rfl
theorem z3q : ∀ (f : Nat) (m : Int), (zenc f m).length ≤ 4 * f
 | 0, _ => by simp [zenc]
 | f + 1, m => by
  have := z3q f (m / 8)
  rw [zenc, List.length_append, Y2]
  split
  ·omega
  ·simp; omega
theorem z9b {m : Int} {f : Nat} (h : m < 8 ^ f) (h8 : 8 ≤ m) : 2 ≤ f ∧ m / 8 < 8 ^ (f - 1) := by
 match f, h with
 | 0, h => simp at h; omega
 | 1, h => simp at h; omega
 | f + 2, h =>
  refine ⟨by omega, ?_⟩
  rw [Int.pow_succ] at h
  show m / 8 < 8 ^ (f + 1)
  omega
def z2v (l : List Bool) (v : Int) : List Bool × Int := if v < -4000000 ∨ v > 4000000 then ([], 3) else (l ++ zenc 8 (ZG v), 0)
theorem put4 (k : List Bool) {n : Int} (h0 : 0 ≤ n) (h1 : n < 16) : putR k n 4 = (k ++ y9 4 n, 0) := by
 unfold putR
 rw [if_pos ⟨by omega, by omega, h0, by simpa using h1⟩]; rfl
theorem putm {k : List Bool} {m : Int} (h : 0 ≤ m) : putR k (8 + m % 8) 4 = (k ++ y9 4 (8 + m % 8), 0) ∧ putR k (0 + m % 8) 4 = (k ++ y9 4 (0 + m % 8), 0) :=
 ⟨put4 k (by omega) (by omega), put4 k (by omega) (by omega)⟩
/-! ### Reading -/
def ZY : Nat → Nat → Int → Int → List Bool → Int × Int × Int
 | 0, _, _, _, _ => (0, 0, 3)
 | f + 1, k, n, sc, l =>
  if l.length < 4 then (0, 0, 8) else
  if (zX l 4).1 = 0 ∧ k > 0 then (0, 0, 4) else
  if n + (zX l 4).1 % 8 * sc > 8000000 then (0, 0, 3) else
  if (zX l 4).1 < 8 then (unf (n + (zX l 4).1 % 8 * sc), 4 * (k : Int) + 4, 0) else ZY f (k + 1) (n + (zX l 4).1 % 8 * sc) (sc * 8) (l.drop 4)
def zw (l : List Bool) : Int × Int × Int := ZY 8 0 0 1 l
theorem rd4 (d : List Bool) : (d.length < 4 ∧ (zX d 4).1 = 0 ∧ (zX d 4).2 = 8) ∨ (4 ≤ d.length ∧ (zX d 4).1 = val (d.take 4) ∧ (zX d 4).2 = 0 ∧ 0 ≤ (zX d 4).1 ∧ (zX d 4).1 < 16) := by
 unfold zX
 rw [if_neg (by omega)]
 by_cases h : (d.length : Int) < 4
 ·rw [if_pos h]; left; exact ⟨by omega, rfl, rfl⟩
 ·rw [if_neg h]
  have h1 := zra (d.take 4)
  rw [List.length_take, Nat.min_eq_left (by omega)] at h1
  right; exact ⟨by omega, rfl, rfl, h1.1, by simpa using h1.2⟩
section
variable {f k : Nat} {n sc : Int} {l : List Bool}
theorem z9c (hf : 1 ≤ f) (h : l.length < 4) : ZY f k n sc l = (0, 0, 8) := by
 obtain ⟨g, rfl⟩ : ∃ g, f = g + 1 := ⟨f - 1, by omega⟩
 rw [ZY, if_pos h]
theorem z9d (hf : 1 ≤ f) (h : 4 ≤ l.length) (h0 : (zX l 4).1 = 0) (hk : 0 < k) : ZY f k n sc l = (0, 0, 4) := by
 obtain ⟨g, rfl⟩ : ∃ g, f = g + 1 := ⟨f - 1, by omega⟩
 rw [ZY, if_neg (by omega), if_pos ⟨h0, hk⟩]
theorem z6g (hf : 1 ≤ f) (h : 4 ≤ l.length) (h0 : ¬ ((zX l 4).1 = 0 ∧ 0 < k)) (h1 : n + (zX l 4).1 % 8 * sc > 8000000) : ZY f k n sc l = (0, 0, 3) := by
 obtain ⟨g, rfl⟩ : ∃ g, f = g + 1 := ⟨f - 1, by omega⟩
 rw [ZY, if_neg (by omega), if_neg h0, if_pos h1]
theorem z3r (hf : 1 ≤ f) (h : 4 ≤ l.length) (h0 : ¬ ((zX l 4).1 = 0 ∧ 0 < k)) (h1 : ¬ n + (zX l 4).1 % 8 * sc > 8000000) (h2 : (zX l 4).1 < 8) : ZY f k n sc l = (unf (n + (zX l 4).1 % 8 * sc), 4 * (k : Int) + 4, 0) := by
 obtain ⟨g, rfl⟩ : ∃ g, f = g + 1 := ⟨f - 1, by omega⟩
 rw [ZY, if_neg (by omega), if_neg h0, if_neg h1, if_pos h2]
theorem z5w (hf : 1 ≤ f) (h : 4 ≤ l.length) (h0 : ¬ ((zX l 4).1 = 0 ∧ 0 < k)) (h1 : ¬ n + (zX l 4).1 % 8 * sc > 8000000) (h2 : ¬ (zX l 4).1 < 8) : ZY f k n sc l = ZY (f - 1) (k + 1) (n + (zX l 4).1 % 8 * sc) (sc * 8) (l.drop 4) := by
 obtain ⟨g, rfl⟩ : ∃ g, f = g + 1 := ⟨f - 1, by omega⟩
 rw [ZY, if_neg (by omega), if_neg h0, if_neg h1, if_neg h2]; rfl
end
theorem zmd {a b c : Int} (h0 : 0 ≤ a) (h1 : a ≤ 7) (h2 : 0 ≤ b) (h3 : b ≤ c) : 0 ≤ a * b ∧ a * b ≤ 7 * c := by
 refine ⟨Int.mul_nonneg h0 h2, ?_⟩
 have h4 : a * b ≤ 7 * b := Int.mul_le_mul_of_nonneg_right h1 h2
 omega
theorem zfo : ∀ (f k : Nat) (n sc : Int) (l : List Bool), (ZY f k n sc l).2.2 = 0 → 4 * (k : Int) ≤ (ZY f k n sc l).2.1 ∧ (ZY f k n sc l).2.1 ≤ 4 * (k : Int) + l.length
 | 0, k, n, sc, l, h => by simp [ZY] at h
 | f + 1, k, n, sc, l, h => by
  by_cases h1 : l.length < 4
  ·rw [z9c (by omega) h1] at h; simp at h
  ·by_cases h2 : (zX l 4).1 = 0 ∧ 0 < k
   ·rw [z9d (by omega) (by omega) h2.1 h2.2] at h; simp at h
   ·by_cases h3 : n + (zX l 4).1 % 8 * sc > 8000000
    ·rw [z6g (by omega) (by omega) h2 h3] at h; simp at h
    ·by_cases h4 : (zX l 4).1 < 8
     ·rw [z3r (by omega) (by omega) h2 h3 h4]; simp only; omega
     ·rw [z5w (by omega) (by omega) h2 h3 h4] at h ⊢
      have := zfo _ _ _ _ _ h
      rw [List.length_drop] at this
      simp only [Nat.add_sub_cancel] at this ⊢
      push_cast at this
      omega
theorem zjj : ∀ (f k : Nat) (n sc : Int) (l : List Bool), ¬ (ZY f k n sc l).2.2 = 0 → (ZY f k n sc l).1 = 0 ∧ (ZY f k n sc l).2.1 = 0
 | 0, k, n, sc, l, h => ⟨rfl, rfl⟩
 | f + 1, k, n, sc, l, h => by
  by_cases h1 : l.length < 4
  ·rw [z9c (by omega) h1]; exact ⟨rfl, rfl⟩
  ·by_cases h2 : (zX l 4).1 = 0 ∧ 0 < k
   ·rw [z9d (by omega) (by omega) h2.1 h2.2]; exact ⟨rfl, rfl⟩
   ·by_cases h3 : n + (zX l 4).1 % 8 * sc > 8000000
    ·rw [z6g (by omega) (by omega) h2 h3]; exact ⟨rfl, rfl⟩
    ·by_cases h4 : (zX l 4).1 < 8
     ·rw [z3r (by omega) (by omega) h2 h3 h4] at h; simp at h
     ·rw [z5w (by omega) (by omega) h2 h3 h4] at h ⊢
      exact zjj _ _ _ _ _ h
theorem z7C {l : List Bool} (h : (zw l).2.2 = 0) : 0 ≤ (zw l).2.1 ∧ (zw l).2.1 ≤ l.length := by
 have := zfo 8 0 0 1 l h
 unfold zw
 omega
theorem zpS {l : List Bool} (h : ¬ (zw l).2.2 = 0) : (zw l).1 = 0 ∧ (zw l).2.1 = 0 := zjj 8 0 0 1 l h
def YS (l : List Bool) : Int × List Bool × Int := ((zw l).1, (if (zw l).2.2 = 0 then l.drop (zw l).2.1.toNat else []), (zw l).2.2)
/-! ### The document's way -/
def dig : Nat → Int → List Int
 | 0, _ => []
 | f + 1, m => m % 8 :: (if m ≥ 8 then dig f (m / 8) else [])
def grp (more : Bool) (d : Int) : List Bool := [more, decide (d ≥ 4), decide (d.tmod 4 ≥ 2), d.tmod 2 == 1]
def YG (D : List Int) (i : Nat) : List Bool := ((List.range i).map fun (j : Nat) => grp (decide ((j : Int) < D.length - 1)) (D.getD j default)).flatten
theorem zeB (D : List Int) (i : Nat) : YG D (i + 1) = YG D i ++ grp (decide ((i : Int) < D.length - 1)) (D.getD i default) := by simp [YG, List.range_succ]
theorem zpT (D : List Int) (i : Nat) : (YG D i).length = 4 * i := by
 induction i with
 | zero => simp [YG]
 | succ i ih => rw [zeB, List.length_append, ih]; simp [grp]; omega
theorem zme {d : Int} (b : Bool) (h0 : 0 ≤ d) (h1 : d < 8) : grp b d = y9 4 ((if b then 8 else 0) + d) := by
 have h : d = 0 ∨ d = 1 ∨ d = 2 ∨ d = 3 ∨ d = 4 ∨ d = 5 ∨ d = 6 ∨ d = 7 := by omega
 cases b <;> rcases h with rfl | rfl | rfl | rfl | rfl | rfl | rfl | rfl <;> decide
theorem znX (d : Int) (D : List Int) : YG (d :: D) (D.length + 1) = grp (decide (0 < D.length)) d ++ YG D D.length := by
 unfold YG
 rw [List.range_succ_eq_map, List.map_cons, List.flatten_cons, List.map_map]
 congr 1
 ·congr 1
  simp only [List.length_cons]
  apply decide_eq_decide.2
  omega
 ·congr 1
  apply List.map_congr_left
  intro j _
  simp only [Function.comp, List.getD_cons_succ, List.length_cons]
  congr 1
  apply decide_eq_decide.2
  omega
theorem zui {f : Nat} {m : Int} (h : 1 ≤ f) : 0 < (dig f m).length := by
 obtain ⟨g, rfl⟩ : ∃ g, f = g + 1 := ⟨f - 1, by omega⟩
 simp [dig]
theorem zmf : ∀ (f : Nat) (m : Int), 0 ≤ m → m < 8 ^ f → 1 ≤ f → YG (dig f m) (dig f m).length = zenc f m
 | 0, m, _, _, h => by omega
 | f + 1, m, h0, h1, _ => by
  rw [dig, List.length_cons, znX]
  by_cases h8 : m ≥ 8
  ·have h2 := z9b h1 h8
   rw [if_pos h8, z1t (by omega) h8]
   have hp := zui (f := f) (m := m / 8) (by omega)
   rw [zmf f (m / 8) (by omega) h2.2 (by omega), zme _ (by omega) (by omega)]
   simp [hp]
  ·rw [if_neg h8, J3 (by omega) (by omega), zme _ (by omega) (by omega)]
   simp [YG]
theorem zsR {f : Nat} {m : Int} (hf : 1 ≤ f) (h0 : 0 ≤ m) : dig f m = (m % 8) :: (if m / 8 > 0 then dig (f - 1) (m / 8) else []) := by
 obtain ⟨g, rfl⟩ : ∃ g, f = g + 1 := ⟨f - 1, by omega⟩
 rw [dig]
 by_cases h8 : m ≥ 8
 ·rw [if_pos h8, if_pos (by omega)]; rfl
 ·rw [if_neg h8, if_neg (by omega)]
theorem zrc {v : Int} (h : -4000000 ≤ v ∧ v ≤ 4000000) : YG (dig 8 (ZG v)) (dig 8 (ZG v)).length = zenc 8 (ZG v) := by
 have h1 := z3p v
 exact zmf 8 _ (by omega) (by show _ < (16777216 : Int); omega) (by omega)
/-! A group as the document takes it apart. -/
def dAt (b : List Bool) (i : Nat) : Int := (if 0 < i ∧ b.getD 0 default then 4 else 0) + (if 1 < i ∧ b.getD 1 default then 2 else 0) + (if 2 < i ∧ b.getD 2 default then 1 else 0)
theorem zsS {b : List Bool} {i : Nat} (h : i < 3) : dAt b (i + 1) = dAt b i + (if b.getD i default then (4 : Int) / 2 ^ i else 0) := by
 have h3 : i = 0 ∨ i = 1 ∨ i = 2 := by omega
 rcases h3 with rfl | rfl | rfl <;> simp [dAt]
theorem zgK (b : List Bool) (i : Nat) : 0 ≤ dAt b i ∧ dAt b i ≤ 7 := by
 unfold dAt
 split <;> split <;> split <;> omega
theorem group {l : List Bool} (h : 4 ≤ l.length) : (zX l 4).1 = (if l.getD 0 default then 8 else 0) + dAt ((l.take 4).drop 1) 3 := by
 match l, h with
 | a :: b :: c :: d :: r, _ =>
  have h1 := rd4 (a :: b :: c :: d :: r)
  simp only [List.length_cons] at h1
  have h2 : (zX (a :: b :: c :: d :: r) 4).1 = val [a, b, c, d] := by
   rcases h1 with h1 | h1
   ·omega
   ·exact h1.2.1
  rw [h2]
  show val [a, b, c, d] = (if a = true then 8 else 0) + dAt [b, c, d] 3
  cases a <;> cases b <;> cases c <;> cases d <;> decide
theorem zuj {l : List Bool} (h : 4 ≤ l.length) (hb : l.getD 0 default = false) : (zX l 4).1 = dAt ((l.take 4).drop 1) 3 := by rw [group h, hb]; simp
theorem zuk {l : List Bool} (h : 4 ≤ l.length) (hb : l.getD 0 default = true) : (zX l 4).1 = 8 + dAt ((l.take 4).drop 1) 3 := by rw [group h, hb]; simp
theorem zrd {l : List Bool} (h : 4 ≤ l.length) : (zX l 4).1 % 8 = dAt ((l.take 4).drop 1) 3 := by
 have h1 := group h
 have h2 := zgK ((l.take 4).drop 1) 3
 split at h1 <;> omega
end Go.Rb
namespace Go.Rb
theorem ztJ {x : Int} (h0 : 0 ≤ x) (h1 : x < 16) (r : List Bool) : (zX (y9 4 x ++ r) 4).1 = x ∧ 4 ≤ (y9 4 x ++ r).length ∧ (y9 4 x ++ r).drop 4 = r := by
 have hl : (y9 4 x).length = 4 := Y2 4 x
 have h2 : 4 ≤ (y9 4 x ++ r).length := by rw [List.length_append, hl]; omega
 refine ⟨?_, h2, ?_⟩
 ·have h3 := rd4 (y9 4 x ++ r)
  have h4 : (y9 4 x ++ r).take 4 = y9 4 x := by rw [List.take_append_of_le_length (by omega), List.take_of_length_le (by omega)]
  rw [h4, zji 4 x h0 (by simpa using h1)] at h3
  omega
 ·rw [List.drop_append_of_le_length (by omega), List.drop_of_length_le (by omega), List.nil_append]
theorem zre (m sc : Int) : m % 8 * sc + m / 8 * (sc * 8) = m * sc := by
 have h1 : m / 8 * (sc * 8) = 8 * (m / 8) * sc := by rw [Int.mul_comm sc 8, ← Int.mul_assoc, Int.mul_comm (m / 8) 8]
 rw [h1, ← Int.add_mul]
 congr 1
 omega
theorem zjk : ∀ (f k : Nat) (n sc m : Int) (r : List Bool), 1 ≤ f → 0 ≤ m → m < 8 ^ f → 0 ≤ n → 1 ≤ sc → n + m * sc ≤ 8000000 → (0 < k → 1 ≤ m) →
  ZY f k n sc (zenc f m ++ r) = (unf (n + m * sc), 4 * (k : Int) + (zenc f m).length, 0)
 | 0, k, n, sc, m, r, hf, _, _, _, _, _, _ => by omega
 | f + 1, k, n, sc, m, r, hf, h0, h1, hn, hsc, hb, hk => by
  by_cases h8 : m < 8
  ·rw [J3 hf h8]
   have hr := ztJ (x := 0 + m % 8) (by omega) (by omega) r
   have hx : (zX (y9 4 (0 + m % 8) ++ r) 4).1 % 8 = m := by rw [hr.1]; omega
   rw [z3r hf hr.2.1 (by rw [hr.1]; omega) (by rw [hx]; omega) (by rw [hr.1]; omega), hx, Y2]
   rfl
  ·have h2 := z9b h1 (by omega)
   rw [z1t hf (by omega), List.append_assoc]
   have hr := ztJ (x := 8 + m % 8) (by omega) (by omega) (zenc (f + 1 - 1) (m / 8) ++ r)
   have hx : (zX (y9 4 (8 + m % 8) ++ (zenc (f + 1 - 1) (m / 8) ++ r)) 4).1 % 8 = m % 8 := by rw [hr.1]; omega
   have hs := zre m sc
   have hp1 : 0 ≤ m % 8 * sc := Int.mul_nonneg (by omega) (by omega)
   have hp2 : 0 ≤ m / 8 * (sc * 8) := Int.mul_nonneg (by omega) (by omega)
   rw [z5w hf hr.2.1 (by rw [hr.1]; omega) (by rw [hx]; omega) (by rw [hr.1]; omega), hx, hr.2.2]
   simp only [Nat.add_sub_cancel] at h2 ⊢
   rw [zjk f (k + 1) _ _ (m / 8) r (by omega) (by omega) h2.2 (by omega) (by omega) (by omega) (by omega), List.length_append, Y2]
   rw [show n + m % 8 * sc + m / 8 * (sc * 8) = n + m * sc from by omega]
   refine Prod.ext rfl (Prod.ext ?_ rfl)
   push_cast
   omega
theorem zcr : ∀ (f k : Nat) (n sc : Int) (l : List Bool), 0 ≤ n → 1 ≤ sc → (ZY f k n sc l).2.2 = 0 →
  ∃ m, 0 ≤ m ∧ m < 8 ^ f ∧ (0 < k → 1 ≤ m) ∧ n + m * sc ≤ 8000000 ∧ (ZY f k n sc l).1 = unf (n + m * sc) ∧ (ZY f k n sc l).2.1 = 4 * (k : Int) + (zenc f m).length ∧ l = zenc f m ++ l.drop (zenc f m).length
 | 0, k, n, sc, l, _, _, h => by simp [ZY] at h
 | f + 1, k, n, sc, l, hn, hsc, h => by
  by_cases h1 : l.length < 4
  ·rw [z9c (by omega) h1] at h; simp at h
  have hrd := rd4 l
  have hlt : (l.take 4).length = 4 := by rw [List.length_take]; omega
  have htk : y9 4 (zX l 4).1 = l.take 4 := by
   have h9 := zrb (l.take 4)
   rw [hlt] at h9
   rw [show (zX l 4).1 = val (l.take 4) from by omega]
   exact h9
  by_cases h2 : (zX l 4).1 = 0 ∧ 0 < k
  ·rw [z9d (by omega) (by omega) h2.1 h2.2] at h; simp at h
  by_cases h3 : n + (zX l 4).1 % 8 * sc > 8000000
  ·rw [z6g (by omega) (by omega) h2 h3] at h; simp at h
  by_cases h4 : (zX l 4).1 < 8
  ·have hx : (zX l 4).1 % 8 = (zX l 4).1 := by omega
   have hp : (1 : Int) ≤ 8 ^ f := by have : (0 : Int) < 8 ^ f := Int.pow_pos (by omega); omega
   refine ⟨(zX l 4).1, by omega, by rw [Int.pow_succ]; omega, by omega, by rw [← hx]; omega, ?_, ?_, ?_⟩
   ·rw [z3r (by omega) (by omega) h2 h3 h4, hx]
   ·rw [z3r (by omega) (by omega) h2 h3 h4, J3 (by omega) h4, Y2]; rfl
   ·rw [J3 (by omega) h4, Int.zero_add, hx, htk, hlt, List.take_append_drop]
  ·rw [z5w (by omega) (by omega) h2 h3 h4] at h ⊢
   have hp1 : 0 ≤ (zX l 4).1 % 8 * sc := Int.mul_nonneg (by omega) (by omega)
   simp only [Nat.add_sub_cancel] at h ⊢
   obtain ⟨m, g1, g2, g3, g4, g5, g6, g7⟩ := zcr f (k + 1) _ _ _ (by omega) (by omega) h
   have g3' := g3 (by omega)
   have hs := zre ((zX l 4).1 % 8 + 8 * m) sc
   rw [show ((zX l 4).1 % 8 + 8 * m) % 8 = (zX l 4).1 % 8 from by omega, show ((zX l 4).1 % 8 + 8 * m) / 8 = m from by omega] at hs
   have hz : zenc (f + 1) ((zX l 4).1 % 8 + 8 * m) = l.take 4 ++ zenc f m := by
    rw [z1t (by omega) (by omega), ← htk]
    rw [show 8 + ((zX l 4).1 % 8 + 8 * m) % 8 = (zX l 4).1 from by omega, show ((zX l 4).1 % 8 + 8 * m) / 8 = m from by omega]
    rfl
   refine ⟨(zX l 4).1 % 8 + 8 * m, by omega, by rw [Int.pow_succ]; omega, by omega, by omega, ?_, ?_, ?_⟩
   ·rw [g5]; congr 1; omega
   ·rw [g6, hz, List.length_append, hlt]; push_cast; omega
   ·rw [hz, List.length_append, hlt, List.append_assoc, ← List.drop_drop, ← g7, List.take_append_drop]
theorem z3s {v : Int} (h : -4000000 ≤ v ∧ v ≤ 4000000) (l : List Bool) : z2v l v = (l ++ zenc 8 (ZG v), 0) := by
 unfold z2v
 rw [if_neg (by omega)]
theorem zsT {v : Int} (h : -4000000 ≤ v ∧ v ≤ 4000000) (r : List Bool) : YS (zenc 8 (ZG v) ++ r) = (v, r, 0) := by
 have h1 := z3p v
 have h2 := zjk 8 0 0 1 (ZG v) r (by omega) (by omega) (by show _ < (16777216 : Int); omega) (by omega) (by omega) (by omega) (by omega)
 unfold YS zw
 rw [h2]
 simp only [Int.zero_add, Int.mul_one, zsP, if_true]
 refine Prod.ext rfl (Prod.ext ?_ rfl)
 simp
theorem zrf {l : List Bool} (h : (YS l).2.2 = 0) : z2v [] (YS l).1 = ((z2v [] (YS l).1).1, 0) ∧ (z2v [] (YS l).1).1 ++ (YS l).2.1 = l := by
 have h' : (ZY 8 0 0 1 l).2.2 = 0 := h
 obtain ⟨m, g1, g2, g3, g4, g5, g6, g7⟩ := zcr 8 0 0 1 l (by omega) (by omega) h'
 rw [Int.zero_add, Int.mul_one] at g4 g5
 have hu := z9a g1
 have hv : (YS l).1 = unf m := g5
 have hr : (YS l).2.1 = l.drop (zenc 8 m).length := by
  show (if (ZY 8 0 0 1 l).2.2 = 0 then l.drop (ZY 8 0 0 1 l).2.1.toNat else []) = _
  rw [if_pos h', g6]
  congr 1
  omega
 rw [hv, hr, z3s (by omega), zsQ g1]
 exact ⟨rfl, by rw [List.nil_append]; exact g7.symm⟩
end Go.Rb
namespace Go.Rb
def PtIn (p : Pt) : Prop := 0 ≤ p.1 ∧ p.1 ≤ 100000 ∧ -1000000 ≤ p.2 ∧ p.2 ≤ 1000000
def chk : Int → List Pt → Int
 | _, [] => 0
 | last, p :: r => if p.1 < 0 ∨ p.1 > 100000 ∨ p.2 < -1000000 ∨ p.2 > 1000000 then 3 else if last ≥ p.1 then 7 else chk p.1 r
def zZ (l : List Pt) : Int := if l.length > 40 then 2 else chk (-1) l
def z7D (l : List Pt) (i : Nat) : Int := if i = 0 then -1 else (l.getD (i - 1) default).1
theorem V0 {α : Type} [Inhabited α] {l : List α} {i : Nat} (h : i < l.length) : l.drop i = l.getD i default :: l.drop (i + 1) := by
 rw [List.drop_eq_getElem_cons h]; simp [List.getD, List.getElem?_eq_getElem h]
theorem zsU {l : List Pt} {i : Nat} (h : i < l.length) : chk (z7D l i) (l.drop i) =
  if (l.getD i default).1 < 0 ∨ (l.getD i default).1 > 100000 ∨ (l.getD i default).2 < -1000000 ∨ (l.getD i default).2 > 1000000 then 3 else if z7D l i ≥ (l.getD i default).1 then 7 else chk (z7D l (i + 1)) (l.drop (i + 1)) := by
 rw [V0 h, chk]
 simp [z7D]
theorem zoW : ∀ {l : List Pt} {last : Int}, chk last l = 0 → ∀ p ∈ l, PtIn p
 | [], _, _, p, hp => by cases hp
 | q :: l, last, h, p, hp => by
  rw [chk] at h
  split at h
  ·cases h
  ·split at h
   ·cases h
   ·rcases List.mem_cons.1 hp with rfl | hp
    ·unfold PtIn; omega
    ·exact zoW h p hp
theorem Yv {l : List Pt} (h : zZ l = 0) : l.length ≤ 40 := by
 unfold zZ at h
 split at h
 ·cases h
 ·omega
theorem z2w {l : List Pt} (h : zZ l = 0) : chk (-1) l = 0 := by
 unfold zZ at h
 split at h
 ·cases h
 ·exact h
theorem z9Y {l : List Pt} (h : zZ l = 0) : ∀ p ∈ l, PtIn p := zoW (z2w h)
theorem yi {α : Type} [Inhabited α] {l : List α} {i : Nat} (h : i < l.length) : l.getD i default ∈ l := by
 have : l.getD i default = l[i] := by simp [List.getD, List.getElem?_eq_getElem h]
 rw [this]; exact List.getElem_mem h
end Go.Rb
namespace Go.Rb
abbrev badP (p : Pt) : Prop := p.1 < 0 ∨ p.1 > 100000 ∨ p.2 < -1000000 ∨ p.2 > 1000000
def chkP (p : Pt) : Int := if badP p then 3 else 0
theorem zid (p : Pt) : (badP p ∧ chkP p = 3) ∨ (PtIn p ∧ chkP p = 0) := by
 unfold chkP
 by_cases h : badP p
 ·left; exact ⟨h, if_pos h⟩
 ·right; exact ⟨by unfold badP at h; unfold PtIn; omega, if_neg h⟩
def YF (l : List Pt) (i : Nat) : Pt := if i = 0 then ⟨0, 0⟩ else l.getD (i - 1) default
def vI (l : List Pt) (i : Nat) : Int := if i = 0 then 0 else (l.getD (i - 1) default).1 - (YF l (i - 1)).1
theorem zpU (l : List Pt) (i : Nat) : YF l (i + 1) = l.getD i default := by simp [YF]
theorem zpV (l : List Pt) (i : Nat) : vI l (i + 1) = (l.getD i default).1 - (YF l i).1 := by simp [vI]
def vg (last : Pt) (step : Int) (p : Pt) : List Bool := zenc 8 (ZG (p.1 - last.1 - step)) ++ zenc 8 (ZG (p.2 - last.2))
def Yh (l : List Pt) (i : Nat) : List Bool := ((List.range i).map fun j => vg (YF l j) (vI l j) (l.getD j default)).flatten
theorem z8g (l : List Pt) (i : Nat) : Yh l (i + 1) = Yh l i ++ vg (YF l i) (vI l i) (l.getD i default) := by simp [Yh, List.range_succ]
theorem zrg (a : Pt) (s : Int) (p : Pt) : (vg a s p).length ≤ 64 := by
 have h1 := z3q 8 (ZG (p.1 - a.1 - s))
 have h2 := z3q 8 (ZG (p.2 - a.2))
 unfold vg; rw [List.length_append]; omega
theorem zgL (l : List Pt) (i : Nat) : (Yh l i).length ≤ 64 * i := by
 induction i with
 | zero => simp [Yh]
 | succ i ih =>
  have := zrg (YF l i) (vI l i) (l.getD i default)
  rw [z8g, List.length_append]; omega
def Jw (l : List Pt) : List Bool × Int := if zZ l = 0 then (Yh l l.length, 0) else ([], zZ l)
theorem ztK {l : List Pt} (h : zZ l = 0) {i : Nat} (hi : i < l.length) : PtIn (l.getD i default) ∧ PtIn (YF l i) ∧ -100000 ≤ vI l i ∧ vI l i ≤ 100000 := by
 have hall := z9Y h
 have hp : ∀ j, j < l.length → PtIn (l.getD j default) := fun j hj => hall _ (yi hj)
 have hl : ∀ j, j ≤ l.length → PtIn (YF l j) := by
  intro j hj
  unfold YF
  split
  ·unfold PtIn; decide
  ·exact hp _ (by omega)
 refine ⟨hp i hi, hl i (by omega), ?_⟩
 unfold vI
 split
 ·omega
 ·have h1 := hp (i - 1) (by omega)
  have h2 := hl (i - 1) (by omega)
  unfold PtIn at h1 h2
  omega
theorem second {l : List Pt} {i : Nat} : (i = 0 → (YF l i).1 = 0 ∧ (YF l i).2 = 0 ∧ vI l i = 0) ∧ (0 < i → (YF l i) = l.getD (i - 1) default) ∧ (i = 1 → vI l i = (l.getD (i - 1) default).1) ∧
  (1 < i → vI l i = (l.getD (i - 1) default).1 - (l.getD (i - 2) default).1) := by
 refine ⟨?_, ?_, ?_, ?_⟩
 ·rintro rfl; simp [YF, vI, ]
 ·intro h; unfold YF; rw [if_neg (by omega)]
 ·rintro rfl; simp [YF, vI, ]
 ·intro h
  unfold vI YF
  rw [if_neg (by omega), if_neg (by omega), show i - 1 - 1 = i - 2 from by omega]
/-! ### Unpacking -/
def vh (k : Nat) (last p : Pt) : Int := if badP p then 3 else if 0 < k ∧ last.1 ≥ p.1 then 7 else 0
def nxt (last : Pt) (step : Int) (b : List Bool) : Pt := ⟨last.1 + step + (zw b).1, last.2 + (zw (b.drop (zw b).2.1.toNat)).1⟩
def Zd (b : List Bool) : List Bool := b.drop (zw b).2.1.toNat
def z3I (b : List Bool) : List Bool := (Zd b).drop (zw (Zd b)).2.1.toNat
def unpk : Nat → Nat → Pt → Int → List Pt → List Bool → List Pt × Int
 | 0, _, _, _, acc, b => if b.length > 0 then ([], 8) else (acc, 0)
 | f + 1, k, last, step, acc, b =>
  if ¬ (zw b).2.2 = 0 then ([], (zw b).2.2) else
  if ¬ (zw (Zd b)).2.2 = 0 then ([], (zw (Zd b)).2.2) else
  if ¬ vh k last (nxt last step b) = 0 then ([], vh k last (nxt last step b)) else
  unpk f (k + 1) (nxt last step b) ((nxt last step b).1 - last.1) (acc ++ [nxt last step b]) (z3I b)
def ZV (b : List Bool) (n : Int) : List Pt × Int := if n < 0 ∨ n > 40 then ([], 2) else unpk n.toNat 0 ⟨0, 0⟩ 0 [] b
section
variable {f k : Nat} {last : Pt} {step : Int} {acc : List Pt} {b : List Bool}
theorem un_a (hf : 1 ≤ f) (h : ¬ (zw b).2.2 = 0) : unpk f k last step acc b = ([], (zw b).2.2) := by
 obtain ⟨g, rfl⟩ : ∃ g, f = g + 1 := ⟨f - 1, by omega⟩
 rw [unpk, if_pos h]
theorem un_b (hf : 1 ≤ f) (h : (zw b).2.2 = 0) (h1 : ¬ (zw (Zd b)).2.2 = 0) : unpk f k last step acc b = ([], (zw (Zd b)).2.2) := by
 obtain ⟨g, rfl⟩ : ∃ g, f = g + 1 := ⟨f - 1, by omega⟩
 rw [unpk, if_neg (by omega), if_pos h1]
theorem un_c (hf : 1 ≤ f) (h : (zw b).2.2 = 0) (h1 : (zw (Zd b)).2.2 = 0) (h2 : ¬ vh k last (nxt last step b) = 0) : unpk f k last step acc b = ([], vh k last (nxt last step b)) := by
 obtain ⟨g, rfl⟩ : ∃ g, f = g + 1 := ⟨f - 1, by omega⟩
 rw [unpk, if_neg (by omega), if_neg (by omega), if_pos h2]
theorem un_d (hf : 1 ≤ f) (h : (zw b).2.2 = 0) (h1 : (zw (Zd b)).2.2 = 0) (h2 : vh k last (nxt last step b) = 0) :
  unpk f k last step acc b = unpk (f - 1) (k + 1) (nxt last step b) ((nxt last step b).1 - last.1) (acc ++ [nxt last step b]) (z3I b) := by
 obtain ⟨g, rfl⟩ : ∃ g, f = g + 1 := ⟨f - 1, by omega⟩
 rw [unpk, if_neg (by omega), if_neg (by omega), if_neg (by omega)]; rfl
theorem un_e (h : b.length > 0) : unpk 0 k last step acc b = ([], 8) := by rw [unpk, if_pos h]
theorem un_f (h : ¬ b.length > 0) : unpk 0 k last step acc b = (acc, 0) := by rw [unpk, if_neg h]
end
theorem z9Z (k : Nat) (last p : Pt) : (badP p ∧ vh k last p = 3) ∨ (PtIn p ∧ 0 < k ∧ p.1 ≤ last.1 ∧ vh k last p = 7) ∨ (PtIn p ∧ (k = 0 ∨ last.1 < p.1) ∧ vh k last p = 0) := by
 unfold vh
 by_cases h : badP p
 ·left; exact ⟨h, if_pos h⟩
 ·have hp : PtIn p := by unfold badP at h; unfold PtIn; omega
  right
  rw [if_neg h]
  by_cases h2 : 0 < k ∧ last.1 ≥ p.1
  ·left; rw [if_pos h2]; exact ⟨hp, h2.1, h2.2, rfl⟩
  ·right; rw [if_neg h2]; exact ⟨hp, by omega, rfl⟩
theorem zrh {acc : List Pt} {last p : Pt} {k : Nat} (hk : acc.length = k) (hl : PtIn last) (hlast : 0 < k → acc.getD (k - 1) default = last) : zZ (acc.drop (acc.length - 1) ++ [p]) = vh k last p := by
 by_cases h0 : k = 0
 ·have : acc = [] := List.eq_nil_of_length_eq_zero (by omega)
  subst this
  subst h0
  simp only [List.drop_nil, List.nil_append, zZ, List.length_cons, List.length_nil, chk, vh, badP]
  unfold PtIn at hl
  rw [if_neg (by omega)]
  by_cases hb : p.1 < 0 ∨ p.1 > 100000 ∨ p.2 < -1000000 ∨ p.2 > 1000000
  ·rw [if_pos hb, if_pos hb]
  ·rw [if_neg hb, if_neg hb, if_neg (by omega), if_neg (by omega)]
 ·have hd : acc.drop (acc.length - 1) = [last] := by
   rw [V0 (by omega), List.drop_of_length_le (by omega), hk, hlast (by omega)]
  rw [hd]
  simp only [List.cons_append, List.nil_append, zZ, List.length_cons, List.length_nil, chk, vh, badP]
  unfold PtIn at hl
  rw [if_neg (by omega), if_neg (by omega), if_neg (by omega)]
  by_cases hb : p.1 < 0 ∨ p.1 > 100000 ∨ p.2 < -1000000 ∨ p.2 > 1000000
  ·rw [if_pos hb, if_pos hb]
  ·rw [if_neg hb, if_neg hb]
   by_cases hc : last.1 ≥ p.1
   ·rw [if_pos hc, if_pos ⟨by omega, hc⟩]
   ·rw [if_neg hc, if_neg (by omega)]
theorem z7E (l : List Bool) : -4000001 ≤ (zw l).1 ∧ (zw l).1 ≤ 4000000 := by
 by_cases h : (zw l).2.2 = 0
 ·obtain ⟨m, g1, g2, g3, g4, g5, _⟩ := zcr 8 0 0 1 l (by omega) (by omega) h
  rw [Int.zero_add, Int.mul_one] at g4 g5
  have hu := z9a g1
  have hv : (zw l).1 = unf m := g5
  omega
 ·rw [(zpS h).1]; omega
theorem zeC {b : List Bool} (h : (zw b).2.2 = 0) : (YS b).2.1 = Zd b := by unfold YS Zd; exact if_pos h
theorem zcs (b : List Bool) : (Zd b).length ≤ b.length := by unfold Zd; rw [List.length_drop]; omega
theorem zjl (b : List Bool) : (z3I b).length ≤ b.length := by
 have := zcs b
 unfold z3I; rw [List.length_drop]; omega
theorem zsV {b : List Bool} (h : (zw b).2.2 = 0) (h1 : (zw (Zd b)).2.2 = 0) : b.drop ((zw b).2.1 + (zw (Zd b)).2.1).toNat = z3I b := by
 have g1 := z7C h
 have g2 := z7C h1
 unfold z3I Zd
 unfold Zd at g2
 rw [List.drop_drop]
 congr 1
 omega
theorem zmg : ∀ (f k : Nat) (last : Pt) (step : Int) (acc : List Pt) (b : List Bool), (unpk f k last step acc b).1.length ≤ acc.length + f
 | 0, k, last, step, acc, b => by
  by_cases h : b.length > 0
  ·rw [un_e h]; simp
  ·rw [un_f h]; simp
 | f + 1, k, last, step, acc, b => by
  by_cases h1 : (zw b).2.2 = 0
  ·by_cases h2 : (zw (Zd b)).2.2 = 0
   ·by_cases h3 : vh k last (nxt last step b) = 0
    ·rw [un_d (by omega) h1 h2 h3]
     have := zmg (f + 1 - 1) (k + 1) (nxt last step b) ((nxt last step b).1 - last.1) (acc ++ [nxt last step b]) (z3I b)
     rw [List.length_append] at this
     simp only [List.length_cons, List.length_nil] at this
     omega
    ·rw [un_c (by omega) h1 h2 h3]; simp
   ·rw [un_b (by omega) h1 h2]; simp
  ·rw [un_a (by omega) h1]; simp
theorem z8h (b : List Bool) (n : Int) : (ZV b n).1.length ≤ 40 := by
 unfold ZV
 split
 ·simp
 ·have := zmg n.toNat 0 ⟨0, 0⟩ 0 [] b
  simp only [List.length_nil] at this
  omega
end Go.Rb
namespace Go.Rb
def YM : Pt → Int → List Pt → List Bool
 | _, _, [] => []
 | last, st, p :: r => vg last st p ++ YM p (p.1 - last.1) r
theorem zmh (l : List Pt) : ∀ (d i : Nat), i + d = l.length → Yh l i ++ YM (YF l i) (vI l i) (l.drop i) = Yh l l.length
 | 0, i, h => by
  rw [List.drop_of_length_le (by omega), show i = l.length from by omega]
  simp [YM]
 | d + 1, i, h => by
  rw [← zmh l d (i + 1) (by omega), z8g, V0 (show i < l.length by omega), YM, zpU, zpV, List.append_assoc]
theorem z7F (l : List Pt) : YM ⟨0, 0⟩ 0 l = Yh l l.length := by
 have h := zmh l l.length 0 (by omega)
 simpa [Yh, YF, vI] using h
theorem zoX (m : Int) : 4 ≤ (zenc 8 m).length := by
 rw [zenc, List.length_append, Y2]; omega
theorem zsW (a : Pt) (s : Int) (p : Pt) : 8 ≤ (vg a s p).length := by
 have h1 := zoX (p.1 - a.1 - s |> ZG)
 have h2 := zoX (ZG (p.2 - a.2))
 unfold vg; rw [List.length_append]; omega
theorem zgM {v : Int} (h : -4000000 ≤ v ∧ v ≤ 4000000) (r : List Bool) : (zw (zenc 8 (ZG v) ++ r)).1 = v ∧ (zw (zenc 8 (ZG v) ++ r)).2.2 = 0 ∧ Zd (zenc 8 (ZG v) ++ r) = r := by
 have h1 := zsT h r
 refine ⟨congrArg Prod.fst h1, congrArg (fun x => x.2.2) h1, ?_⟩
 have h2 : (YS (zenc 8 (ZG v) ++ r)).2.1 = r := congrArg (fun x => x.2.1) h1
 rw [← zeC (congrArg (fun x => x.2.2) h1), h2]
theorem zct {b : List Bool} (h : (zw b).2.2 = 0) : b = zenc 8 (ZG (zw b).1) ++ Zd b ∧ -4000000 ≤ (zw b).1 ∧ (zw b).1 ≤ 4000000 := by
 have h1 := zrf (l := b) h
 have hr : -4000000 ≤ (zw b).1 ∧ (zw b).1 ≤ 4000000 := by
  apply Classical.byContradiction
  intro hc
  have h2 : (z2v [] (YS b).1).2 = 3 := by
   unfold z2v
   rw [if_pos (by show (zw b).1 < _ ∨ (zw b).1 > _; omega)]
  rw [h1.1] at h2
  simp at h2
 refine ⟨?_, hr⟩
 have h3 := h1.2
 rw [z3s (v := (YS b).1) hr, zeC h, List.nil_append] at h3
 exact h3.symm
def L0 (k : Nat) (last : Pt) : Int := if k = 0 then -1 else last.1
theorem zfp {L : Int} {p : Pt} {r : List Pt} (h : chk L (p :: r) = 0) : PtIn p ∧ L < p.1 ∧ chk p.1 r = 0 := by
 rw [chk] at h
 split at h
 ·cases h
 ·split at h
  ·cases h
  ·exact ⟨by unfold PtIn; omega, by omega, h⟩
theorem zmi {L : Int} {p : Pt} {r : List Pt} (h1 : PtIn p) (h2 : L < p.1) (h3 : chk p.1 r = 0) : chk L (p :: r) = 0 := by
 unfold PtIn at h1
 rw [chk, if_neg (by omega), if_neg (by omega)]; exact h3
theorem zpW {k : Nat} {last p : Pt} (h1 : PtIn p) (h2 : L0 k last < p.1) : vh k last p = 0 := by
 have h := z9Z k last p
 unfold L0 at h2
 unfold badP at h
 unfold PtIn at h h1
 split at h2 <;> omega
theorem zri {last p : Pt} {st : Int} (hl : PtIn last) (hs : -100000 ≤ st ∧ st ≤ 100000) (hp : PtIn p) (rest : List Bool) :
  (zw (vg last st p ++ rest)).2.2 = 0 ∧ (zw (Zd (vg last st p ++ rest))).2.2 = 0 ∧ nxt last st (vg last st p ++ rest) = p ∧ z3I (vg last st p ++ rest) = rest := by
 unfold PtIn at hl hp
 have h1 := zgM (v := p.1 - last.1 - st) (by omega) (zenc 8 (ZG (p.2 - last.2)) ++ rest)
 have h2 := zgM (v := p.2 - last.2) (by omega) rest
 have e : vg last st p ++ rest = zenc 8 (ZG (p.1 - last.1 - st)) ++ (zenc 8 (ZG (p.2 - last.2)) ++ rest) := by unfold vg; rw [List.append_assoc]
 have hb : Zd (vg last st p ++ rest) = zenc 8 (ZG (p.2 - last.2)) ++ rest := by rw [e, h1.2.2]
 refine ⟨by rw [e]; exact h1.2.1, by rw [hb]; exact h2.2.1, ?_, ?_⟩
 ·show (⟨last.1 + st + (zw (vg last st p ++ rest)).1, last.2 + (zw (Zd (vg last st p ++ rest))).1⟩ : Pt) = p
  rw [hb, h2.1, e, h1.1]
  cases p
  simp only [Prod.mk.injEq, ]
  omega
 ·show Zd (Zd (vg last st p ++ rest)) = rest
  rw [hb, h2.2.2]
theorem zcu : ∀ (r : List Pt) (k : Nat) (last : Pt) (st : Int) (acc : List Pt) (more : List Bool), PtIn last → (-100000 ≤ st ∧ st ≤ 100000) → chk (L0 k last) r = 0 →
  unpk r.length k last st acc (YM last st r ++ more) = if more.length > 0 then ([], 8) else (acc ++ r, 0)
 | [], k, last, st, acc, more, _, _, _ => by simp [YM, unpk]
 | p :: r, k, last, st, acc, more, hl, hs, hc => by
  obtain ⟨h1, h2, h3⟩ := zfp hc
  have hi := zri hl hs h1 (YM p (p.1 - last.1) r ++ more)
  rw [YM, List.append_assoc, List.length_cons, un_d (by omega) hi.1 hi.2.1 (by rw [hi.2.2.1]; exact zpW h1 h2), hi.2.2.1, hi.2.2.2, Nat.add_sub_cancel]
  have hl' := hl
  have h1' := h1
  unfold PtIn at hl' h1'
  rw [zcu r (k + 1) p (p.1 - last.1) (acc ++ [p]) more h1 (by omega) (by unfold L0; rw [if_neg (by omega)]; exact h3), List.append_assoc]
  rfl
theorem zcv : ∀ (r1 r2 : List Pt) (last : Pt) (st : Int), ∃ last' st', YM last st (r1 ++ r2) = YM last st r1 ++ YM last' st' r2
 | [], r2, last, st => ⟨last, st, rfl⟩
 | p :: r1, r2, last, st => by
  obtain ⟨a, b, h⟩ := zcv r1 r2 p (p.1 - last.1)
  exact ⟨a, b, by rw [List.cons_append, YM, h, YM, List.append_assoc]⟩
theorem zmj : ∀ (l : List Pt) (L : Int) (k : Nat), chk L l = 0 → chk L (l.take k) = 0
 | [], _, _, _ => by simp [chk]
 | p :: l, L, 0, _ => rfl
 | p :: l, L, k + 1, h => by
  obtain ⟨h1, h2, h3⟩ := zfp h
  rw [List.take_succ_cons]
  exact zmi h1 h2 (zmj l p.1 k h3)
theorem znY {l : List Pt} (h : zZ l = 0) (k : Nat) : zZ (l.take k) = 0 := by
 have h1 := Yv h
 unfold zZ
 rw [if_neg (by rw [List.length_take]; omega)]
 exact zmj l (-1) k (z2w h)
theorem z3t : PtIn ⟨0, 0⟩ := by unfold PtIn; decide
theorem zjm {l : List Pt} (h : zZ l = 0) : Jw l = (Yh l l.length, 0) ∧ ZV (Yh l l.length) l.length = (l, 0) ∧ (0 < l.length → ¬ (ZV (Yh l l.length) (l.length - 1)).2 = 0) := by
 have hl := Yv h
 refine ⟨by unfold Jw; rw [if_pos h], ?_, ?_⟩
 ·unfold ZV
  rw [if_neg (by omega)]
  have h1 := zcu l 0 ⟨0, 0⟩ 0 [] [] z3t (by omega) (z2w h)
  rw [List.append_nil, z7F] at h1
  rw [show ((l.length : Int)).toNat = l.length from by omega, h1]
  simp
 ·intro h0
  unfold ZV
  rw [if_neg (by omega), show ((l.length : Int) - 1).toNat = (l.take (l.length - 1)).length from by rw [List.length_take]; omega]
  obtain ⟨a, b, hab⟩ := zcv (l.take (l.length - 1)) (l.drop (l.length - 1)) ⟨0, 0⟩ 0
  rw [List.take_append_drop] at hab
  rw [← z7F, hab, zcu _ 0 ⟨0, 0⟩ 0 [] _ z3t (by omega) (z2w (znY h _))]
  rw [if_pos]
  ·decide
  ·rw [V0 (by omega), YM, List.length_append]
   have := zsW a b (l.getD (l.length - 1) default)
   omega
theorem zmk : ∀ (f k : Nat) (last : Pt) (st : Int) (acc : List Pt) (b : List Bool), PtIn last → (unpk f k last st acc b).2 = 0 →
  ∃ r, r.length = f ∧ (unpk f k last st acc b).1 = acc ++ r ∧ b = YM last st r ∧ chk (L0 k last) r = 0
 | 0, k, last, st, acc, b, _, h => by
  by_cases hb : b.length > 0
  ·rw [un_e hb] at h; simp at h
  ·rw [un_f hb]
   exact ⟨[], rfl, by simp, by simpa [YM] using hb, rfl⟩
 | f + 1, k, last, st, acc, b, hl, h => by
  by_cases h1 : (zw b).2.2 = 0
  ·by_cases h2 : (zw (Zd b)).2.2 = 0
   ·by_cases h3 : vh k last (nxt last st b) = 0
    ·rw [un_d (by omega) h1 h2 h3, Nat.add_sub_cancel] at h ⊢
     have hse := z9Z k last (nxt last st b)
     have hp : PtIn (nxt last st b) ∧ (k = 0 ∨ last.1 < (nxt last st b).1) := by
      rcases hse with g | g | g
      ·omega
      ·omega
      ·exact ⟨g.1, g.2.1⟩
     obtain ⟨r, g1, g2, g3, g4⟩ := zmk f (k + 1) _ _ _ _ hp.1 h
     have s1 := zct h1
     have s2 := zct h2
     refine ⟨nxt last st b :: r, by simp [g1], by rw [g2, List.append_assoc]; rfl, ?_, ?_⟩
     ·rw [YM, ← g3]
      show b = (zenc 8 (ZG (last.1 + st + (zw b).1 - last.1 - st)) ++ zenc 8 (ZG (last.2 + (zw (Zd b)).1 - last.2))) ++ Zd (Zd b)
      rw [show last.1 + st + (zw b).1 - last.1 - st = (zw b).1 from by omega, show last.2 + (zw (Zd b)).1 - last.2 = (zw (Zd b)).1 from by omega, List.append_assoc, ← s2.1]
      exact s1.1
     ·refine zmi hp.1 ?_ ?_
      ·have := hp.1
       unfold PtIn at this
       unfold L0
       split <;> omega
      ·unfold L0 at g4
       rw [if_neg (by omega)] at g4
       exact g4
    ·rw [un_c (by omega) h1 h2 h3] at h; exact absurd h h3
   ·rw [un_b (by omega) h1 h2] at h; exact absurd h h2
  ·rw [un_a (by omega) h1] at h; exact absurd h h1
theorem zpX {b : List Bool} {n : Int} (h : (ZV b n).2 = 0) : Jw (ZV b n).1 = (b, 0) ∧ ((ZV b n).1.length : Int) = n ∧ zZ (ZV b n).1 = 0 := by
 unfold ZV at h ⊢
 by_cases hn : n < 0 ∨ n > 40
 ·rw [if_pos hn] at h; simp at h
 ·rw [if_neg hn] at h ⊢
  obtain ⟨r, g1, g2, g3, g4⟩ := zmk _ _ _ _ _ _ z3t h
  rw [g2, List.nil_append]
  have hc : zZ r = 0 := by
   unfold zZ
   rw [if_neg (by omega)]
   exact g4
  refine ⟨?_, by omega, hc⟩
  unfold Jw
  rw [if_pos hc, ← z7F, ← g3]
/-! ### Beginnings -/
/-! ### Steady points -/
end Go.Rb
namespace Go.Rb
def zgN : Bk := ⟨0, 0, 0, []⟩
def mkB (l : List Pt) : Bk := ⟨l.length, (l.getD 0 default).1, (l.getD (l.length - 1) default).1, Yh l l.length⟩
def VH (l : List Pt) : Bk × Int := if ¬ (Jw l).2 = 0 then (zgN, (Jw l).2) else if l.length = 0 then (zgN, 4) else (⟨l.length, (l.getD 0 default).1, (l.getD (l.length - 1) default).1, (Jw l).1⟩, 0)
def ptsR (x : Bk) : List Pt × Int :=
 if ¬ (ZV x.2.2.2 x.1).2 = 0 then ([], (ZV x.2.2.2 x.1).2) else
 if (ZV x.2.2.2 x.1).1.length = 0 ∨ ¬ ((ZV x.2.2.2 x.1).1.getD 0 default).1 = x.2.1 ∨ ¬ ((ZV x.2.2.2 x.1).1.getD ((ZV x.2.2.2 x.1).1.length - 1) default).1 = x.2.2.1 then ([], 4) else ((ZV x.2.2.2 x.1).1, 0)
def YH (x y : Bk) : Bk × Int := if ¬ (ptsR x).2 = 0 then (zgN, (ptsR x).2) else if ¬ (ptsR y).2 = 0 then (zgN, (ptsR y).2) else VH ((ptsR x).1 ++ (ptsR y).1)
theorem z3u (x : Bk) : (ptsR x).1.length ≤ 40 := by
 have := z8h x.2.2.2 x.1
 unfold ptsR
 split
 ·simp
 ·split
  ·simp
  ·exact this
theorem zsX {l : List Pt} (h : l.length ≤ 40) : (mkB l).2.2.2.length ≤ 2560 := by
 have := zgL l l.length
 show (Yh l l.length).length ≤ 2560
 omega
theorem z6h {l : List Pt} (h : zZ l = 0) (h0 : 0 < l.length) : VH l = (mkB l, 0) ∧ ptsR (mkB l) = (l, 0) := by
 have hb := zjm h
 refine ⟨?_, ?_⟩
 ·unfold VH
  rw [hb.1, if_neg (by simp), if_neg (by omega)]; rfl
 ·have hu : ZV (mkB l).2.2.2 (mkB l).1 = (l, 0) := hb.2.1
  unfold ptsR
  rw [hu, if_neg (by simp), if_neg (not_or.2 ⟨by show ¬ l.length = 0; omega, not_or.2 ⟨fun h => h rfl, fun h => h rfl⟩⟩)]
theorem zrj {a b : List Pt} (ha : zZ a = 0) (hb : zZ b = 0) (ha0 : 0 < a.length) (hb0 : 0 < b.length) (h : zZ (a ++ b) = 0) : YH (mkB a) (mkB b) = (mkB (a ++ b), 0) := by
 unfold YH
 rw [(z6h ha ha0).2, (z6h hb hb0).2, if_neg (by simp), if_neg (by simp)]
 exact (z6h h (by rw [List.length_append]; omega)).1
end Go.Rb
namespace Go.Proofs.Y
open Go.Rb Go.Kx
theorem zcw {a : List Bool} (h : a.length ≤ 140737488355328) : z0Z a = some a := z1s 1 a (by omega) (by omega)
theorem zjn {a b : List Bool} (h : a.length < 4611686018427387904) : z68 a b = some (decide (a = b)) := z3Z eqB (fun x y => by cases x <;> cases y <;> rfl) a b h
theorem zie {n k : Int} (h0 : 0 ≤ n) (hk : 0 ≤ k ∧ k ≤ 40) : wshr .i64 n k = n / 2 ^ k.toNat := by
 unfold wshr
 rw [show min k.toNat IntKind.i64.bits = k.toNat from by show min k.toNat 64 = _; omega, zsN h0]
theorem zvi {n k : Int} (h0 : 0 ≤ n) (h1 : n ≤ 9223372036854775807) (hk : 0 ≤ k ∧ k ≤ 40) : eqI (wand .i64 (wshr .i64 n k) 1) 1 = z2u n k.toNat := by
 have h2 := zpR h0 k.toNat
 rw [zie h0 hk]
 unfold wand eqI z2u
 rw [zsM h2.1 (by omega)]
theorem zrk (l : List Bool) (n w : Int) (hl : l.length ≤ 140737488355200) (hn : n ≤ 9223372036854775807) : Js l n w = some (putR l n w) := by
 unfold Js putR
 rw [zi, zy, zi, zi, zj, zcw (by omega), z7]
 by_cases hw0 : w < 0
 ·rw [if_pos hw0, if_neg (by unfold zdJ; omega)]
 rw [if_neg hw0]
 by_cases hw1 : 40 < w
 ·rw [if_pos hw1, if_neg (by unfold zdJ; omega)]
 rw [if_neg hw1]
 by_cases hn0 : n < 0
 ·rw [if_pos hn0, if_neg (by unfold zdJ; omega)]
 rw [if_neg hn0, if_neg hw0, zie (by omega) ⟨by omega, by omega⟩]
 by_cases hs : n / 2 ^ w.toNat = 0
 ·rw [if_pos hs, if_pos ⟨by omega, by omega, by omega, (zmb (by omega)).1 hs⟩]
  have hws : wsub .i64 w 1 = w - 1 := ZU ⟨by omega, by omega⟩
  rw [hws]
  have key := yD (f := fun (x : Int × List Bool) => ifB (geI (Prod.fst x) 0) (ifB (ltI (Prod.fst x) 0) none (ifB (zh 1 (Prod.snd x) [eqI (wand IntKind.i64 (wshr IntKind.i64 n (Prod.fst x)) 1) 1])
    (some (Sum.inl (wsub IntKind.i64 (Prod.fst x) 1, cat (Prod.snd x) [eqI (wand IntKind.i64 (wshr IntKind.i64 n (Prod.fst x)) 1) 1]))) none)) (mapO Sum.inr (some (Prod.snd x, (0 : Int)))))
   (G := fun x => some (x.2 ++ (y9 w.toNat n).drop (w - 1 - x.1).toNat, 0)) (P := fun x => -1 ≤ x.1 ∧ x.1 ≤ w - 1 ∧ (x.2.length : Int) ≤ l.length + (w - 1 - x.1)) (μ := fun x => (x.1 + 1).toNat) ?_ maxR (w - 1, l) ⟨by show -1 ≤ w - 1; omega, by show w - 1 ≤ w - 1; omega, by show (l.length : Int) ≤ l.length + (w - 1 - (w - 1)); omega⟩ (by show (w - 1 + 1).toNat < maxR; unfold maxR; omega)
  ·rw [key]
   simp
  ·rintro ⟨k, acc⟩ ⟨h0, h1, h2⟩ K hk
   simp only at h0 h1 h2
   simp only [zB, zu, Z7, zd, Zx, zx, Z0, ZA, Zt, zi, Zy, zy, zP, zf, zj, zC, ZD, ZK, ZQ, zI, ZE, Zu, Zv, Zw, Zr, Za, zH, ZR, zz, Z2, Zc, Z3, Zz, ZS, Zs, z7, Z1, Zf, Zg, zb, ZL, zY, zU, Z6, ZT, Zi, zL, ZF, List.length_cons, List.length_nil]
   by_cases hk0 : 0 ≤ k
   ·rw [if_pos hk0, if_neg (by omega), if_pos ⟨by omega, by omega⟩, zvi (by omega) hn ⟨hk0, by omega⟩, ZU ⟨by omega, by omega⟩]
    rw [hk _ ⟨by show -1 ≤ k - 1; omega, by show k - 1 ≤ w - 1; omega, by show (((acc ++ [z2u n k.toNat]).length : Nat) : Int) ≤ l.length + (w - 1 - (k - 1)); rw [List.length_append, List.length_cons, List.length_nil]; omega⟩ (by show (k - 1 + 1).toNat < (k + 1).toNat; omega)]
    have hlt : (w - 1 - k).toNat < (y9 w.toNat n).length := by rw [Y2]; omega
    show some (acc ++ [z2u n k.toNat] ++ (y9 w.toNat n).drop (w - 1 - (k - 1)).toNat, (0 : Int)) = some (acc ++ (y9 w.toNat n).drop (w - 1 - k).toNat, 0)
    rw [V0 hlt, zr9 (by omega), show (w - 1 - (k - 1)).toNat = (w - 1 - k).toNat + 1 by omega, show w.toNat - 1 - (w - 1 - k).toNat = k.toNat by omega]
    simp
   ·rw [if_neg hk0, List.drop_of_length_le (by rw [Y2]; omega), List.append_nil]
 ·rw [if_neg hs, if_neg (by intro hc; exact hs ((zmb (by omega)).2 hc.2.2.2))]
theorem zul (l : List Bool) (w : Int) (hl : l.length ≤ 140737488355328) : z0A l w = some (zX l w) := by
 unfold z0A zX
 rw [zi, zy, zi, zI, zb]
 by_cases hw0 : w < 0
 ·rw [if_pos hw0, if_pos (by omega)]
 rw [if_neg hw0]
 by_cases hw1 : 40 < w
 ·rw [if_pos hw1, if_pos (by omega)]
 rw [if_neg hw1, if_neg (show ¬ (w < 0 ∨ w > 40) by omega)]
 by_cases hw2 : (l.length : Int) < w
 ·rw [if_pos hw2, if_pos hw2]
 rw [if_neg hw2, if_neg hw2, if_pos ⟨by omega, by omega⟩, zU]
 have hlen : (l.take w.toNat).length = w.toNat := by rw [List.length_take]; omega
 generalize l.take w.toNat = a at hlen
 show _ = some (a.foldl (fun n b => 2 * n + (if b then 1 else 0)) (0 : Int), (0 : Int))
 refine zQ a (fun j (s : Int) => (s, (j : Int))) (G := fun rest (s : Int) => some (rest.foldl (fun (n : Int) b => 2 * n + (if b then 1 else 0)) s, (0 : Int))) (P := fun j s => 0 ≤ s ∧ s < 2 ^ j) ?_ ?_ (s0 := 0) ⟨by omega, by decide⟩ (by omega)
 ·rintro j s hj ⟨h0, h1⟩ k hk
  have h2 := (zvW (k := j) (by omega)).2
  have h3 : (2 : Int) ^ (j + 1) = 2 ^ j * 2 := Int.pow_succ _ _
  simp only [zB, zu, Z7, zd, Zx, zx, Z0, ZA, Zt, zi, Zy, zy, zP, zf, zj, zC, ZD, ZK, ZQ, zI, ZE, Zu, Zv, Zw, Zr, Za, zH, ZR, zz, Z2, Zc, Z3, Zz, ZS, Zs, z7, Z1, Zf, Zg, zb, ZL, zY, zU, Z6, ZT, Zi, zL, ZF, za]
  rw [if_pos (by omega), zN hj, z7, zF (by omega), vr ⟨by omega, by omega⟩]
  rw [ZM ⟨by omega, by omega⟩, hk _ ⟨by omega, by omega⟩, hk _ ⟨by omega, by omega⟩, List.foldl_cons, z94]
  cases a.getD j default <;> simp [Int.mul_comm]
 ·rintro s ⟨h0, h1⟩ k
  simp only [zB, zu, Z7, zd, Zx, zx, Z0, ZA, Zt, zi, Zy, zy, zP, zf, zj, zC, ZD, ZK, ZQ, zI, ZE, Zu, Zv, Zw, Zr, Za, zH, ZR, zz, Z2, Zc, Z3, Zz, ZS, Zs, z7, Z1, Zf, Zg, zb, ZL, zY, zU, Z6, ZT, Zi, zL, ZF]
  rw [if_neg (by omega)]
  rfl
end Go.Proofs.Y
namespace Go.Proofs.Y
open Go.Rb Go.Kx
theorem zpY {n : Int} (h : 0 ≤ n) : wrem n 8 = n % 8 := by unfold wrem; exact Int.tmod_eq_emod_of_nonneg h
theorem ztL {n : Int} (h : 0 ≤ n) : wrem n 2 = n % 2 := by unfold wrem; exact Int.tmod_eq_emod_of_nonneg h
theorem ztM {n : Int} (h : 0 ≤ n) (h1 : n ≤ 9223372036854775807) : wquo .i64 n 8 = n / 8 := by
 unfold wquo; rw [Int.tdiv_eq_ediv_of_nonneg h]; exact z2t (by omega) (by omega)
theorem zum {v : Int} (h : -4000000 ≤ v ∧ v ≤ 4000000) : z2r v = some (ZG v) := by
 unfold z2r ZG
 rw [zi]
 split
 ·rw [vr ⟨by omega, by omega⟩, ZU ⟨by omega, by omega⟩]
 ·rw [vr ⟨by omega, by omega⟩]
theorem zoY : ∀ (f : Nat) (m : Int), 1 ≤ f → 0 ≤ m → m < 8 ^ f → zenc (f + 1) m = zenc f m
 | 0, m, h, _, _ => absurd h (by omega)
 | f + 1, m, _, h0, h1 => by
  by_cases h8 : m < 8
  ·rw [J3 (by omega) h8, J3 (by omega) h8]
  ·have h2 := z9b (f := f + 1) h1 (by omega)
   rw [z1t (f := f + 2) (by omega) (by omega), z1t (f := f + 1) (by omega) (by omega)]
   exact congrArg _ (zoY f (m / 8) (by omega) (by omega) h2.2)
theorem zoZ (l : List Bool) (v : Int) (hl : l.length ≤ 140737488355100) : z1r l v = some (z2v l v) := by
 unfold z1r z2v
 rw [zi, zy]
 by_cases h0 : v < -4000000
 ·rw [if_pos h0, if_pos (.inl h0)]
 rw [if_neg h0]
 by_cases h1 : 4000000 < v
 ·rw [if_pos h1, if_pos (.inr h1)]
 rw [if_neg h1, if_neg (show ¬ (v < -4000000 ∨ v > 4000000) by omega), zum ⟨by omega, by omega⟩, z7]
 have hf := z3p v
 refine yD (G := fun x => some (x.1 ++ zenc 8 x.2, (0 : Int))) (P := fun (x : List Bool × Int) => 0 ≤ x.2 ∧ ∃ f, 1 ≤ f ∧ f ≤ 8 ∧ x.2 < 8 ^ f ∧ x.1.length ≤ l.length + 4 * (8 - f)) (μ := fun x => x.2.toNat) ?_ maxR (l, ZG v) ⟨by show 0 ≤ ZG v; omega, 8, by omega, by omega, by show ZG v < 8 ^ 8; omega, by show l.length ≤ _; omega⟩ (by show (ZG v).toNat < maxR; unfold maxR; omega)
 rintro ⟨acc, n⟩ ⟨g0, f, g1, g2, g3, g4⟩ k hk
 simp only at g0 g3 g4
 have h8 := (pow8 g2).2
 simp only [zB, zu, Z7, zd, Zx, zx, Z0, ZA, Zt, zi, Zy, zy, zP, zf, zj, zC, ZD, ZK, ZQ, zI, ZE, Zu, Zv, Zw, Zr, Za, zH, ZR, zz, Z2, Zc, Z3, Zz, ZS, Zs, z7, Z1, Zf, Zg, zb, ZL, zY, zU, Z6, ZT, Zi, zL, ZF]
 rw [zpY g0, ZM ⟨by omega, by omega⟩, ZM ⟨by omega, by omega⟩, zrk _ _ _ (by omega) (by omega), zrk _ _ _ (by omega) (by omega), z7, z7, (putm g0).1, (putm g0).2, ztM g0 (by omega)]
 split
 ·rename_i hge
  have hd := z9b g3 hge
  rw [hk _ ⟨by show 0 ≤ n / 8; omega, f - 1, by omega, by omega, hd.2, by show (acc ++ y9 4 (8 + n % 8)).length ≤ _; rw [List.length_append, Y2]; omega⟩ (by show (n / 8).toNat < n.toNat; omega)]
  show some (acc ++ y9 4 (8 + n % 8) ++ zenc 8 (n / 8), (0 : Int)) = _
  rw [z1t (f := 8) (m := n) (by omega) hge, List.append_assoc]
  congr 4
  refine (zoY 7 (n / 8) (by omega) (by omega) ?_).trans rfl
  have : n < 8 ^ 8 := by have : (8 : Int) ^ 8 = 16777216 := by decide
                         omega
  show n / 8 < 8 ^ 7
  omega
 ·rename_i hlt
  show some (acc ++ y9 4 (0 + n % 8), (0 : Int)) = _
  rw [J3 (f := 8) (m := n) (by omega) (by omega)]
theorem zml (l : List Bool) (hl : l.length ≤ 140737488355328) : Jr l = some (zw l) := by
 unfold Jr zw
 refine yD (G := fun (x : Int × Int × Int) => some (ZY (8 - x.2.2.toNat) x.2.2.toNat x.1 x.2.1 (l.drop (4 * x.2.2.toNat)))) (P := fun (x : Int × Int × Int) => 0 ≤ x.2.2 ∧ x.2.2 ≤ 8 ∧ 0 ≤ x.1 ∧ x.1 ≤ 8000000 ∧ x.2.1 = 8 ^ x.2.2.toNat) (μ := fun x => 8 - x.2.2.toNat) ?_ maxR (0, 1, 0) ⟨by decide, by decide, by decide, by decide, by decide⟩ (by decide)
 rintro ⟨n, sc, kk⟩ ⟨g0, g1, g2, g3, g4⟩ K hk
 simp only at g0 g1 g2 g3 g4
 obtain ⟨k, rfl⟩ : ∃ k : Nat, kk = k := ⟨kk.toNat, by omega⟩
 rw [Int.toNat_natCast] at g4
 have hp := pow8 (k := k) (by omega)
 have hmin : minI (lenI l) (wmul .i64 4 (k : Int)) = min (l.length : Int) (4 * k) := by
  rw [vr ⟨by omega, by omega⟩]; rfl
 have hdrop : yF l (minI (lenI l) (wmul .i64 4 (k : Int))) = l.drop (4 * k) := by
  rw [hmin, Z6]
  by_cases h : (l.length : Int) ≤ 4 * k
  ·rw [List.drop_of_length_le (by omega), List.drop_of_length_le (by omega)]
  ·congr 1; omega
 have hin : in1 l (minI (lenI l) (wmul .i64 4 (k : Int))) = true := by
  rw [hmin, in1, ← Bool.decide_and]; exact decide_eq_true ⟨by omega, by omega⟩
 have hrd := zul (l.drop (4 * k)) 4 (by rw [List.length_drop]; omega)
 have h4 : wadd .i64 (wmul .i64 4 (k : Int)) 4 = 4 * (k : Int) + 4 := by rw [vr ⟨by omega, by omega⟩, ZM ⟨by omega, by omega⟩]
 simp only [hin, hdrop, hrd, h4, Z0, z7, Int.toNat_natCast]
 simp only [za, zd, zu, zx]
 rw [zi]
 by_cases h8 : (k : Int) < 8
 ·rw [if_pos h8]
  rcases rd4 (l.drop (4 * k)) with ⟨r1, r2, r3⟩ | ⟨r1, r2, r3, r4, r5⟩
  ·rw [zj, r3, if_neg (by decide), z9c (by omega) r1]
  ·rw [zj, r3, if_pos rfl]
   generalize hx : (zX (List.drop (4 * k) l) 4).fst = x at *
   have hm := zmd (a := x % 8) (b := sc) (c := 16777216) (by omega) (by omega) (by omega) (by omega)
   have hsc : sc ≤ 2097152 := by
    rw [g4]
    exact (by decide : ∀ k : Fin 8, (8 : Int) ^ k.val ≤ 2097152) ⟨k, by omega⟩
   rw [zpY r4, vr ⟨by omega, by omega⟩, ZM ⟨by omega, by omega⟩, vr (a := sc) (b := 8) ⟨by omega, by omega⟩, zF (by omega)]
   have hmm := zmd (a := x % 8) (b := sc) (c := 2097152) (by omega) (by omega) (by omega) hsc
   generalize hN : n + x % 8 * sc = N at *
   have hwa : wadd .i64 N 1 = N + 1 := ZM ⟨by omega, by omega⟩
   have hwn : wneg .i64 (N + 1) = 0 - (N + 1) := zia ⟨by omega, by omega⟩
   rw [hwa, hwn, ztL (by omega)]
   -- what is read
   have tail : ¬ (x = 0 ∧ 0 < k) → ifB (gtI N 8000000) (some (0, 0, 3)) (ifB (ltI x 8) (ifB (eqI (N % 2) 1) (some (wquo IntKind.i64 (0 - (N + 1)) 2, 4 * (k : Int) + 4, 0)) (some (wquo IntKind.i64 N 2, 4 * (k : Int) + 4, 0))) (K (N, sc * 8, ((k + 1 : Nat) : Int)))) =
     some (ZY (8 - k) k n sc (List.drop (4 * k) l)) := by
    intro hnf
    rw [zy]
    by_cases hr : 8000000 < N
    ·rw [if_pos hr, z6g (by omega) r1 (by rw [hx]; exact hnf) (by rw [hx, hN]; exact hr)]
    rw [if_neg hr, zi]
    by_cases hd : x < 8
    ·rw [if_pos hd, z3r (by omega) r1 (by rw [hx]; exact hnf) (by rw [hx, hN]; omega) (by rw [hx]; exact hd), hx, hN, zf]
     rcases z9a (n := N) (by omega) with ⟨u1, u2, u3⟩ | ⟨u1, u2, u3⟩
     ·rw [if_pos u1]
      unfold wquo
      rw [u3, z2t (by omega) (by omega)]
     ·rw [if_neg (by omega)]
      unfold wquo
      rw [u3, z2t (by omega) (by omega)]
    ·rw [if_neg hd, z5w (by omega) r1 (by rw [hx]; exact hnf) (by rw [hx, hN]; omega) (by rw [hx]; exact hd), hx, hN]
     rw [hk _ ⟨by show (0 : Int) ≤ ((k + 1 : Nat) : Int); omega, by show ((k + 1 : Nat) : Int) ≤ 8; omega, by show 0 ≤ N; omega, by show N ≤ 8000000; omega, by show sc * 8 = 8 ^ (((k + 1 : Nat) : Int)).toNat; rw [Int.toNat_natCast, g4, Int.pow_succ]⟩ (by show 8 - (((k + 1 : Nat) : Int)).toNat < 8 - ((k : Int)).toNat; omega)]
     simp only [Int.toNat_natCast, List.drop_drop]
     rfl
   rw [zf]
   by_cases h0 : x = 0
   ·rw [if_pos h0, zy]
    by_cases hk0 : (0 : Int) < k
    ·rw [if_pos hk0, z9d (by omega) r1 (by rw [hx]; exact h0) (by omega)]
    ·rw [if_neg hk0]; exact tail (by omega)
   ·rw [if_neg h0]; exact tail (by omega)
 ·rw [if_neg h8]
  have : k = 8 := by omega
  subst this
  rfl
end Go.Proofs.Y
namespace Go.Proofs.Y
open Go.Rb Go.Kx
theorem ju (a b c : Int) : zl a b c = some (decide (b ≤ a ∧ a ≤ c)) := by
 unfold zl
 rw [Zy]
 split
 ·simp [leI, *]
 ·simp [*]
theorem zp0 : ∀ (f : Nat) (m : Int), (dig f m).length ≤ f
 | 0, _ => by simp [dig]
 | f + 1, m => by
  rw [dig, List.length_cons]
  split
  ·have := zp0 f (m / 8); omega
  ·simp
theorem zpZ (l : List Bool) (D : List Int) (hl : l.length ≤ 140737488355100) (hD : D.length ≤ 8) : zk maxR (fun (x_1 : Int × List Bool) => ifB (ltI (Prod.fst x_1) (lenI D)) (ifB (ltL (Prod.fst x_1) D)
   (z6 (atN D (natI (Prod.fst x_1))) fun (y : Int) => ifB (zh 1 (Prod.snd x_1) [ltI (Prod.fst x_1) (wsub IntKind.i64 (lenI D) 1), geI y 4, geI (wrem y 4) 2, eqI (wrem y 2) 1])
    (some (Sum.inl (wadd IntKind.i64 (Prod.fst x_1) 1, cat (Prod.snd x_1) [ltI (Prod.fst x_1) (wsub IntKind.i64 (lenI D) 1), geI y 4, geI (wrem y 4) 2, eqI (wrem y 2) 1]))) none) none)
   (mapO Sum.inr (some (Prod.snd x_1, (0 : Int))))) (0, l) = some (l ++ YG D D.length, 0) := by
 refine zQ D (fun j (s : List Bool) => ((j : Int), s)) (G := fun _ _ => some (l ++ YG D D.length, (0 : Int))) (P := fun j s => s = l ++ YG D j) ?_ ?_ (s0 := l) (by simp [YG]) (by omega)
 ·rintro j s hj rfl k hk
  have hc := zpT D j
  simp only [zB, zu, Z7, zd, Zx, zx, Z0, ZA, Zt, zi, Zy, zy, zP, zf, zj, zC, ZD, ZK, ZQ, zI, ZE, Zu, Zv, Zw, Zr, Za, zH, ZR, zz, Z2, Zc, Z3, Zz, ZS, Zs, z7, Z1, Zf, Zg, zb, ZL, zY, zU, Z6, ZT, Zi, zL, ZF]
  rw [if_pos (by omega), if_pos ⟨by omega, by omega⟩, Int.toNat_natCast, yw hj, z7, zF (by omega), if_pos (by simp only [List.length_append, List.length_cons, List.length_nil, hc]; omega)]
  rw [hk _ ?_]
  rw [zeB, List.append_assoc]
  congr 2
  unfold grp wsub wrem ltI geI eqI
  rw [z2t (by omega) (by omega)]
 ·rintro s rfl k
  simp only [zB, zu, Z7, zd, Zx, zx, Z0, ZA, Zt, zi, Zy, zy, zP, zf, zj, zC, ZD, ZK, ZQ, zI, ZE, Zu, Zv, Zw, Zr, Za, zH, ZR, zz, Z2, Zc, Z3, Zz, ZS, Zs, z7, Z1, Zf, Zg, zb, ZL, zY, zU, Z6, ZT, Zi, zL, ZF]
  rw [if_neg (by omega)]
theorem zmm (l : List Bool) (v : Int) (hl : l.length ≤ 140737488355100) : Z4 l v = some (z2v l v) := by
 unfold Z4 z2v
 rw [ju, z7, zC, zO, zcw (by omega)]
 by_cases hv : -4000000 ≤ v ∧ v ≤ 4000000
 ·rw [if_pos hv, if_neg (by omega), ← zrc hv]
  have hf := z3p v
  have key : ∀ N0 : Int, 0 ≤ N0 → N0 < 16777216 → zk maxR (fun (x : Int × Bool × List Int) => ifB (Prod.fst (Prod.snd x)) (ifB (zh 8 (Prod.snd (Prod.snd x)) [wrem (Prod.fst x) 8])
     (some (Sum.inl (wquo IntKind.i64 (Prod.fst x) 8, false, cat (Prod.snd (Prod.snd x)) [wrem (Prod.fst x) 8]))) none)
    (ifB (gtI (Prod.fst x) 0) (ifB (zh 8 (Prod.snd (Prod.snd x)) [wrem (Prod.fst x) 8])
      (some (Sum.inl (wquo IntKind.i64 (Prod.fst x) 8, false, cat (Prod.snd (Prod.snd x)) [wrem (Prod.fst x) 8]))) none)
     (mapO Sum.inr (z6 (some l) fun (y : List Bool) => zk maxR (fun (x_1 : Int × List Bool) => ifB (ltI (Prod.fst x_1) (lenI (Prod.snd (Prod.snd x)))) (ifB (ltL (Prod.fst x_1) (Prod.snd (Prod.snd x)))
      (z6 (atN (Prod.snd (Prod.snd x)) (natI (Prod.fst x_1))) fun (y : Int) => ifB (zh 1 (Prod.snd x_1) [ltI (Prod.fst x_1) (wsub IntKind.i64 (lenI (Prod.snd (Prod.snd x))) 1), geI y 4, geI (wrem y 4) 2, eqI (wrem y 2) 1])
       (some (Sum.inl (wadd IntKind.i64 (Prod.fst x_1) 1, cat (Prod.snd x_1) [ltI (Prod.fst x_1) (wsub IntKind.i64 (lenI (Prod.snd (Prod.snd x))) 1), geI y 4, geI (wrem y 4) 2, eqI (wrem y 2) 1]))) none) none)
      (mapO Sum.inr (some (Prod.snd x_1, (0 : Int))))) (0, y))))) (N0, true, []) = some (l ++ YG (dig 8 N0) (dig 8 N0).length, 0) := by
   intro N0 hN0 hN1
   refine yD (G := fun _ => some (l ++ YG (dig 8 N0) (dig 8 N0).length, (0 : Int))) (P := fun (x : Int × Bool × List Int) => 0 ≤ x.1 ∧ x.1 < 16777216 ∧ ∃ f, 1 ≤ f ∧ f ≤ 8 ∧ x.1 < 8 ^ f ∧ x.2.2 ++ (if x.2.1 = true ∨ x.1 > 0 then dig f x.1 else []) = dig 8 N0) (μ := fun x => 2 * x.1.toNat + (if x.2.1 = true then 1 else 0)) ?_ maxR (N0, true, []) ⟨hN0, hN1, 8, by omega, by omega, hN1, by simp⟩ (by show 2 * N0.toNat + 1 < maxR; unfold maxR; omega)
   rintro ⟨n, fst, D⟩ ⟨g0, g1, f, g2, g3, g4, g5⟩ k hk
   simp only at g0 g1 g4 g5
   have hDl : D.length ≤ 8 := by
    have h1 := zp0 8 N0
    rw [← g5, List.length_append] at h1
    omega
   simp only [za, zd, zu, zB, zY, z7, zz]
   rw [zpY g0, ztM g0 (by omega), if_pos (by simp; omega)]
   have next : (fst = true ∨ n > 0) → k (n / 8, false, D ++ [n % 8]) = some (l ++ YG (dig 8 N0) (dig 8 N0).length, 0) := by
    intro hc
    rw [if_pos hc, zsR g2 g0] at g5
    refine hk _ ⟨by show 0 ≤ n / 8; omega, by show n / 8 < _; omega, ?_⟩ ?_
    ·by_cases h8 : 8 ≤ n
     ·have hd := z9b g4 h8
      refine ⟨f - 1, by omega, by omega, hd.2, ?_⟩
      show D ++ [n % 8] ++ (if false = true ∨ n / 8 > 0 then dig (f - 1) (n / 8) else []) = _
      rw [if_pos (by omega)] at g5
      rw [if_pos (.inr (by omega)), ← g5]; simp
     ·refine ⟨f, by omega, by omega, by show n / 8 < _; omega, ?_⟩
      show D ++ [n % 8] ++ (if false = true ∨ n / 8 > 0 then dig f (n / 8) else []) = _
      rw [if_neg (by omega)] at g5
      rw [if_neg (by simp; omega), ← g5]; simp
    ·show 2 * (n / 8).toNat + (if false = true then 1 else 0) < 2 * n.toNat + (if fst = true then 1 else 0)
     rcases hc with hc | hc
     ·rw [if_pos hc]; simp; omega
     ·simp; omega
   cases fst with
   | true => exact next (.inl rfl)
   | false =>
    rw [ZA, zy]
    by_cases hn : 0 < n
    ·rw [if_pos hn]; exact next (.inr hn)
    ·rw [if_neg hn]
     rw [if_neg (by simp; omega), List.append_nil] at g5
     show zk maxR _ (0, l) = _
     rw [← g5]
     have hc := zpZ l D hl hDl
     simp only [zY, zz] at hc
     exact hc
  rw [zi]
  split
  ·have e1 : wsub .i64 (wmul .i64 2 (wneg .i64 v)) 1 = ZG v := by
    rw [zia ⟨by omega, by omega⟩, vr ⟨by omega, by omega⟩, ZU ⟨by omega, by omega⟩]; omega
   rw [e1]; exact key (ZG v) (by omega) (by omega)
  ·have e1 : wmul .i64 2 v = ZG v := by rw [vr ⟨by omega, by omega⟩]; omega
   rw [e1]; exact key (ZG v) (by omega) (by omega)
 ·rw [if_neg hv, if_pos (by omega)]
theorem zgO (l : List Bool) (hl : l.length ≤ 140737488355328) : yH l = some (YS l) := by
 unfold yH YS zw
 refine (yD (G := fun (x : List Bool × Int × Int × Int) => some ((ZY (8 - x.2.2.2.toNat) x.2.2.2.toNat x.2.1 x.2.2.1 x.1).1, (if (ZY (8 - x.2.2.2.toNat) x.2.2.2.toNat x.2.1 x.2.2.1 x.1).2.2 = 0 then x.1.drop ((ZY (8 - x.2.2.2.toNat) x.2.2.2.toNat x.2.1 x.2.2.1 x.1).2.1 - 4 * x.2.2.2).toNat else []), (ZY (8 - x.2.2.2.toNat) x.2.2.2.toNat x.2.1 x.2.2.1 x.1).2.2))
  (P := fun (x : List Bool × Int × Int × Int) => 0 ≤ x.2.2.2 ∧ x.2.2.2 ≤ 8 ∧ 0 ≤ x.2.1 ∧ x.2.1 ≤ 8000000 ∧ x.2.2.1 = 8 ^ x.2.2.2.toNat ∧ x.1.length ≤ 140737488355328) (μ := fun x => 8 - x.2.2.2.toNat) ?_ maxR (l, 0, 1, 0) ⟨Int.le_refl 0, (by decide : (0 : Int) ≤ 8), Int.le_refl 0, (by decide : (0 : Int) ≤ 8000000), rfl, hl⟩ (by show 8 - Int.toNat 0 < maxR; unfold maxR; omega)).trans (by simp)
 rintro ⟨r, n, sc, kk⟩ ⟨g0, g1, g2, g3, g4, g5⟩ K hk
 simp only at g0 g1 g2 g3 g4 g5
 obtain ⟨k, rfl⟩ : ∃ k : Nat, kk = k := ⟨kk.toNat, by omega⟩
 rw [Int.toNat_natCast] at g4
 simp only [Int.toNat_natCast]
 rw [za, zd, zf]
 by_cases hk8 : (k : Int) = 8
 ·rw [if_pos hk8]
  have : k = 8 := by omega
  subst this
  rfl
 rw [if_neg hk8, za, zd, zi, zb]
 have hp := pow8 (k := k) (by omega)
 by_cases h4 : (r.length : Int) < 4
 ·rw [if_pos h4, z9c (by omega) (by omega)]; rfl
 rw [if_neg h4, za, zB, ZE, if_pos ⟨by omega, by omega, by omega⟩]
 have hsl : sliI r 1 4 = (r.take 4).drop 1 := rfl
 rw [hsl]
 have hbl : ((r.take 4).drop 1).length = 3 := by rw [List.length_drop, List.length_take]; omega
 have hgm := zrd (l := r) (by omega)
 have hgt := zuk (l := r) (by omega)
 have hgf := zuj (l := r) (by omega)
 have hd := zgK ((r.take 4).drop 1) 3
 have hsc : sc ≤ 2097152 := by
  rw [g4]
  exact (by decide : ∀ k : Fin 8, (8 : Int) ^ k.val ≤ 2097152) ⟨k, by omega⟩
 have hmm := zmd (a := dAt ((r.take 4).drop 1) 3) (b := sc) (c := 2097152) hd.1 hd.2 (by omega) hsc
 generalize hb : (r.take 4).drop 1 = b at *
 rw [zuh (fun j => (dAt b j, (j : Int))) 3 (x0 := (0, 0)) (by simp [dAt]) (by omega)]
 rotate_left
 ·intro j hj
  have hdj := zgK b j
  have hdj1 := zgK b (j + 1)
  have hnx := zsS (b := b) (i := j) hj
  have h3 : j = 0 ∨ j = 1 ∨ j = 2 := by omega
  have hshr : wshr .i64 4 (j : Int) = (4 : Int) / 2 ^ j := by rw [zie (by omega) ⟨by omega, by omega⟩, Int.toNat_natCast]
  have hq : 0 ≤ (4 : Int) / 2 ^ j ∧ (4 : Int) / 2 ^ j ≤ 4 := by rcases h3 with rfl | rfl | rfl <;> decide
  rw [zi, zb, if_pos (by omega), zN (by omega), z7, zi, if_neg (by omega), zF (by omega), hshr, ZM ⟨by omega, by omega⟩, z94]
  split
  ·rename_i hb1; rw [hnx, if_pos hb1]
  ·rename_i hb1; rw [hnx, if_neg hb1, Int.add_zero]
 show yJ (yJ (ifB (ltI ((3 : Nat) : Int) (lenI b)) _ (mapO Sum.inr _)) _) K = _
 rw [za, zd, zi, zb, if_neg (by omega)]
 simp only []
 generalize hdd : dAt b 3 = d at *
 have e1 : wmul .i64 d sc = d * sc := vr ⟨by omega, by omega⟩
 have e2 : wadd .i64 n (d * sc) = n + d * sc := ZM ⟨by omega, by omega⟩
 have e3 : wadd .i64 (k : Int) 1 = ((k + 1 : Nat) : Int) := zF (by omega)
 have e4 : wmul .i64 sc 8 = sc * 8 := vr ⟨by omega, by omega⟩
 have hat : atI r 0 = some (r.getD 0 default) := zN (l := r) (j := 0) (by omega)
 have hin : in1 r 4 = true := by rw [in1, ← Bool.decide_and]; exact decide_eq_true ⟨by omega, by omega⟩
 simp only [e1, e2, e3, e4, hat, hin, z7, Z0, Z6]
 generalize hN : n + d * sc = N at *
 have tail : ¬ ((zX r 4).1 = 0 ∧ 0 < k) → yJ (ifB (gtI N 8000000) (mapO Sum.inr (some ((0 : Int), ([] : List Bool), (3 : Int)))) (ifB (notB (r.getD 0 default))
   (mapO Sum.inr (ifB (eqI (wrem N 2) 0) (some (wquo IntKind.i64 N 2, r.drop (Int.toNat 4), 0)) (some (wneg IntKind.i64 (wadd IntKind.i64 (wquo IntKind.i64 N 2) 1), r.drop (Int.toNat 4), 0))))
   (some (Sum.inl (r.drop (Int.toNat 4), N, sc * 8, ((k + 1 : Nat) : Int)))))) K =
   some ((ZY (8 - k) k n sc r).1, (if (ZY (8 - k) k n sc r).2.2 = 0 then r.drop ((ZY (8 - k) k n sc r).2.1 - 4 * (k : Int)).toNat else []), (ZY (8 - k) k n sc r).2.2) := by
  intro hnf
  rw [za, zd, zy]
  by_cases hr : 8000000 < N
  ·rw [if_pos hr, z6g (by omega) (by omega) hnf (by rw [hgm, hN]; exact hr)]; rfl
  rw [if_neg hr, za, zd, zu, zC]
  cases hr0 : r.getD 0 default with
  | false =>
   have hx := hgf hr0
   rw [ZA, z3r (by omega) (by omega) hnf (by rw [hgm, hN]; omega) (by rw [hx]; omega), hgm, hN, ztL (by omega), zf]
   have hdr : (4 * (k : Int) + 4 - 4 * (k : Int)).toNat = Int.toNat 4 := by omega
   simp only [if_true, hdr]
   rcases z9a (n := N) (by omega) with ⟨u1, u2, u3⟩ | ⟨u1, u2, u3⟩
   ·rw [if_neg (by omega), u2]
    have hq : wquo .i64 N 2 = N / 2 := by unfold wquo; rw [Int.tdiv_eq_ediv_of_nonneg (by omega)]; exact z2t (by omega) (by omega)
    rw [hq, ZM ⟨by omega, by omega⟩, zia ⟨by omega, by omega⟩]
    congr 2; omega
   ·rw [if_pos u1]
    have hq : wquo .i64 N 2 = N / 2 := by unfold wquo; rw [Int.tdiv_eq_ediv_of_nonneg (by omega)]; exact z2t (by omega) (by omega)
    rw [hq, u2]
  | true =>
   have hx := hgt hr0
   rw [Z0, z5w (by omega) (by omega) hnf (by rw [hgm, hN]; omega) (by rw [hx]; omega), hgm, hN]
   have hlen : (r.drop (Int.toNat 4)).length ≤ 140737488355328 := by rw [List.length_drop]; omega
   rw [hk _ ⟨by show (0 : Int) ≤ ((k + 1 : Nat) : Int); omega, by show ((k + 1 : Nat) : Int) ≤ 8; omega, by show 0 ≤ N; omega, by show N ≤ 8000000; omega, by show sc * 8 = 8 ^ (((k + 1 : Nat) : Int)).toNat; rw [Int.toNat_natCast, g4, Int.pow_succ], hlen⟩ (by show 8 - (((k + 1 : Nat) : Int)).toNat < 8 - ((k : Int)).toNat; omega)]
   simp only [Int.toNat_natCast]
   rw [show 8 - (k + 1) = 8 - k - 1 by omega]
   have hz := zfo (8 - k - 1) (k + 1) N (sc * 8) (r.drop 4)
   have h44 : Int.toNat 4 = 4 := rfl
   rw [h44]
   generalize ZY (8 - k - 1) (k + 1) N (sc * 8) (r.drop 4) = z at *
   congr 3
   by_cases hz0 : z.2.2 = 0
   ·rw [if_pos hz0, if_pos hz0, List.drop_drop]
    congr 1
    have := hz hz0
    omega
   ·rw [if_neg hz0, if_neg hz0]
 rw [za, zy]
 by_cases hk0 : (0 : Int) < k
 ·rw [if_pos hk0, za, zf]
  by_cases hd0 : d = 0
  ·rw [if_pos hd0, za, zd, zC]
   cases hr0 : r.getD 0 default with
   | false =>
    have hx := hgf hr0
    rw [ZA, z9d (by omega) (by omega) (by omega) (by omega)]; rfl
   | true =>
    have hx := hgt hr0
    rw [Z0, ← hr0]
    exact tail (by omega)
  ·rw [if_neg hd0]
   refine tail ?_
   cases hr0 : r.getD 0 default with
   | false => have hx := hgf hr0; omega
   | true => have hx := hgt hr0; omega
 ·rw [if_neg hk0]
  exact tail (by omega)
end Go.Proofs.Y
