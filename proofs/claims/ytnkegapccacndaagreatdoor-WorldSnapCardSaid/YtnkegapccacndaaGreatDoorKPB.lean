/-
  What is proved, part by part: what shelf.Merge comes to. what shelf.Drop$1 comes to. what slices.IndexFunc[[]api.Block,api.Block] comes to. what slices.DeleteFunc[[]api.Block,api.Block] comes to. what shelf.Drop comes to. what store.Next comes to. what shelf.New comes to. what store.Replay comes to. What is stated: the program's data as plain Lean types. how loops run; plain operations in plain words. records and what is asked of them, as a plain function. slices cloned, held against each other, put together: in plain words, for elements of any kind. a record checked by the program. what slices.Equal[[]api.Point,api.Point] comes to. what slices.Equal[[]bool,bool] comes to. what block.Same comes to. what rainbookref.SameBlock comes to. what slices.EqualFunc[[]api.Block,[]api.Block,api.Block,api.Block] comes to. what shelf.Same$1 comes to. what rainbookref.SameShelf$1 comes to. what slices.EqualFunc[[]api.Row,[]api.Row,api.Row,api.Row] comes to. what rainbookref.SameShelf comes to. what shelf.Same comes to. what rainbooklaw.at comes to. what shelf.All comes to. what query.Range$1 comes to. what slices.IndexFunc[[]api.Point,api.Point] comes to. what slices.DeleteFunc[[]api.Point,api.Point] comes to. what query.Range comes to. what rainbookref.Ranged comes to. numbers as bits, as plain functions. numbers as bits, further plain facts. numbers as bits: what is put is taken. small numbers in groups of four bits, as plain functions. what is put in groups of four bits is taken, and no two ways write one number. when points rise, as a plain function. points in bits, as plain functions. points that are packed are unpacked, just so many; what is unpacked is packed as it was; beginnings; steady points. blocks, as plain functions; of two merged both are there. numbers as bits: what the program's functions come to, in plain words. numbers either way as bits: what the program's functions come to, in plain words. numbers either way as bits: what the document's functions come to, in plain words. Conditions: none.
-/
import Derived.Test.YtnkegapccacndaaGreatDoorKPA
import Derived.Test.YtnkegapccacndaaGreatDoorKED
set_option linter.unusedVariables false
set_option linter.unusedSimpArgs false
set_option linter.unnecessarySimpa false
set_option maxRecDepth 4000
namespace Go.Proofs.Y
open Go.Rb Go.Kx
noncomputable def C_shelf_Merge : Code := bodyOf Tryz.f82
noncomputable def G_shelf_Merge : FuncId → Option GS := tabG [(78, R_shelf_Check), (107, I_shelf_Copy), (115, R_block_Merge), (116, R_deleteB)]
theorem g_shelf_Merge : ΓOK Tryz.prog G_shelf_Merge := ΓOK_cons (R_shelf_Check_ok) (ΓOK_cons (I_shelf_Copy_ok) (ΓOK_cons (R_block_Merge_ok) (ΓOK_cons (R_deleteB_ok) (ΓOK_nil))))
def H_shelf_Merge : HT := ⟨tabL [], tabH [(15, [.frzq 3 0 0, .frzq 3 0 1, .frzq 3 0 2, .frzq 3 0 3, .frzq 3 0 4, .frzq 3 0 5, .frzq 3 0 6, .frzq 3 0 7, .pack 3 0 (.cons (.sl 126 (.cons (.int .i64) (.cons (.int .i64) (.cons (.int .i64) (.one (.sl 4 (.one .bool))))))) (.one (.sl 73 (.cons (.int .i64) (.one (.int .i64))))))])]⟩
abbrev is_shelf_Merge : List IT := [.v (.one (.sl 95 (.cons (.sl 126 (.cons (.int .i64) (.cons (.int .i64) (.cons (.int .i64) (.one (.sl 4 (.one .bool))))))) (.one (.sl 73 (.cons (.int .i64) (.one (.int .i64)))))))) true, .v (.one (.int .i64)) false, .v (.one (.int .i64)) false]
abbrev os_shelf_Merge : List OT := [⟨.one (.sl 95 (.cons (.sl 126 (.cons (.int .i64) (.cons (.int .i64) (.cons (.int .i64) (.one (.sl 4 (.one .bool))))))) (.one (.sl 73 (.cons (.int .i64) (.one (.int .i64))))))), true, []⟩, ⟨.one (.int .i64), false, []⟩]
set_option maxRecDepth 100000
noncomputable def F_shelf_Merge : List (List (Int × Int × Int × List Bool) × List (Int × Int)) → Int → Int → Option (List (List (Int × Int × Int × List Bool) × List (Int × Int)) × Int) := fun (a : List (List (Int × Int × Int × List Bool) × List (Int × Int))) (b c : Int) => bindO (F_shelf_Check a) fun (y : Int) => ifB (neI y 0) (some ([], y)) (ifB (ltI b 0) (some ([], 5)) (ifB (geI b (lenI a)) (some ([], 5)) (bindO (F_cloneRw a) fun (y : List (List (Int × Int × Int × List Bool) × List (Int × Int))) => bindO (four y) fun (y : (List (Int × Int × Int × List Bool) × List (Int × Int)) × (List (Int × Int × Int × List Bool) × List (Int × Int)) × (List (Int × Int × Int × List Bool) × List (Int × Int)) × List (Int × Int × Int × List Bool) × List (Int × Int)) => bindO (F_cloneBk y.1.1) fun (y_1 : List (Int × Int × Int × List Bool)) => bindO (F_cloneP y.1.2) fun (y_2 : List (Int × Int)) => loopN maxR (fun (x : Int × List (Int × Int × Int × List Bool)) => ifB (ltI x.1 (lenI y.1.1)) (bindO (atI y.1.1 x.1) fun (y : Int × Int × Int × List Bool) => bindO (F_block_Copy (y.1, y.2.1, y.2.2.1, y.2.2.2)) fun (y : Int × Int × Int × List Bool) => ifB (ltL x.1 x.2) (bindO (atN x.2 (natI x.1)) fun (y_3 : Int × Int × Int × List Bool) => some (Sum.inl (wadd .i64 x.1 1, setN x.2 (natI x.1) (y.1, y.2.1, y.2.2.1, y.2.2.2)))) none) (mapO Sum.inr (bindO (F_cloneBk y.2.1.1) fun (y_3 : List (Int × Int × Int × List Bool)) => bindO (F_cloneP y.2.1.2) fun (y_4 : List (Int × Int)) => loopN maxR (fun (x_1 : Int × List (Int × Int × Int × List Bool)) => ifB (ltI x_1.1 (lenI y.2.1.1)) (bindO (atI y.2.1.1 x_1.1) fun (y : Int × Int × Int × List Bool) => bindO (F_block_Copy (y.1, y.2.1, y.2.2.1, y.2.2.2)) fun (y : Int × Int × Int × List Bool) => ifB (ltL x_1.1 x_1.2) (bindO (atN x_1.2 (natI x_1.1)) fun (y_5 : Int × Int × Int × List Bool) => some (Sum.inl (wadd .i64 x_1.1 1, setN x_1.2 (natI x_1.1) (y.1, y.2.1, y.2.2.1, y.2.2.2)))) none) (mapO Sum.inr (bindO (F_cloneBk y.2.2.1.1) fun (y_5 : List (Int × Int × Int × List Bool)) => bindO (F_cloneP y.2.2.1.2) fun (y_6 : List (Int × Int)) => loopN maxR (fun (x_2 : Int × List (Int × Int × Int × List Bool)) => ifB (ltI x_2.1 (lenI y.2.2.1.1)) (bindO (atI y.2.2.1.1 x_2.1) fun (y : Int × Int × Int × List Bool) => bindO (F_block_Copy (y.1, y.2.1, y.2.2.1, y.2.2.2)) fun (y : Int × Int × Int × List Bool) => ifB (ltL x_2.1 x_2.2) (bindO (atN x_2.2 (natI x_2.1)) fun (y_7 : Int × Int × Int × List Bool) => some (Sum.inl (wadd .i64 x_2.1 1, setN x_2.2 (natI x_2.1) (y.1, y.2.1, y.2.2.1, y.2.2.2)))) none) (mapO Sum.inr (bindO (F_cloneBk y.2.2.2.1) fun (y_7 : List (Int × Int × Int × List Bool)) => bindO (F_cloneP y.2.2.2.2) fun (y_8 : List (Int × Int)) => loopN maxR (fun (x_3 : Int × List (Int × Int × Int × List Bool)) => ifB (ltI x_3.1 (lenI y.2.2.2.1)) (bindO (atI y.2.2.2.1 x_3.1) fun (y : Int × Int × Int × List Bool) => bindO (F_block_Copy (y.1, y.2.1, y.2.2.1, y.2.2.2)) fun (y : Int × Int × Int × List Bool) => ifB (ltL x_3.1 x_3.2) (bindO (atN x_3.2 (natI x_3.1)) fun (y_9 : Int × Int × Int × List Bool) => some (Sum.inl (wadd .i64 x_3.1 1, setN x_3.2 (natI x_3.1) (y.1, y.2.1, y.2.2.1, y.2.2.2)))) none) (mapO Sum.inr (ifB (eqI b 0) (ifB (ltI c 0) (some ([], 3)) (ifB (geI c (wsub .i64 (lenI x.2) 1)) (some ([], 3)) (ifB (ltL c x.2) (bindO (atN x.2 (natI c)) fun (y : Int × Int × Int × List Bool) => ifB (ltL (wadd .i64 c 1) x.2) (bindO (atN x.2 (natI (wadd .i64 c 1))) fun (y_9 : Int × Int × Int × List Bool) => bindO (F_block_Merge (y.1, y.2.1, y.2.2.1, y.2.2.2) (y_9.1, y_9.2.1, y_9.2.2.1, y_9.2.2.2)) fun (y : (Int × Int × Int × List Bool) × Int) => ifB (neI y.2 0) (some ([], y.2)) (ifB (ltL c x.2) (bindO (atN x.2 (natI c)) fun (y_10 : Int × Int × Int × List Bool) => bindO (F_deleteB (setN x.2 (natI c) (y.1.1, y.1.2.1, y.1.2.2.1, y.1.2.2.2)) (wadd .i64 c 1) (wadd .i64 c 2)) fun (y : List (Int × Int × Int × List Bool)) => some ([(y, y_2), (x_1.2, y_4), (x_2.2, y_6), (x_3.2, y_8)], 0)) none)) none) none))) (ifB (eqI b 1) (ifB (ltI c 0) (some ([], 3)) (ifB (geI c (wsub .i64 (lenI x_1.2) 1)) (some ([], 3)) (ifB (ltL c x_1.2) (bindO (atN x_1.2 (natI c)) fun (y : Int × Int × Int × List Bool) => ifB (ltL (wadd .i64 c 1) x_1.2) (bindO (atN x_1.2 (natI (wadd .i64 c 1))) fun (y_9 : Int × Int × Int × List Bool) => bindO (F_block_Merge (y.1, y.2.1, y.2.2.1, y.2.2.2) (y_9.1, y_9.2.1, y_9.2.2.1, y_9.2.2.2)) fun (y : (Int × Int × Int × List Bool) × Int) => ifB (neI y.2 0) (some ([], y.2)) (ifB (ltL c x_1.2) (bindO (atN x_1.2 (natI c)) fun (y_10 : Int × Int × Int × List Bool) => bindO (F_deleteB (setN x_1.2 (natI c) (y.1.1, y.1.2.1, y.1.2.2.1, y.1.2.2.2)) (wadd .i64 c 1) (wadd .i64 c 2)) fun (y : List (Int × Int × Int × List Bool)) => some ([(x.2, y_2), (y, y_4), (x_2.2, y_6), (x_3.2, y_8)], 0)) none)) none) none))) (ifB (eqI b 2) (ifB (ltI c 0) (some ([], 3)) (ifB (geI c (wsub .i64 (lenI x_2.2) 1)) (some ([], 3)) (ifB (ltL c x_2.2) (bindO (atN x_2.2 (natI c)) fun (y : Int × Int × Int × List Bool) => ifB (ltL (wadd .i64 c 1) x_2.2) (bindO (atN x_2.2 (natI (wadd .i64 c 1))) fun (y_9 : Int × Int × Int × List Bool) => bindO (F_block_Merge (y.1, y.2.1, y.2.2.1, y.2.2.2) (y_9.1, y_9.2.1, y_9.2.2.1, y_9.2.2.2)) fun (y : (Int × Int × Int × List Bool) × Int) => ifB (neI y.2 0) (some ([], y.2)) (ifB (ltL c x_2.2) (bindO (atN x_2.2 (natI c)) fun (y_10 : Int × Int × Int × List Bool) => bindO (F_deleteB (setN x_2.2 (natI c) (y.1.1, y.1.2.1, y.1.2.2.1, y.1.2.2.2)) (wadd .i64 c 1) (wadd .i64 c 2)) fun (y : List (Int × Int × Int × List Bool)) => some ([(x.2, y_2), (x_1.2, y_4), (y, y_6), (x_3.2, y_8)], 0)) none)) none) none))) (ifB (eqI b 3) (ifB (ltI c 0) (some ([], 3)) (ifB (geI c (wsub .i64 (lenI x_3.2) 1)) (some ([], 3)) (ifB (ltL c x_3.2) (bindO (atN x_3.2 (natI c)) fun (y : Int × Int × Int × List Bool) => ifB (ltL (wadd .i64 c 1) x_3.2) (bindO (atN x_3.2 (natI (wadd .i64 c 1))) fun (y_9 : Int × Int × Int × List Bool) => bindO (F_block_Merge (y.1, y.2.1, y.2.2.1, y.2.2.2) (y_9.1, y_9.2.1, y_9.2.2.1, y_9.2.2.2)) fun (y : (Int × Int × Int × List Bool) × Int) => ifB (neI y.2 0) (some ([], y.2)) (ifB (ltL c x_3.2) (bindO (atN x_3.2 (natI c)) fun (y_10 : Int × Int × Int × List Bool) => bindO (F_deleteB (setN x_3.2 (natI c) (y.1.1, y.1.2.1, y.1.2.2.1, y.1.2.2.2)) (wadd .i64 c 1) (wadd .i64 c 2)) fun (y : List (Int × Int × Int × List Bool)) => some ([(x.2, y_2), (x_1.2, y_4), (x_2.2, y_6), (y, y_8)], 0)) none)) none) none))) none)))))) (0, y_7)))) (0, y_5)))) (0, y_3)))) (0, y_1))))
theorem F_shelf_Merge_eq (x : PI is_shelf_Merge) : F_shelf_Merge (x.1) (x.2.1) (x.2.2) = fnE T G_shelf_Merge H_shelf_Merge C_shelf_Merge (resOf Tryz.f82) is_shelf_Merge os_shelf_Merge x := by kernel_rfl
noncomputable abbrev R_shelf_Merge : GS := mkSpec false is_shelf_Merge os_shelf_Merge fun x => F_shelf_Merge (x.1) (x.2.1) (x.2.2)
theorem R_shelf_Merge_ok : GSOK Tryz.prog 82 R_shelf_Merge := spec_ok tok g_shelf_Merge fmo (Ht := H_shelf_Merge) (fn := Tryz.f82) (Tryz.func82) (c := C_shelf_Merge) (by kernel_rfl) (by kernel_rfl) (by kernel_rfl) (by decide +kernel) (by decide) F_shelf_Merge_eq
end Go.Proofs.Y
namespace Go.Proofs.Y
open Go.Rb Go.Kx
noncomputable def C_shelf_Drop_1 : Code := bodyOf Tryz.f118
noncomputable def G_shelf_Drop_1 : FuncId → Option GS := tabG []
theorem g_shelf_Drop_1 : ΓOK Tryz.prog G_shelf_Drop_1 := ΓOK_nil
def H_shelf_Drop_1 : HT := ⟨tabL [], tabH []⟩
noncomputable def I_shelf_Drop_1 : GS := inl T G_shelf_Drop_1 H_shelf_Drop_1 C_shelf_Drop_1 (resOf Tryz.f118) (Tryz.f118.ntmps)
theorem I_shelf_Drop_1_ok : GSOK Tryz.prog 118 I_shelf_Drop_1 := inl_ok tok g_shelf_Drop_1 fmo (Ht := H_shelf_Drop_1) (fn := Tryz.f118) (Tryz.func118) (c := C_shelf_Drop_1) (by kernel_rfl) (by kernel_rfl) (by kernel_rfl)
end Go.Proofs.Y
namespace Go.Proofs.Y
open Go.Rb Go.Kx
noncomputable def C_indexFuncB : Code := bodyOf Tryz.f147
noncomputable def G_indexFuncB : FuncId → Option GS := tabG [(118, I_shelf_Drop_1)]
theorem g_indexFuncB : ΓOK Tryz.prog G_indexFuncB := ΓOK_cons (I_shelf_Drop_1_ok) (ΓOK_nil)
def H_indexFuncB : HT := ⟨tabL [(2, .it [] (dyn [.t 8 (.int .i64)]))], tabH []⟩
noncomputable def I_indexFuncB : GS := inl T G_indexFuncB H_indexFuncB C_indexFuncB (resOf Tryz.f147) (Tryz.f147.ntmps)
theorem I_indexFuncB_ok : GSOK Tryz.prog 147 I_indexFuncB := inl_ok tok g_indexFuncB fmo (Ht := H_indexFuncB) (fn := Tryz.f147) (Tryz.func147) (c := C_indexFuncB) (by kernel_rfl) (by kernel_rfl) (by kernel_rfl)
end Go.Proofs.Y
namespace Go.Proofs.Y
open Go.Rb Go.Kx
noncomputable def C_deleteFuncB : Code := bodyOf Tryz.f117
noncomputable def G_deleteFuncB : FuncId → Option GS := tabG [(147, I_indexFuncB), (118, I_shelf_Drop_1)]
theorem g_deleteFuncB : ΓOK Tryz.prog G_deleteFuncB := ΓOK_cons (I_indexFuncB_ok) (ΓOK_cons (I_shelf_Drop_1_ok) (ΓOK_nil))
def H_deleteFuncB : HT := ⟨tabL [(5, .it [] (dyn [.t 5 (.int .i64), .t 6 (.int .i64), .a 0 126 (.cons (.int .i64) (.cons (.int .i64) (.cons (.int .i64) (.one (.sl 4 (.one .bool))))))]))], tabH [(5, [.touch 0])]⟩
abbrev ws_deleteFuncB : List WA := [.f 118 (.one (.int .i64))]
abbrev os_deleteFuncB : List OT := [⟨.one (.sl 126 (.cons (.int .i64) (.cons (.int .i64) (.cons (.int .i64) (.one (.sl 4 (.one .bool))))))), false, []⟩]
set_option maxRecDepth 100000
noncomputable def F_deleteFuncB : List (Int × Int × Int × List Bool) → Int → Option (List (Int × Int × Int × List Bool)) := fun (a : List (Int × Int × Int × List Bool)) (b : Int) => loopN maxR (fun (x : Int) => ifB (ltI x (lenI a)) (ifB (ltL x a) (bindO (atN a (natI x)) fun (y : Int × Int × Int × List Bool) => ifB (ltI y.2.2.1 b) (mapO Sum.inr (ifB (eqI x (-1)) (some a) (loopN maxR (fun (x : Int × Int × List (Int × Int × Int × List Bool)) => ifB (ltI x.2.1 (lenI x.2.2)) (ifB (ltL x.2.1 x.2.2) (bindO (atN x.2.2 (natI x.2.1)) fun (y : Int × Int × Int × List Bool) => ifB (notB (ltI y.2.2.1 b)) (ifB (ltL x.1 x.2.2) (bindO (atN x.2.2 (natI x.1)) fun (y_1 : Int × Int × Int × List Bool) => some (Sum.inl (wadd .i64 x.1 1, wadd .i64 x.2.1 1, setN x.2.2 (natI x.1) (y.1, y.2.1, y.2.2.1, y.2.2.2)))) none) (some (Sum.inl (x.1, wadd .i64 x.2.1 1, x.2.2)))) none) (mapO Sum.inr (ifB (in1 x.2.2 x.1) (ifB (inN x.2.2 (addN 0 (natI x.1)) (subNI (lenN x.2.2) x.1)) (ifB (in1 (overN x.2.2 (addN 0 (natI x.1)) (repN (subNI (lenN x.2.2) x.1) (0, 0, 0, []))) x.1) (ifB (inN (overN x.2.2 (addN 0 (natI x.1)) (repN (subNI (lenN x.2.2) x.1) (0, 0, 0, []))) 0 (natI x.1)) (some (subN (overN x.2.2 (addN 0 (natI x.1)) (repN (subNI (lenN x.2.2) x.1) (0, 0, 0, []))) 0 (natI x.1))) none) none) none) none))) (x, wadd .i64 x 1, a)))) (some (Sum.inl (wadd .i64 x 1)))) none) (mapO Sum.inr (some a))) 0
theorem F_deleteFuncB_eq (rows : List (DenR (.cons (.int .i64) (.cons (.int .i64) (.cons (.int .i64) (.one (.sl 4 (.one .bool)))))))) (x : PW ws_deleteFuncB) : F_deleteFuncB rows (x.1) = fnM T G_deleteFuncB H_deleteFuncB C_deleteFuncB (resOf Tryz.f117) 126 (.cons (.int .i64) (.cons (.int .i64) (.cons (.int .i64) (.one (.sl 4 (.one .bool)))))) ws_deleteFuncB os_deleteFuncB rows x := by kernel_rfl
noncomputable abbrev R_deleteFuncB : GS := mkMove 126 (.cons (.int .i64) (.cons (.int .i64) (.cons (.int .i64) (.one (.sl 4 (.one .bool)))))) ws_deleteFuncB os_deleteFuncB fun rows x => F_deleteFuncB rows (x.1)
theorem R_deleteFuncB_ok : GSOK Tryz.prog 117 R_deleteFuncB := move_ok tok g_deleteFuncB fmo (Ht := H_deleteFuncB) (fn := Tryz.f117) (Tryz.func117) (c := C_deleteFuncB) (by kernel_rfl) (by kernel_rfl) (by kernel_rfl) (by decide +kernel) (by decide) F_deleteFuncB_eq
end Go.Proofs.Y
namespace Go.Proofs.Y
open Go.Rb Go.Kx
noncomputable def C_shelf_Drop : Code := bodyOf Tryz.f83
noncomputable def G_shelf_Drop : FuncId → Option GS := tabG [(78, R_shelf_Check), (107, I_shelf_Copy), (118, I_shelf_Drop_1), (117, R_deleteFuncB)]
theorem g_shelf_Drop : ΓOK Tryz.prog G_shelf_Drop := ΓOK_cons (R_shelf_Check_ok) (ΓOK_cons (I_shelf_Copy_ok) (ΓOK_cons (I_shelf_Drop_1_ok) (ΓOK_cons (R_deleteFuncB_ok) (ΓOK_nil))))
def H_shelf_Drop : HT := ⟨tabL [(8, .unroll 5)], tabH [(7, [.frzb 3 (.one (.int .i64))]), (12, [.frzq 2 0 0, .frzq 2 0 1, .frzq 2 0 2, .frzq 2 0 3, .frzq 2 0 4, .frzq 2 0 5, .frzq 2 0 6, .frzq 2 0 7, .pack 2 0 (.cons (.sl 126 (.cons (.int .i64) (.cons (.int .i64) (.cons (.int .i64) (.one (.sl 4 (.one .bool))))))) (.one (.sl 73 (.cons (.int .i64) (.one (.int .i64))))))])]⟩
abbrev is_shelf_Drop : List IT := [.v (.one (.sl 95 (.cons (.sl 126 (.cons (.int .i64) (.cons (.int .i64) (.cons (.int .i64) (.one (.sl 4 (.one .bool))))))) (.one (.sl 73 (.cons (.int .i64) (.one (.int .i64)))))))) true, .v (.one (.int .i64)) false]
abbrev os_shelf_Drop : List OT := [⟨.one (.sl 95 (.cons (.sl 126 (.cons (.int .i64) (.cons (.int .i64) (.cons (.int .i64) (.one (.sl 4 (.one .bool))))))) (.one (.sl 73 (.cons (.int .i64) (.one (.int .i64))))))), true, []⟩, ⟨.one (.int .i64), false, []⟩]
set_option maxRecDepth 100000
noncomputable def F_shelf_Drop : List (List (Int × Int × Int × List Bool) × List (Int × Int)) → Int → Option (List (List (Int × Int × Int × List Bool) × List (Int × Int)) × Int) := fun (a : List (List (Int × Int × Int × List Bool) × List (Int × Int))) (b : Int) => bindO (F_shelf_Check a) fun (y : Int) => ifB (neI y 0) (some ([], y)) (ifB (ltI b 0) (some ([], 3)) (ifB (gtI b 100001) (some ([], 3)) (bindO (F_cloneRw a) fun (y : List (List (Int × Int × Int × List Bool) × List (Int × Int))) => bindO (four y) fun (y : (List (Int × Int × Int × List Bool) × List (Int × Int)) × (List (Int × Int × Int × List Bool) × List (Int × Int)) × (List (Int × Int × Int × List Bool) × List (Int × Int)) × List (Int × Int × Int × List Bool) × List (Int × Int)) => bindO (F_cloneBk y.1.1) fun (y_1 : List (Int × Int × Int × List Bool)) => bindO (F_cloneP y.1.2) fun (y_2 : List (Int × Int)) => loopN maxR (fun (x : Int × List (Int × Int × Int × List Bool)) => ifB (ltI x.1 (lenI y.1.1)) (bindO (atI y.1.1 x.1) fun (y : Int × Int × Int × List Bool) => bindO (F_block_Copy (y.1, y.2.1, y.2.2.1, y.2.2.2)) fun (y : Int × Int × Int × List Bool) => ifB (ltL x.1 x.2) (bindO (atN x.2 (natI x.1)) fun (y_3 : Int × Int × Int × List Bool) => some (Sum.inl (wadd .i64 x.1 1, setN x.2 (natI x.1) (y.1, y.2.1, y.2.2.1, y.2.2.2)))) none) (mapO Sum.inr (bindO (F_cloneBk y.2.1.1) fun (y_3 : List (Int × Int × Int × List Bool)) => bindO (F_cloneP y.2.1.2) fun (y_4 : List (Int × Int)) => loopN maxR (fun (x_1 : Int × List (Int × Int × Int × List Bool)) => ifB (ltI x_1.1 (lenI y.2.1.1)) (bindO (atI y.2.1.1 x_1.1) fun (y : Int × Int × Int × List Bool) => bindO (F_block_Copy (y.1, y.2.1, y.2.2.1, y.2.2.2)) fun (y : Int × Int × Int × List Bool) => ifB (ltL x_1.1 x_1.2) (bindO (atN x_1.2 (natI x_1.1)) fun (y_5 : Int × Int × Int × List Bool) => some (Sum.inl (wadd .i64 x_1.1 1, setN x_1.2 (natI x_1.1) (y.1, y.2.1, y.2.2.1, y.2.2.2)))) none) (mapO Sum.inr (bindO (F_cloneBk y.2.2.1.1) fun (y_5 : List (Int × Int × Int × List Bool)) => bindO (F_cloneP y.2.2.1.2) fun (y_6 : List (Int × Int)) => loopN maxR (fun (x_2 : Int × List (Int × Int × Int × List Bool)) => ifB (ltI x_2.1 (lenI y.2.2.1.1)) (bindO (atI y.2.2.1.1 x_2.1) fun (y : Int × Int × Int × List Bool) => bindO (F_block_Copy (y.1, y.2.1, y.2.2.1, y.2.2.2)) fun (y : Int × Int × Int × List Bool) => ifB (ltL x_2.1 x_2.2) (bindO (atN x_2.2 (natI x_2.1)) fun (y_7 : Int × Int × Int × List Bool) => some (Sum.inl (wadd .i64 x_2.1 1, setN x_2.2 (natI x_2.1) (y.1, y.2.1, y.2.2.1, y.2.2.2)))) none) (mapO Sum.inr (bindO (F_cloneBk y.2.2.2.1) fun (y_7 : List (Int × Int × Int × List Bool)) => bindO (F_cloneP y.2.2.2.2) fun (y_8 : List (Int × Int)) => loopN maxR (fun (x_3 : Int × List (Int × Int × Int × List Bool)) => ifB (ltI x_3.1 (lenI y.2.2.2.1)) (bindO (atI y.2.2.2.1 x_3.1) fun (y : Int × Int × Int × List Bool) => bindO (F_block_Copy (y.1, y.2.1, y.2.2.1, y.2.2.2)) fun (y : Int × Int × Int × List Bool) => ifB (ltL x_3.1 x_3.2) (bindO (atN x_3.2 (natI x_3.1)) fun (y_9 : Int × Int × Int × List Bool) => some (Sum.inl (wadd .i64 x_3.1 1, setN x_3.2 (natI x_3.1) (y.1, y.2.1, y.2.2.1, y.2.2.2)))) none) (mapO Sum.inr (bindO (F_deleteFuncB x.2 b) fun (y : List (Int × Int × Int × List Bool)) => bindO (F_deleteFuncB x_1.2 b) fun (y_9 : List (Int × Int × Int × List Bool)) => bindO (F_deleteFuncB x_2.2 b) fun (y_10 : List (Int × Int × Int × List Bool)) => bindO (F_deleteFuncB x_3.2 b) fun (y_11 : List (Int × Int × Int × List Bool)) => some ([(y, y_2), (y_9, y_4), (y_10, y_6), (y_11, y_8)], 0)))) (0, y_7)))) (0, y_5)))) (0, y_3)))) (0, y_1))))
theorem F_shelf_Drop_eq (x : PI is_shelf_Drop) : F_shelf_Drop (x.1) (x.2) = fnE T G_shelf_Drop H_shelf_Drop C_shelf_Drop (resOf Tryz.f83) is_shelf_Drop os_shelf_Drop x := by kernel_rfl
noncomputable abbrev R_shelf_Drop : GS := mkSpec false is_shelf_Drop os_shelf_Drop fun x => F_shelf_Drop (x.1) (x.2)
theorem R_shelf_Drop_ok : GSOK Tryz.prog 83 R_shelf_Drop := spec_ok tok g_shelf_Drop fmo (Ht := H_shelf_Drop) (fn := Tryz.f83) (Tryz.func83) (c := C_shelf_Drop) (by kernel_rfl) (by kernel_rfl) (by kernel_rfl) (by decide +kernel) (by decide) F_shelf_Drop_eq
end Go.Proofs.Y
namespace Go.Proofs.Y
open Go.Rb Go.Kx
noncomputable def C_store_Next : Code := bodyOf Tryz.f31
noncomputable def G_store_Next : FuncId → Option GS := tabG [(78, R_shelf_Check), (79, R_note_Check), (80, R_shelf_Put), (81, R_shelf_Seal), (82, R_shelf_Merge), (83, R_shelf_Drop)]
theorem g_store_Next : ΓOK Tryz.prog G_store_Next := ΓOK_cons (R_shelf_Check_ok) (ΓOK_cons (R_note_Check_ok) (ΓOK_cons (R_shelf_Put_ok) (ΓOK_cons (R_shelf_Seal_ok) (ΓOK_cons (R_shelf_Merge_ok) (ΓOK_cons (R_shelf_Drop_ok) (ΓOK_nil))))))
def H_store_Next : HT := ⟨tabL [], tabH []⟩
abbrev is_store_Next : List IT := [.v (.one (.sl 95 (.cons (.sl 126 (.cons (.int .i64) (.cons (.int .i64) (.cons (.int .i64) (.one (.sl 4 (.one .bool))))))) (.one (.sl 73 (.cons (.int .i64) (.one (.int .i64)))))))) true, .v (.cons (.int .i64) (.cons (.int .i64) (.cons (.int .i64) (.one (.sl 77 (.cons (.int .i64) (.cons (.int .i64) (.one (.int .i64))))))))) true]
abbrev os_store_Next : List OT := [⟨.one (.sl 95 (.cons (.sl 126 (.cons (.int .i64) (.cons (.int .i64) (.cons (.int .i64) (.one (.sl 4 (.one .bool))))))) (.one (.sl 73 (.cons (.int .i64) (.one (.int .i64))))))), true, []⟩, ⟨.one (.int .i64), false, []⟩]
set_option maxRecDepth 100000
noncomputable def F_store_Next : List (List (Int × Int × Int × List Bool) × List (Int × Int)) → Int × Int × Int × List (Int × Int × Int) → Option (List (List (Int × Int × Int × List Bool) × List (Int × Int)) × Int) := fun (a : List (List (Int × Int × Int × List Bool) × List (Int × Int))) (b : Int × Int × Int × List (Int × Int × Int)) => bindO (F_shelf_Check a) fun (y : Int) => ifB (neI y 0) (some ([], y)) (bindO (F_note_Check (b.1, b.2.1, b.2.2.1, b.2.2.2)) fun (y : Int) => ifB (neI y 0) (some ([], y)) (ifB (eqI b.1 1) (bindO (F_shelf_Put a b.2.2.2) fun (y : List (List (Int × Int × Int × List Bool) × List (Int × Int)) × Int) => some (y.1, y.2)) (ifB (eqI b.1 2) (bindO (F_shelf_Seal a b.2.1 b.2.2.1) fun (y : List (List (Int × Int × Int × List Bool) × List (Int × Int)) × Int) => some (y.1, y.2)) (ifB (eqI b.1 3) (bindO (F_shelf_Merge a b.2.1 b.2.2.1) fun (y : List (List (Int × Int × Int × List Bool) × List (Int × Int)) × Int) => some (y.1, y.2)) (bindO (F_shelf_Drop a b.2.2.1) fun (y : List (List (Int × Int × Int × List Bool) × List (Int × Int)) × Int) => some (y.1, y.2))))))
theorem F_store_Next_eq (x : PI is_store_Next) : F_store_Next (x.1) (x.2) = fnE T G_store_Next H_store_Next C_store_Next (resOf Tryz.f31) is_store_Next os_store_Next x := by kernel_rfl
noncomputable abbrev R_store_Next : GS := mkSpec false is_store_Next os_store_Next fun x => F_store_Next (x.1) (x.2)
theorem R_store_Next_ok : GSOK Tryz.prog 31 R_store_Next := spec_ok tok g_store_Next fmo (Ht := H_store_Next) (fn := Tryz.f31) (Tryz.func31) (c := C_store_Next) (by kernel_rfl) (by kernel_rfl) (by kernel_rfl) (by decide +kernel) (by decide) F_store_Next_eq
end Go.Proofs.Y
namespace Go.Proofs.Y
open Go.Rb Go.Kx
noncomputable def C_shelf_New : Code := bodyOf Tryz.f75
noncomputable def G_shelf_New : FuncId → Option GS := tabG []
theorem g_shelf_New : ΓOK Tryz.prog G_shelf_New := ΓOK_nil
def H_shelf_New : HT := ⟨tabL [], tabH []⟩
abbrev is_shelf_New : List IT := []
abbrev os_shelf_New : List OT := [⟨.one (.sl 95 (.cons (.sl 126 (.cons (.int .i64) (.cons (.int .i64) (.cons (.int .i64) (.one (.sl 4 (.one .bool))))))) (.one (.sl 73 (.cons (.int .i64) (.one (.int .i64))))))), true, []⟩]
set_option maxRecDepth 100000
noncomputable def F_shelf_New : Option (List (List (Int × Int × Int × List Bool) × List (Int × Int))) := ifB (roomI 48 4) (some (repI 4 ([], []))) none
theorem F_shelf_New_eq (x : PI is_shelf_New) : F_shelf_New  = fnE T G_shelf_New H_shelf_New C_shelf_New (resOf Tryz.f75) is_shelf_New os_shelf_New x := by kernel_rfl
noncomputable abbrev R_shelf_New : GS := mkSpec false is_shelf_New os_shelf_New fun x => F_shelf_New 
theorem R_shelf_New_ok : GSOK Tryz.prog 75 R_shelf_New := spec_ok tok g_shelf_New fmo (Ht := H_shelf_New) (fn := Tryz.f75) (Tryz.func75) (c := C_shelf_New) (by kernel_rfl) (by kernel_rfl) (by kernel_rfl) (by decide +kernel) (by decide) F_shelf_New_eq
end Go.Proofs.Y
namespace Go.Proofs.Y
open Go.Rb Go.Kx
noncomputable def C_store_Replay : Code := bodyOf Tryz.f28
noncomputable def G_store_Replay : FuncId → Option GS := tabG [(75, R_shelf_New), (31, R_store_Next)]
theorem g_store_Replay : ΓOK Tryz.prog G_store_Replay := ΓOK_cons (R_shelf_New_ok) (ΓOK_cons (R_store_Next_ok) (ΓOK_nil))
def H_store_Replay : HT := ⟨tabL [(5, .it [] (dyn [.t 15 (.int .i64), .c 2 0 (.sl 95 (.cons (.sl 126 (.cons (.int .i64) (.cons (.int .i64) (.cons (.int .i64) (.one (.sl 4 (.one .bool))))))) (.one (.sl 73 (.cons (.int .i64) (.one (.int .i64))))))), .c 4 0 (.sl 95 (.cons (.sl 126 (.cons (.int .i64) (.cons (.int .i64) (.cons (.int .i64) (.one (.sl 4 (.one .bool))))))) (.one (.sl 73 (.cons (.int .i64) (.one (.int .i64)))))))]))], tabH []⟩
abbrev is_store_Replay : List IT := [.v (.one (.sl 52 (.cons (.int .i64) (.cons (.int .i64) (.cons (.int .i64) (.one (.sl 77 (.cons (.int .i64) (.cons (.int .i64) (.one (.int .i64))))))))))) false]
abbrev os_store_Replay : List OT := [⟨.one (.sl 95 (.cons (.sl 126 (.cons (.int .i64) (.cons (.int .i64) (.cons (.int .i64) (.one (.sl 4 (.one .bool))))))) (.one (.sl 73 (.cons (.int .i64) (.one (.int .i64))))))), true, []⟩, ⟨.one (.int .i64), false, []⟩]
set_option maxRecDepth 100000
noncomputable def F_store_Replay : List (Int × Int × Int × List (Int × Int × Int)) → Option (List (List (Int × Int × Int × List Bool) × List (Int × Int)) × Int) := fun (a : List (Int × Int × Int × List (Int × Int × Int))) => ifB (gtI (lenI a) 60) (some ([], 2)) (bindO F_shelf_New fun (y : List (List (Int × Int × Int × List Bool) × List (Int × Int))) => loopN maxR (fun (x : Int × List (List (Int × Int × Int × List Bool) × List (Int × Int)) × List (List (Int × Int × Int × List Bool) × List (Int × Int))) => ifB (ltI x.1 (lenI a)) (bindO (atI a x.1) fun (y : Int × Int × Int × List (Int × Int × Int)) => bindO (F_store_Next x.2.2 (y.1, y.2.1, y.2.2.1, y.2.2.2)) fun (y : List (List (Int × Int × Int × List Bool) × List (Int × Int)) × Int) => ifB (neI y.2 0) (mapO Sum.inr (some ([], y.2))) (some (Sum.inl (wadd .i64 x.1 1, x.2.1, y.1)))) (mapO Sum.inr (some (x.2.2, 0)))) (0, [], y))
theorem F_store_Replay_eq (x : PI is_store_Replay) : F_store_Replay x = fnE T G_store_Replay H_store_Replay C_store_Replay (resOf Tryz.f28) is_store_Replay os_store_Replay x := by kernel_rfl
noncomputable abbrev R_store_Replay : GS := mkSpec false is_store_Replay os_store_Replay fun x => F_store_Replay x
theorem R_store_Replay_ok : GSOK Tryz.prog 28 R_store_Replay := spec_ok tok g_store_Replay fmo (Ht := H_store_Replay) (fn := Tryz.f28) (Tryz.func28) (c := C_store_Replay) (by kernel_rfl) (by kernel_rfl) (by kernel_rfl) (by decide +kernel) (by decide) F_store_Replay_eq
end Go.Proofs.Y
namespace Go.Rb
abbrev Pt := Int × Int
abbrev Pt.t (p : Pt) : Int := Prod.fst p
abbrev Pt.v (p : Pt) : Int := Prod.snd p
abbrev Bk := Int × Int × Int × List Bool
abbrev Bk.n (b : Bk) : Int := Prod.fst b
abbrev Bk.fr (b : Bk) : Int := Prod.fst (Prod.snd b)
abbrev Bk.to (b : Bk) : Int := Prod.fst (Prod.snd (Prod.snd b))
abbrev Bk.bits (b : Bk) : List Bool := Prod.snd (Prod.snd (Prod.snd b))
abbrev Rowd := List Bk × List Pt
abbrev Rowd.blocks (r : Rowd) : List Bk := Prod.fst r
abbrev Rowd.head (r : Rowd) : List Pt := Prod.snd r
abbrev Shf := List Rowd
abbrev Ent := Int × Int × Int
abbrev Rc := Int × Int × Int × List Ent
def inR64 (n : Int) : Prop := -9223372036854775808 ≤ n ∧ n ≤ 9223372036854775807
theorem wr_id {n : Int} (h1 : -9223372036854775808 ≤ n) (h2 : n ≤ 9223372036854775807) : IntKind.wrap .i64 n = n := by rw [IntKind.wrap_i64]; omega
theorem take_next {α : Type} [Inhabited α] {l : List α} {i : Nat} (h : i < l.length) : l.take (i + 1) = l.take i ++ [l.getD i default] := by
  rw [List.take_succ_eq_append_getElem h]; simp [List.getD, List.getElem?_eq_getElem h]
end Go.Rb
namespace Go.Kx
open Go.Rb
/-! ### Tests -/
theorem ifB_t {α : Type} (x y : α) : ifB true x y = x := rfl
theorem ifB_f {α : Type} (x y : α) : ifB false x y = y := rfl
theorem ifB_same {α : Type} (b : Bool) (x : α) : ifB b x x = x := by cases b <;> rfl
theorem ifB_if {α : Type} (b : Bool) (x y : α) : ifB b x y = if b = true then x else y := by cases b <;> rfl
theorem ifB_dec {α : Type} (p : Prop) [Decidable p] (x y : α) : ifB (decide p) x y = if p then x else y := by by_cases h : p <;> simp [ifB, h]
theorem ifB_ltI {α : Type} (a b : Int) (x y : α) : ifB (ltI a b) x y = if a < b then x else y := ifB_dec _ _ _
theorem ifB_leI {α : Type} (a b : Int) (x y : α) : ifB (leI a b) x y = if a ≤ b then x else y := ifB_dec _ _ _
theorem ifB_gtI {α : Type} (a b : Int) (x y : α) : ifB (gtI a b) x y = if b < a then x else y := ifB_dec _ _ _
theorem ifB_geI {α : Type} (a b : Int) (x y : α) : ifB (geI a b) x y = if b ≤ a then x else y := ifB_dec _ _ _
theorem ifB_eqI {α : Type} (a b : Int) (x y : α) : ifB (eqI a b) x y = if a = b then x else y := by
  rw [ifB_if]; simp only [eqI, beq_iff_eq]
theorem ifB_neI {α : Type} (a b : Int) (x y : α) : ifB (neI a b) x y = if a = b then y else x := by
  rw [ifB_if]; simp only [neI, bne_iff_ne, ne_eq, ite_not]
theorem ifB_not {α : Type} (b : Bool) (x y : α) : ifB (notB b) x y = ifB b y x := by cases b <;> rfl
theorem ifB_and {α : Type} (a b : Bool) (x y : α) : ifB (ifB a b false) x y = ifB a (ifB b x y) y := by cases a <;> rfl
theorem ifB_eqB {α : Type} (a b : Bool) (x y : α) : ifB (eqB a b) x y = if a = b then x else y := by
  rw [ifB_if]; simp only [eqB, beq_iff_eq]
theorem ifB_isE {α β : Type} (l : List β) (x y : α) : ifB (isE l) x y = if l = [] then x else y := by cases l <;> rfl
theorem ifB_in1 {α β : Type} (l : List β) (a : Int) (x y : α) : ifB (in1 l a) x y = if 0 ≤ a ∧ a ≤ l.length then x else y := by rw [in1, ← Bool.decide_and]; exact ifB_dec _ _ _
theorem ifB_in2 {α β : Type} (l : List β) (a b : Int) (x y : α) : ifB (in2 l a b) x y = if 0 ≤ a ∧ a ≤ b ∧ b ≤ l.length then x else y := by rw [in2, ← Bool.decide_and, ← Bool.decide_and]; exact ifB_dec _ _ _
theorem ifB_in1N {α : Type} (c : Nat) (a : Int) (x y : α) : ifB (in1N c a) x y = if 0 ≤ a ∧ a ≤ c then x else y := by rw [in1N, ← Bool.decide_and]; exact ifB_dec _ _ _
theorem ifB_in2N {α : Type} (c : Nat) (a b : Int) (x y : α) : ifB (in2N c a b) x y = if 0 ≤ a ∧ a ≤ b ∧ b ≤ c then x else y := by rw [in2N, ← Bool.decide_and, ← Bool.decide_and]; exact ifB_dec _ _ _
theorem ifB_in1C {α : Type} (n c : Nat) (a : Int) (x y : α) : ifB (in1C n c a) x y = if 0 ≤ a ∧ a ≤ (max n c : Nat) then x else y := by rw [in1C, ← Bool.decide_and]; exact ifB_dec _ _ _
theorem ifB_in2C {α : Type} (n c : Nat) (a b : Int) (x y : α) : ifB (in2C n c a b) x y = if 0 ≤ a ∧ a ≤ b ∧ b ≤ (max n c : Nat) then x else y := by rw [in2C, ← Bool.decide_and, ← Bool.decide_and]; exact ifB_dec _ _ _
theorem ifB_inN {α β : Type} (l : List β) (o n : Nat) (x y : α) : ifB (inN l o n) x y = if o + n ≤ l.length then x else y := ifB_dec _ _ _
theorem ifB_ltL {α β : Type} (n : Int) (l : List β) (x y : α) : ifB (ltL n l) x y = if 0 ≤ n ∧ n < l.length then x else y := by rw [ltL, ← Bool.decide_and]; exact ifB_dec _ _ _
theorem ifB_ltN {α : Type} (n : Int) (c : Nat) (x y : α) : ifB (ltN n c) x y = if 0 ≤ n ∧ n < c then x else y := by rw [ltN, ← Bool.decide_and]; exact ifB_dec _ _ _
theorem ifB_roomA {α β : Type} (n : Nat) (a b : List β) (x y : α) : ifB (roomA n a b) x y = if (a.length + b.length + (a.length + b.length) / 4 + 192) * n ≤ 281474976710656 ∧ a.length + b.length ≤ 9223372036854775807 then x else y := by rw [roomA, ← Bool.decide_and]; exact ifB_dec _ _ _
theorem ifB_roomI {α : Type} (b : Nat) (n : Int) (x y : α) : ifB (roomI b n) x y = if 0 ≤ n ∧ n * b ≤ 140737488355328 ∧ n ≤ 9223372036854775807 then x else y := by rw [roomI, ← Bool.decide_and, ← Bool.decide_and]; exact ifB_dec _ _ _
theorem ifB_roomZ {α : Type} (b : Nat) (n : Int) (x y : α) : ifB (roomZ b n) x y = if 1 ≤ n ∧ n * b ≤ 140737488355328 ∧ n ≤ 9223372036854775807 then x else y := by rw [roomZ, ← Bool.decide_and, ← Bool.decide_and]; exact ifB_dec _ _ _
theorem ifB_roomS {α : Type} (a b : List UInt8) (x y : α) : ifB (roomS a b) x y = if (a.length : Int) + b.length ≤ 9223372036854775807 then x else y := ifB_dec _ _ _
theorem ifB_eqS {α : Type} (a b : List UInt8) (x y : α) : ifB (eqS a b) x y = if a = b then x else y := by
  rw [ifB_if]; simp only [eqS, beq_iff_eq]
theorem ifB_eqL {α : Type} (a b : List Int) (x y : α) : ifB (eqL a b) x y = if a = b then x else y := ifB_dec _ _ _
theorem ifB_fits {α β : Type} (n : Nat) (l : List β) (c : Nat) (x y : α) : ifB (fits n l c) x y = if l = [] ∨ n + l.length ≤ c then x else y := by
  cases l with
  | nil => simp [ifB, fits]
  | cons a l => rw [fits]; simp only [List.isEmpty_cons, Bool.false_or, ifB_dec, reduceCtorEq, false_or]
theorem bindO_some {α β : Type} (a : α) (f : α → Option β) : bindO (some a) f = f a := rfl
theorem bindO_none {α β : Type} (f : α → Option β) : bindO none f = none := rfl
theorem mapO_some {α β : Type} (a : α) (f : α → β) : mapO f (some a) = some (f a) := rfl
theorem mapO_none {α β : Type} (f : α → β) : mapO f none = none := rfl
theorem ambO_same {α : Type} (a : Option α) : ambO a a = a := by simp [ambO]
theorem lenI_eq {α : Type} (l : List α) : lenI l = (l.length : Int) := rfl
theorem lenN_eq {α : Type} (l : List α) : lenN l = l.length := rfl
theorem cat_eq {α : Type} (a b : List α) : cat a b = a ++ b := rfl
theorem takeI_eq {α : Type} (a : List α) (b : Int) : takeI a b = a.take b.toNat := rfl
theorem dropI_eq {α : Type} (a : List α) (b : Int) : dropI a b = a.drop b.toNat := rfl
theorem sliI_eq {α : Type} (l : List α) (a b : Int) : sliI l a b = (l.take b.toNat).drop a.toNat := rfl
theorem setN_eq {α : Type} (l : List α) (n : Nat) (a : α) : setN l n a = l.set n a := rfl
theorem natI_eq (a : Int) : natI a = a.toNat := rfl
theorem intN_eq (a : Nat) : intN a = (a : Int) := rfl
theorem atI_nat {α : Type} [Inhabited α] {l : List α} {j : Nat} (h : j < l.length) : atI l (j : Int) = some (l.getD j default) := by
  rw [atI, if_pos (by omega), Int.toNat_natCast, List.getElem?_eq_getElem h]; simp [List.getD, List.getElem?_eq_getElem h]
theorem atI_int {α : Type} [Inhabited α] {l : List α} {j : Int} (h0 : 0 ≤ j) (h : j < l.length) : atI l j = some (l.getD j.toNat default) := by
  obtain ⟨k, rfl⟩ : ∃ k : Nat, j = k := ⟨j.toNat, by omega⟩
  exact atI_nat (by omega)
theorem atN_nat {α : Type} [Inhabited α] {l : List α} {j : Nat} (h : j < l.length) : atN l j = some (l.getD j default) := by
  rw [atN, List.getElem?_eq_getElem h]; simp [List.getD, List.getElem?_eq_getElem h]
theorem wadd_in {a b : Int} (h : -9223372036854775808 ≤ a + b ∧ a + b ≤ 9223372036854775807) : wadd .i64 a b = a + b := wr_id h.1 h.2
theorem wsub_in {a b : Int} (h : -9223372036854775808 ≤ a - b ∧ a - b ≤ 9223372036854775807) : wsub .i64 a b = a - b := wr_id h.1 h.2
theorem wmul_in {a b : Int} (h : -9223372036854775808 ≤ a * b ∧ a * b ≤ 9223372036854775807) : wmul .i64 a b = a * b := wr_id h.1 h.2
theorem wneg_in {a : Int} (h : -9223372036854775808 ≤ 0 - a ∧ 0 - a ≤ 9223372036854775807) : wneg .i64 a = 0 - a := wr_id h.1 h.2
theorem wadd_nat {j : Nat} (h : (j : Int) < 4611686018427387904) : wadd .i64 (j : Int) 1 = ((j + 1 : Nat) : Int) := by rw [wadd_in ⟨by omega, by omega⟩]; rfl
/-! ### Loops -/
def stepK {α β : Type} (o : Option (Sum β α)) (k : β → Option α) : Option α :=
  match o with
  | none => none
  | some (.inl y) => k y
  | some (.inr a) => some a
theorem stepK_none {α β : Type} (k : β → Option α) : stepK none k = none := rfl
theorem stepK_inl {α β : Type} (y : β) (k : β → Option α) : stepK (some (.inl y)) k = k y := rfl
theorem stepK_inr {α β : Type} (a : α) (k : β → Option α) : stepK (some (.inr a)) k = some a := rfl
theorem stepK_map {α β : Type} (o : Option α) (k : β → Option α) : stepK (mapO Sum.inr o) k = o := by cases o <;> rfl
theorem stepK_if {α β : Type} (p : Prop) [Decidable p] (x y : Option (Sum β α)) (k : β → Option α) : stepK (if p then x else y) k = if p then stepK x k else stepK y k := by split <;> rfl
theorem stepK_ifB {α β : Type} (b : Bool) (x y : Option (Sum β α)) (k : β → Option α) : stepK (ifB b x y) k = ifB b (stepK x k) (stepK y k) := by cases b <;> rfl
theorem stepK_bind {α β γ : Type} (o : Option γ) (f : γ → Option (Sum β α)) (k : β → Option α) : stepK (bindO o f) k = bindO o fun y => stepK (f y) k := by cases o <;> rfl
theorem loop_ind {α β : Type} {f : β → Option (Sum β α)} (G : β → Option α) (P : β → Prop) (μ : β → Nat)
    (h : ∀ x, P x → ∀ k : β → Option α, (∀ y, P y → μ y < μ x → k y = G y) → stepK (f x) k = G x) : ∀ (n : Nat) (x : β), P x → μ x < n → loopN n f x = G x
  | 0, x, _, hm => absurd hm (Nat.not_lt_zero _)
  | n + 1, x, hp, hm => by
    rw [loopN_succ, ← h x hp (loopN n f) (fun y hy hl => loop_ind G P μ h n y hy (by omega))]
    cases f x with
    | none => rfl
    | some s => cases s <;> rfl
theorem loop_range {α β γ σ : Type} [Inhabited γ] (l : List γ) (enc : Nat → σ → β) {f : β → Option (Sum β α)} (G : List γ → σ → Option α) (P : Nat → σ → Prop)
    (hs : ∀ (j : Nat) (s : σ), j < l.length → P j s → ∀ k : β → Option α, (∀ s', P (j + 1) s' → k (enc (j + 1) s') = G (l.drop (j + 1)) s') → stepK (f (enc j s)) k = G (l.getD j default :: l.drop (j + 1)) s)
    (he : ∀ s, P l.length s → ∀ k : β → Option α, stepK (f (enc l.length s)) k = G [] s) {s0 : σ} (h0 : P 0 s0) (hl : l.length < 9223372036854775808) : loopN maxR f (enc 0 s0) = G l s0 := by
  have key : ∀ (d j : Nat) (s : σ) (n : Nat), j + d = l.length → P j s → d < n → loopN n f (enc j s) = G (l.drop j) s := by
    intro d
    induction d with
    | zero =>
      intro j s n hj hp hn
      obtain ⟨n, rfl⟩ : ∃ m, n = m + 1 := ⟨n - 1, by omega⟩
      have hj' : j = l.length := by omega
      subst hj'
      rw [List.drop_length, ← he s hp (loopN n f), loopN_succ]
      cases f (enc l.length s) with
      | none => rfl
      | some q => cases q <;> rfl
    | succ d ih =>
      intro j s n hj hp hn
      obtain ⟨n, rfl⟩ : ∃ m, n = m + 1 := ⟨n - 1, by omega⟩
      have hlt : j < l.length := by omega
      have hd : l.drop j = l.getD j default :: l.drop (j + 1) := by rw [List.drop_eq_getElem_cons hlt]; simp [List.getD, List.getElem?_eq_getElem hlt]
      rw [hd, ← hs j s hlt hp (loopN n f) (fun s' hp' => ih (j + 1) s' n (by omega) hp' (by omega)), loopN_succ]
      cases f (enc j s) with
      | none => rfl
      | some q => cases q <;> rfl
  have := key l.length 0 s0 maxR (by omega) h0 (by unfold maxR; omega)
  simpa using this
end Go.Kx
namespace Go.Kx
end Go.Kx
namespace Go.Kx
end Go.Kx
namespace Go.Rb
open Go.Kx
def badEnt (x : Ent) : Prop := x.1 < 0 ∨ 4 ≤ x.1 ∨ x.2.1 < 0 ∨ 100000 < x.2.1 ∨ x.2.2 < -1000000 ∨ 1000000 < x.2.2
instance badEntDec (x : Ent) : Decidable (badEnt x) := inferInstanceAs (Decidable (_ ∨ _))
def entE : List Ent → Int
  | [] => 0
  | x :: l => if badEnt x then 3 else entE l
def chkRec (r : Rc) : Int :=
  if r.1 < 1 ∨ 4 < r.1 then 4 else
  if r.1 = 1 then (if ¬ r.2.1 = 0 ∨ ¬ r.2.2.1 = 0 then 4 else if 10 < r.2.2.2.length then 2 else entE r.2.2.2) else
  if 0 < r.2.2.2.length ∨ (r.1 = 4 ∧ ¬ r.2.1 = 0) then 4 else if r.2.1 < 0 ∨ 4 ≤ r.2.1 ∨ r.2.2.1 < 0 ∨ 100001 < r.2.2.1 then 3 else 0
theorem chkRec_kind {r : Rc} (h : chkRec r = 0) : 1 ≤ r.1 ∧ r.1 ≤ 4 ∧ (r.1 = 1 → r.2.1 = 0 ∧ r.2.2.1 = 0 ∧ r.2.2.2.length ≤ 10 ∧ entE r.2.2.2 = 0) ∧ (¬ r.1 = 1 → r.2.2.2 = [] ∧ 0 ≤ r.2.1 ∧ r.2.1 ≤ 3 ∧ 0 ≤ r.2.2.1 ∧ r.2.2.1 ≤ 100001 ∧ (r.1 = 4 → r.2.1 = 0)) := by
  unfold chkRec at h
  split at h
  · cases h
  · rename_i h1
    split at h
    · rename_i h2
      split at h
      · cases h
      · rename_i h3
        split at h
        · cases h
        · rename_i h4
          exact ⟨by omega, by omega, fun _ => ⟨by omega, by omega, by omega, h⟩, fun h => absurd h2 h⟩
    · rename_i h2
      split at h
      · cases h
      · rename_i h3
        split at h
        · cases h
        · rename_i h4
          refine ⟨by omega, by omega, fun h => absurd h h2, fun _ => ⟨List.eq_nil_of_length_eq_zero (by omega), by omega, by omega, by omega, by omega, fun h5 => ?_⟩⟩
          exact Classical.byContradiction fun h6 => h3 (.inr ⟨h5, h6⟩)
end Go.Rb
namespace Go.Kx
open Go.Rb
theorem clone_gen {α : Type} (b : Nat) (a : List α) (h : (a.length + a.length / 4 + 192) * b ≤ 281474976710656) (h2 : a.length ≤ 9223372036854775807) :
    ifB (isE a) (ambO (some []) (ifB (roomA b [] a) (some (cat [] a)) none)) (ifB (roomA b [] a) (some (cat [] a)) none) = some a := by
  simp only [stepK_none, stepK_inl, stepK_inr, stepK_map, stepK_if, stepK_bind, ifB_t, ifB_f, ifB_same, ifB_ltI, ifB_leI, ifB_gtI, ifB_geI, ifB_eqI, ifB_neI, ifB_not, ifB_and, ifB_eqB, ifB_isE, ifB_in1, ifB_in2, ifB_in1N, ifB_in2N, ifB_in1C, ifB_in2C, ifB_inN, ifB_ltL, ifB_ltN, ifB_roomA, ifB_roomI, ifB_roomZ, ifB_roomS, ifB_eqS, ifB_eqL, ifB_fits, bindO_some, bindO_none, mapO_some, mapO_none, lenI_eq, lenN_eq, cat_eq, takeI_eq, dropI_eq, sliI_eq, setN_eq, natI_eq, intN_eq, List.length_nil, Nat.zero_add, List.nil_append]
  rw [if_pos (⟨h, h2⟩ : (a.length + a.length / 4 + 192) * b ≤ 281474976710656 ∧ a.length ≤ 9223372036854775807)]
  split
  · rename_i h0; subst h0; exact ambO_same _
  · rfl
theorem getD_ext {α : Type} [Inhabited α] {a b : List α} (h : a.length = b.length) (hg : ∀ j, j < a.length → a.getD j default = b.getD j default) : a = b := by
  apply List.ext_getElem h
  intro i h1 h2
  have := hg i h1
  simpa [List.getD, List.getElem?_eq_getElem h1, List.getElem?_eq_getElem h2] using this
theorem equal_gen {α : Type} [Inhabited α] [DecidableEq α] (eqv : α → α → Bool) (he : ∀ x y, eqv x y = decide (x = y)) (a b : List α) (hl : a.length < 4611686018427387904) :
    ifB (neI (lenI a) (lenI b)) (some false) (loopN maxR (fun (x : Int) => ifB (ltI x (lenI a)) (bindO (atI a x) fun (y : α) => bindO (atI b x) fun (y_1 : α) => ifB (notB (eqv y y_1)) (mapO Sum.inr (some false)) (some (Sum.inl (wadd IntKind.i64 x 1)))) (mapO Sum.inr (some true))) 0) = some (decide (a = b)) := by
  rw [ifB_neI]
  by_cases hab : (a.length : Int) = b.length
  · rw [lenI_eq, lenI_eq, if_pos hab]
    have hn : a.length = b.length := by omega
    refine loop_ind (G := fun _ => some (decide (a = b))) (P := fun (i : Int) => 0 ≤ i ∧ i ≤ a.length ∧ ∀ j : Nat, (j : Int) < i → a.getD j default = b.getD j default) (μ := fun (i : Int) => a.length - i.toNat) ?_ maxR 0 ⟨by omega, by omega, fun j hj => by omega⟩ (by unfold maxR; omega)
    rintro i ⟨h0, h1, h2⟩ k hk
    obtain ⟨j, rfl⟩ : ∃ j : Nat, i = j := ⟨i.toNat, by omega⟩
    simp only [stepK_none, stepK_inl, stepK_inr, stepK_map, stepK_if, stepK_bind, ifB_t, ifB_f, ifB_same, ifB_ltI, ifB_leI, ifB_gtI, ifB_geI, ifB_eqI, ifB_neI, ifB_not, ifB_and, ifB_eqB, ifB_isE, ifB_in1, ifB_in2, ifB_in1N, ifB_in2N, ifB_in1C, ifB_in2C, ifB_inN, ifB_ltL, ifB_ltN, ifB_roomA, ifB_roomI, ifB_roomZ, ifB_roomS, ifB_eqS, ifB_eqL, ifB_fits, bindO_some, bindO_none, mapO_some, mapO_none, lenI_eq, lenN_eq, cat_eq, takeI_eq, dropI_eq, sliI_eq, setN_eq, natI_eq, intN_eq]
    by_cases hj : j < a.length
    · rw [if_pos (by omega), atI_nat hj, atI_nat (by omega : j < b.length), bindO_some, bindO_some, he, wadd_nat (by omega), stepK_ifB, stepK_inl, stepK_inr]
      by_cases hq : a.getD j default = b.getD j default
      · rw [hk _ ⟨by omega, by omega, fun j' hj' => ?_⟩ (by omega)]
        · rw [ifB_dec, if_pos hq]
        · by_cases h : j' = j
          · subst h; exact hq
          · exact h2 j' (by omega)
      · have hne : a ≠ b := by rintro rfl; exact hq rfl
        rw [ifB_dec, if_neg hq]
        simp [hne]
    · rw [if_neg (by omega)]
      have : a = b := getD_ext hn fun j' hj' => h2 j' (by omega)
      simp [this]
  · rw [lenI_eq, lenI_eq, if_neg hab]
    have : a ≠ b := by rintro rfl; exact hab rfl
    simp [this]
theorem flatten_take {α : Type} (a : List (List α)) {j : Nat} (h : j < a.length) : (a.take (j + 1)).flatten.length = (a.take j).flatten.length + (a.getD j default).length := by
  rw [take_next h]; simp
theorem flatten_take_le {α : Type} (a : List (List α)) (j : Nat) : (a.take j).flatten.length ≤ a.flatten.length := by
  have h : a.flatten = (a.take j).flatten ++ (a.drop j).flatten := by rw [← List.flatten_append, List.take_append_drop]
  rw [h, List.length_append]; omega
theorem flatten_take_app {α : Type} (a : List (List α)) {j : Nat} (h : j < a.length) : (a.take (j + 1)).flatten = (a.take j).flatten ++ a.getD j default := by
  rw [take_next h]; simp
theorem concat_gen {α : Type} (bytes : Nat) (z : α) (a : List (List α)) (ha : a.length < 4611686018427387904) (hb : 1 ≤ bytes) (h : a.flatten.length * bytes ≤ 140737488355328) (hbb : bytes ≤ 1048576) :
    loopN maxR (fun (x : Int × Int) => ifB (ltI (Prod.snd x) (lenI a)) (bindO (atI a (Prod.snd x)) fun (y : List α) => ifB (ltI (wadd IntKind.i64 (Prod.fst x) (lenI y)) 0) none (some (Sum.inl (wadd IntKind.i64 (Prod.fst x) (lenI y), wadd IntKind.i64 (Prod.snd x) 1))))
      (mapO Sum.inr (ifB (ltI (Prod.fst x) 0) none (ifB (gtI (wsub IntKind.i64 (Prod.fst x) (wsub IntKind.i64 0 0)) 0)
        (ifB (roomZ bytes (wsub IntKind.i64 (Prod.fst x) (wsub IntKind.i64 0 0))) (ifB (in1 (repI (wsub IntKind.i64 (Prod.fst x) (wsub IntKind.i64 0 0)) z) 0) (ifB (inN (repI (wsub IntKind.i64 (Prod.fst x) (wsub IntKind.i64 0 0)) z) 0 (natI 0))
          (loopN maxR (fun (x : Int × List α) => ifB (ltI (Prod.fst x) (lenI a)) (bindO (atI a (Prod.fst x)) fun (y : List α) => ifB (roomA bytes (Prod.snd x) y) (some (Sum.inl (wadd IntKind.i64 (Prod.fst x) 1, cat (Prod.snd x) y))) none) (mapO Sum.inr (some (Prod.snd x)))) (0, subN (repI (wsub IntKind.i64 (Prod.fst x) (wsub IntKind.i64 0 0)) z) 0 (natI 0)))
          none) none) none)
        (loopN maxR (fun (x : Int × List α) => ifB (ltI (Prod.fst x) (lenI a)) (bindO (atI a (Prod.fst x)) fun (y : List α) => ifB (roomA bytes (Prod.snd x) y) (some (Sum.inl (wadd IntKind.i64 (Prod.fst x) 1, cat (Prod.snd x) y))) none) (mapO Sum.inr (some (Prod.snd x)))) (0, [])))))) (0, 0) = some a.flatten := by
  have hfl : a.flatten.length ≤ 140737488355328 := by
    have : a.flatten.length * 1 ≤ a.flatten.length * bytes := Nat.mul_le_mul_left _ hb
    omega
  have second : loopN maxR (fun (x : Int × List α) => ifB (ltI (Prod.fst x) (lenI a)) (bindO (atI a (Prod.fst x)) fun (y : List α) => ifB (roomA bytes (Prod.snd x) y) (some (Sum.inl (wadd IntKind.i64 (Prod.fst x) 1, cat (Prod.snd x) y))) none) (mapO Sum.inr (some (Prod.snd x)))) (0, []) = some a.flatten := by
    refine loop_range a (fun j s => ((j : Int), s)) (G := fun _ _ => some a.flatten) (P := fun j s => s = (a.take j).flatten) ?_ ?_ (by simp) (by omega)
    · rintro j s hj rfl k hk
      have h1 := flatten_take a hj
      have h2 := flatten_take_le a (j + 1)
      simp only [stepK_none, stepK_inl, stepK_inr, stepK_map, stepK_if, stepK_bind, ifB_t, ifB_f, ifB_same, ifB_ltI, ifB_leI, ifB_gtI, ifB_geI, ifB_eqI, ifB_neI, ifB_not, ifB_and, ifB_eqB, ifB_isE, ifB_in1, ifB_in2, ifB_in1N, ifB_in2N, ifB_in1C, ifB_in2C, ifB_inN, ifB_ltL, ifB_ltN, ifB_roomA, ifB_roomI, ifB_roomZ, ifB_roomS, ifB_eqS, ifB_eqL, ifB_fits, bindO_some, bindO_none, mapO_some, mapO_none, lenI_eq, lenN_eq, cat_eq, takeI_eq, dropI_eq, sliI_eq, setN_eq, natI_eq, intN_eq]
      rw [if_pos (by omega), atI_nat hj, bindO_some, wadd_nat (by omega), ← flatten_take_app a hj, hk _ rfl, if_pos]
      refine ⟨?_, by omega⟩
      have h3 : ((a.take j).flatten.length + (a.getD j default).length) * bytes ≤ 140737488355328 := Nat.le_trans (Nat.mul_le_mul_right _ (by omega)) h
      generalize (a.take j).flatten.length + (a.getD j default).length = m at *
      have h4 : m / 4 * bytes ≤ m * bytes := Nat.mul_le_mul_right _ (by omega)
      have h5 : m / 4 * bytes * 4 ≤ m * bytes := by rw [Nat.mul_right_comm]; exact Nat.mul_le_mul_right _ (by omega)
      rw [Nat.add_mul, Nat.add_mul]
      omega
    · rintro s rfl k
      simp only [stepK_none, stepK_inl, stepK_inr, stepK_map, stepK_if, stepK_bind, ifB_t, ifB_f, ifB_same, ifB_ltI, ifB_leI, ifB_gtI, ifB_geI, ifB_eqI, ifB_neI, ifB_not, ifB_and, ifB_eqB, ifB_isE, ifB_in1, ifB_in2, ifB_in1N, ifB_in2N, ifB_in1C, ifB_in2C, ifB_inN, ifB_ltL, ifB_ltN, ifB_roomA, ifB_roomI, ifB_roomZ, ifB_roomS, ifB_eqS, ifB_eqL, ifB_fits, bindO_some, bindO_none, mapO_some, mapO_none, lenI_eq, lenN_eq, cat_eq, takeI_eq, dropI_eq, sliI_eq, setN_eq, natI_eq, intN_eq]
      rw [if_neg (by omega), List.take_length]
  refine loop_range a (fun j s => (s, (j : Int))) (G := fun _ _ => some a.flatten) (P := fun j s => s = ((a.take j).flatten.length : Int)) ?_ ?_ (by simp) (by omega)
  · rintro j s hj rfl k hk
    have h1 := flatten_take a hj
    have h2 := flatten_take_le a (j + 1)
    simp only [stepK_none, stepK_inl, stepK_inr, stepK_map, stepK_if, stepK_bind, ifB_t, ifB_f, ifB_same, ifB_ltI, ifB_leI, ifB_gtI, ifB_geI, ifB_eqI, ifB_neI, ifB_not, ifB_and, ifB_eqB, ifB_isE, ifB_in1, ifB_in2, ifB_in1N, ifB_in2N, ifB_in1C, ifB_in2C, ifB_inN, ifB_ltL, ifB_ltN, ifB_roomA, ifB_roomI, ifB_roomZ, ifB_roomS, ifB_eqS, ifB_eqL, ifB_fits, bindO_some, bindO_none, mapO_some, mapO_none, lenI_eq, lenN_eq, cat_eq, takeI_eq, dropI_eq, sliI_eq, setN_eq, natI_eq, intN_eq]
    rw [if_pos (by omega), atI_nat hj, bindO_some, wadd_nat (by omega), wadd_in ⟨by omega, by omega⟩, if_neg (by omega)]
    exact hk _ (by omega)
  · rintro s rfl k
    rw [List.take_length]
    have hw : wsub .i64 (a.flatten.length : Int) (wsub .i64 0 0) = (a.flatten.length : Int) := by
      rw [wsub_in (a := 0) (b := 0) ⟨by omega, by omega⟩, wsub_in ⟨by omega, by omega⟩]; omega
    have hz : subN (repI (a.flatten.length : Int) z) 0 (natI 0) = [] := by simp [subN, natI]
    show stepK (ifB (ltI ((a.length : Nat) : Int) (lenI a)) _ (mapO Sum.inr (ifB (ltI (a.flatten.length : Int) 0) none (ifB (gtI (wsub .i64 (a.flatten.length : Int) (wsub .i64 0 0)) 0) _ _)))) k = _
    rw [stepK_ifB, stepK_map, ifB_ltI, if_neg (show ¬ ((a.length : Nat) : Int) < lenI a by rw [lenI_eq]; omega), ifB_ltI, if_neg (by omega)]
    show ifB (gtI (wsub .i64 (a.flatten.length : Int) (wsub .i64 0 0)) 0) (ifB (roomZ bytes (wsub .i64 (a.flatten.length : Int) (wsub .i64 0 0))) (ifB (in1 (repI (wsub .i64 (a.flatten.length : Int) (wsub .i64 0 0)) z) 0) (ifB (inN (repI (wsub .i64 (a.flatten.length : Int) (wsub .i64 0 0)) z) 0 (natI 0))
      (loopN maxR _ (0, subN (repI (wsub .i64 (a.flatten.length : Int) (wsub .i64 0 0)) z) 0 (natI 0))) none) none) none) (loopN maxR _ (0, [])) = _
    rw [hw, hz, second, ifB_gtI]
    split
    · rw [ifB_roomZ, if_pos, ifB_in1, if_pos ⟨by omega, by simp [repI]⟩, ifB_inN, if_pos (by simp [repI, natI])]
      refine ⟨by omega, ?_, by omega⟩
      rw [← Int.natCast_mul]; omega
    · rfl
theorem flatten2 {α : Type} (a b : List α) : [a, b].flatten = a ++ b := by simp
end Go.Kx
namespace Go.Proofs.Y
open Go.Rb Go.Kx
theorem noteCheck_eq (r : Rc) (hl : r.2.2.2.length < 4611686018427387904) : F_note_Check r = some (chkRec r) := by
  unfold F_note_Check chkRec
  have hloop : loopN maxR (fun (x : Int) => ifB (ltI x (lenI (Prod.snd (Prod.snd (Prod.snd r))))) (bindO (atI (Prod.snd (Prod.snd (Prod.snd r))) x) fun (y : Int × Int × Int) =>
      ifB (ltI (Prod.fst y) 0) (mapO Sum.inr (some 3)) (ifB (geI (Prod.fst y) 4) (mapO Sum.inr (some 3)) (ifB (ltI (Prod.fst (Prod.snd y)) 0) (mapO Sum.inr (some 3)) (ifB (gtI (Prod.fst (Prod.snd y)) 100000) (mapO Sum.inr (some 3))
        (ifB (ltI (Prod.snd (Prod.snd y)) (-1000000)) (mapO Sum.inr (some 3)) (ifB (gtI (Prod.snd (Prod.snd y)) 1000000) (mapO Sum.inr (some 3)) (some (Sum.inl (wadd IntKind.i64 x 1))))))))) (mapO Sum.inr (some 0))) 0 = some (entE r.2.2.2) := by
    generalize r.2.2.2 = l at *
    refine loop_range l (fun j (_ : Unit) => (j : Int)) (G := fun rest _ => some (entE rest)) (P := fun _ _ => True) ?_ ?_ (s0 := ()) trivial (by omega)
    · rintro j _ hj _ k hk
      have hat := atI_nat hj
      generalize l.getD j default = x at *
      simp only [stepK_ifB, stepK_bind, stepK_map, stepK_inl]
      rw [ifB_ltI, lenI_eq, if_pos (by omega), hat, bindO_some, ifB_ltI, ifB_geI, ifB_ltI, ifB_gtI, ifB_ltI, ifB_gtI, wadd_nat (by omega), hk () trivial, entE]
      by_cases hb : badEnt x
      · rw [if_pos hb]
        unfold badEnt at hb
        repeat' split
        all_goals first | rfl | (exfalso; omega)
      · rw [if_neg hb]
        unfold badEnt at hb
        repeat' split
        all_goals first | rfl | (exfalso; omega)
    · rintro _ _ k
      simp only [stepK_ifB, stepK_map]
      rw [ifB_ltI, lenI_eq, if_neg (by omega)]; rfl
  rw [hloop]
  simp only [ifB_ltI, ifB_gtI, ifB_eqI, ifB_neI, ifB_geI, lenI_eq]
  repeat' split
  all_goals first | rfl | (exfalso; omega)
end Go.Proofs.Y
namespace Go.Proofs.Y
open Go.Rb Go.Kx
noncomputable def C_equalP : Code := bodyOf Tryz.f44
noncomputable def G_equalP : FuncId → Option GS := tabG []
theorem g_equalP : ΓOK Tryz.prog G_equalP := ΓOK_nil
def H_equalP : HT := ⟨tabL [(4, .it [] (dyn [.t 13 (.int .i64)]))], tabH []⟩
abbrev is_equalP : List IT := [.v (.one (.sl 73 (.cons (.int .i64) (.one (.int .i64))))) false, .v (.one (.sl 73 (.cons (.int .i64) (.one (.int .i64))))) false]
abbrev os_equalP : List OT := [⟨.one .bool, false, []⟩]
set_option maxRecDepth 100000
noncomputable def F_equalP : List (Int × Int) → List (Int × Int) → Option Bool := fun (a b : List (Int × Int)) => ifB (neI (lenI a) (lenI b)) (some false) (loopN maxR (fun (x : Int) => ifB (ltI x (lenI a)) (bindO (atI a x) fun (y : Int × Int) => bindO (atI b x) fun (y_1 : Int × Int) => ifB (notB (eqL [y.1, y.2] [y_1.1, y_1.2])) (mapO Sum.inr (some false)) (some (Sum.inl (wadd .i64 x 1)))) (mapO Sum.inr (some true))) 0)
theorem F_equalP_eq (x : PI is_equalP) : F_equalP (x.1) (x.2) = fnE T G_equalP H_equalP C_equalP (resOf Tryz.f44) is_equalP os_equalP x := by kernel_rfl
noncomputable abbrev R_equalP : GS := mkSpec false is_equalP os_equalP fun x => F_equalP (x.1) (x.2)
theorem R_equalP_ok : GSOK Tryz.prog 44 R_equalP := spec_ok tok g_equalP fmo (Ht := H_equalP) (fn := Tryz.f44) (Tryz.func44) (c := C_equalP) (by kernel_rfl) (by kernel_rfl) (by kernel_rfl) (by decide +kernel) (by decide) F_equalP_eq
end Go.Proofs.Y
namespace Go.Proofs.Y
open Go.Rb Go.Kx
noncomputable def C_equalB : Code := bodyOf Tryz.f124
noncomputable def G_equalB : FuncId → Option GS := tabG []
theorem g_equalB : ΓOK Tryz.prog G_equalB := ΓOK_nil
def H_equalB : HT := ⟨tabL [(4, .it [] (dyn [.t 13 (.int .i64)]))], tabH []⟩
abbrev is_equalB : List IT := [.v (.one (.sl 4 (.one .bool))) false, .v (.one (.sl 4 (.one .bool))) false]
abbrev os_equalB : List OT := [⟨.one .bool, false, []⟩]
set_option maxRecDepth 100000
noncomputable def F_equalB : List Bool → List Bool → Option Bool := fun (a b : List Bool) => ifB (neI (lenI a) (lenI b)) (some false) (loopN maxR (fun (x : Int) => ifB (ltI x (lenI a)) (bindO (atI a x) fun (y : Bool) => bindO (atI b x) fun (y_1 : Bool) => ifB (notB (eqB y y_1)) (mapO Sum.inr (some false)) (some (Sum.inl (wadd .i64 x 1)))) (mapO Sum.inr (some true))) 0)
theorem F_equalB_eq (x : PI is_equalB) : F_equalB (x.1) (x.2) = fnE T G_equalB H_equalB C_equalB (resOf Tryz.f124) is_equalB os_equalB x := by kernel_rfl
noncomputable abbrev R_equalB : GS := mkSpec false is_equalB os_equalB fun x => F_equalB (x.1) (x.2)
theorem R_equalB_ok : GSOK Tryz.prog 124 R_equalB := spec_ok tok g_equalB fmo (Ht := H_equalB) (fn := Tryz.f124) (Tryz.func124) (c := C_equalB) (by kernel_rfl) (by kernel_rfl) (by kernel_rfl) (by decide +kernel) (by decide) F_equalB_eq
end Go.Proofs.Y
namespace Go.Proofs.Y
open Go.Rb Go.Kx
noncomputable def C_block_Same : Code := bodyOf Tryz.f92
noncomputable def G_block_Same : FuncId → Option GS := tabG [(124, R_equalB)]
theorem g_block_Same : ΓOK Tryz.prog G_block_Same := ΓOK_cons (R_equalB_ok) (ΓOK_nil)
def H_block_Same : HT := ⟨tabL [], tabH []⟩
abbrev is_block_Same : List IT := [.v (.cons (.int .i64) (.cons (.int .i64) (.cons (.int .i64) (.one (.sl 4 (.one .bool)))))) true, .v (.cons (.int .i64) (.cons (.int .i64) (.cons (.int .i64) (.one (.sl 4 (.one .bool)))))) true]
abbrev os_block_Same : List OT := [⟨.one .bool, false, []⟩]
set_option maxRecDepth 100000
noncomputable def F_block_Same : Int × Int × Int × List Bool → Int × Int × Int × List Bool → Option Bool := fun (a b : Int × Int × Int × List Bool) => ifB (eqI a.1 b.1) (ifB (eqI a.2.1 b.2.1) (ifB (eqI a.2.2.1 b.2.2.1) (bindO (F_equalB a.2.2.2 b.2.2.2) fun (y : Bool) => some y) (some false)) (some false)) (some false)
theorem F_block_Same_eq (x : PI is_block_Same) : F_block_Same (x.1) (x.2) = fnE T G_block_Same H_block_Same C_block_Same (resOf Tryz.f92) is_block_Same os_block_Same x := by kernel_rfl
noncomputable abbrev R_block_Same : GS := mkSpec false is_block_Same os_block_Same fun x => F_block_Same (x.1) (x.2)
theorem R_block_Same_ok : GSOK Tryz.prog 92 R_block_Same := spec_ok tok g_block_Same fmo (Ht := H_block_Same) (fn := Tryz.f92) (Tryz.func92) (c := C_block_Same) (by kernel_rfl) (by kernel_rfl) (by kernel_rfl) (by decide +kernel) (by decide) F_block_Same_eq
end Go.Proofs.Y
namespace Go.Proofs.Y
open Go.Rb Go.Kx
noncomputable def C_rainbookref_SameBlock : Code := bodyOf Tryz.f110
noncomputable def G_rainbookref_SameBlock : FuncId → Option GS := tabG [(124, R_equalB)]
theorem g_rainbookref_SameBlock : ΓOK Tryz.prog G_rainbookref_SameBlock := ΓOK_cons (R_equalB_ok) (ΓOK_nil)
def H_rainbookref_SameBlock : HT := ⟨tabL [], tabH []⟩
abbrev is_rainbookref_SameBlock : List IT := [.v (.cons (.int .i64) (.cons (.int .i64) (.cons (.int .i64) (.one (.sl 4 (.one .bool)))))) true, .v (.cons (.int .i64) (.cons (.int .i64) (.cons (.int .i64) (.one (.sl 4 (.one .bool)))))) true]
abbrev os_rainbookref_SameBlock : List OT := [⟨.one .bool, false, []⟩]
set_option maxRecDepth 100000
noncomputable def F_rainbookref_SameBlock : Int × Int × Int × List Bool → Int × Int × Int × List Bool → Option Bool := fun (a b : Int × Int × Int × List Bool) => ifB (eqI a.1 b.1) (ifB (eqI a.2.1 b.2.1) (ifB (eqI a.2.2.1 b.2.2.1) (bindO (F_equalB a.2.2.2 b.2.2.2) fun (y : Bool) => some y) (some false)) (some false)) (some false)
theorem F_rainbookref_SameBlock_eq (x : PI is_rainbookref_SameBlock) : F_rainbookref_SameBlock (x.1) (x.2) = fnE T G_rainbookref_SameBlock H_rainbookref_SameBlock C_rainbookref_SameBlock (resOf Tryz.f110) is_rainbookref_SameBlock os_rainbookref_SameBlock x := by kernel_rfl
noncomputable abbrev R_rainbookref_SameBlock : GS := mkSpec false is_rainbookref_SameBlock os_rainbookref_SameBlock fun x => F_rainbookref_SameBlock (x.1) (x.2)
theorem R_rainbookref_SameBlock_ok : GSOK Tryz.prog 110 R_rainbookref_SameBlock := spec_ok tok g_rainbookref_SameBlock fmo (Ht := H_rainbookref_SameBlock) (fn := Tryz.f110) (Tryz.func110) (c := C_rainbookref_SameBlock) (by kernel_rfl) (by kernel_rfl) (by kernel_rfl) (by decide +kernel) (by decide) F_rainbookref_SameBlock_eq
end Go.Proofs.Y
namespace Go.Proofs.Y
open Go.Rb Go.Kx
noncomputable def C_equalFuncB : Code := bodyOf Tryz.f91
noncomputable def G_equalFuncB : FuncId → Option GS := tabG [(92, R_block_Same), (110, R_rainbookref_SameBlock)]
theorem g_equalFuncB : ΓOK Tryz.prog G_equalFuncB := ΓOK_cons (R_block_Same_ok) (ΓOK_cons (R_rainbookref_SameBlock_ok) (ΓOK_nil))
def H_equalFuncB : HT := ⟨tabL [(4, .it [] (dyn [.t 17 (.int .i64)]))], tabH []⟩
noncomputable def I_equalFuncB : GS := inl T G_equalFuncB H_equalFuncB C_equalFuncB (resOf Tryz.f91) (Tryz.f91.ntmps)
theorem I_equalFuncB_ok : GSOK Tryz.prog 91 I_equalFuncB := inl_ok tok g_equalFuncB fmo (Ht := H_equalFuncB) (fn := Tryz.f91) (Tryz.func91) (c := C_equalFuncB) (by kernel_rfl) (by kernel_rfl) (by kernel_rfl)
end Go.Proofs.Y
namespace Go.Proofs.Y
open Go.Rb Go.Kx
noncomputable def C_shelf_Same_1 : Code := bodyOf Tryz.f90
noncomputable def G_shelf_Same_1 : FuncId → Option GS := tabG [(44, R_equalP), (91, I_equalFuncB), (92, R_block_Same)]
theorem g_shelf_Same_1 : ΓOK Tryz.prog G_shelf_Same_1 := ΓOK_cons (R_equalP_ok) (ΓOK_cons (I_equalFuncB_ok) (ΓOK_cons (R_block_Same_ok) (ΓOK_nil)))
def H_shelf_Same_1 : HT := ⟨tabL [], tabH []⟩
noncomputable def I_shelf_Same_1 : GS := inl T G_shelf_Same_1 H_shelf_Same_1 C_shelf_Same_1 (resOf Tryz.f90) (Tryz.f90.ntmps)
theorem I_shelf_Same_1_ok : GSOK Tryz.prog 90 I_shelf_Same_1 := inl_ok tok g_shelf_Same_1 fmo (Ht := H_shelf_Same_1) (fn := Tryz.f90) (Tryz.func90) (c := C_shelf_Same_1) (by kernel_rfl) (by kernel_rfl) (by kernel_rfl)
end Go.Proofs.Y
namespace Go.Proofs.Y
open Go.Rb Go.Kx
noncomputable def C_rainbookref_SameShelf_1 : Code := bodyOf Tryz.f109
noncomputable def G_rainbookref_SameShelf_1 : FuncId → Option GS := tabG [(91, I_equalFuncB), (110, R_rainbookref_SameBlock), (44, R_equalP)]
theorem g_rainbookref_SameShelf_1 : ΓOK Tryz.prog G_rainbookref_SameShelf_1 := ΓOK_cons (I_equalFuncB_ok) (ΓOK_cons (R_rainbookref_SameBlock_ok) (ΓOK_cons (R_equalP_ok) (ΓOK_nil)))
def H_rainbookref_SameShelf_1 : HT := ⟨tabL [], tabH []⟩
noncomputable def I_rainbookref_SameShelf_1 : GS := inl T G_rainbookref_SameShelf_1 H_rainbookref_SameShelf_1 C_rainbookref_SameShelf_1 (resOf Tryz.f109) (Tryz.f109.ntmps)
theorem I_rainbookref_SameShelf_1_ok : GSOK Tryz.prog 109 I_rainbookref_SameShelf_1 := inl_ok tok g_rainbookref_SameShelf_1 fmo (Ht := H_rainbookref_SameShelf_1) (fn := Tryz.f109) (Tryz.func109) (c := C_rainbookref_SameShelf_1) (by kernel_rfl) (by kernel_rfl) (by kernel_rfl)
end Go.Proofs.Y
namespace Go.Proofs.Y
open Go.Rb Go.Kx
noncomputable def C_equalFuncR : Code := bodyOf Tryz.f89
noncomputable def G_equalFuncR : FuncId → Option GS := tabG [(90, I_shelf_Same_1), (109, I_rainbookref_SameShelf_1)]
theorem g_equalFuncR : ΓOK Tryz.prog G_equalFuncR := ΓOK_cons (I_shelf_Same_1_ok) (ΓOK_cons (I_rainbookref_SameShelf_1_ok) (ΓOK_nil))
def H_equalFuncR : HT := ⟨tabL [(4, .it [] (dyn [.t 17 (.int .i64)]))], tabH []⟩
noncomputable def I_equalFuncR : GS := inl T G_equalFuncR H_equalFuncR C_equalFuncR (resOf Tryz.f89) (Tryz.f89.ntmps)
theorem I_equalFuncR_ok : GSOK Tryz.prog 89 I_equalFuncR := inl_ok tok g_equalFuncR fmo (Ht := H_equalFuncR) (fn := Tryz.f89) (Tryz.func89) (c := C_equalFuncR) (by kernel_rfl) (by kernel_rfl) (by kernel_rfl)
end Go.Proofs.Y
namespace Go.Proofs.Y
open Go.Rb Go.Kx
set_option maxRecDepth 100000
end Go.Proofs.Y
namespace Go.Proofs.Y
open Go.Rb Go.Kx
noncomputable def C_shelf_Same : Code := bodyOf Tryz.f35
noncomputable def G_shelf_Same : FuncId → Option GS := tabG [(89, I_equalFuncR), (90, I_shelf_Same_1)]
theorem g_shelf_Same : ΓOK Tryz.prog G_shelf_Same := ΓOK_cons (I_equalFuncR_ok) (ΓOK_cons (I_shelf_Same_1_ok) (ΓOK_nil))
def H_shelf_Same : HT := ⟨tabL [], tabH []⟩
abbrev is_shelf_Same : List IT := [.v (.one (.sl 95 (.cons (.sl 126 (.cons (.int .i64) (.cons (.int .i64) (.cons (.int .i64) (.one (.sl 4 (.one .bool))))))) (.one (.sl 73 (.cons (.int .i64) (.one (.int .i64)))))))) true, .v (.one (.sl 95 (.cons (.sl 126 (.cons (.int .i64) (.cons (.int .i64) (.cons (.int .i64) (.one (.sl 4 (.one .bool))))))) (.one (.sl 73 (.cons (.int .i64) (.one (.int .i64)))))))) true]
abbrev os_shelf_Same : List OT := [⟨.one .bool, false, []⟩]
set_option maxRecDepth 100000
noncomputable def F_shelf_Same : List (List (Int × Int × Int × List Bool) × List (Int × Int)) → List (List (Int × Int × Int × List Bool) × List (Int × Int)) → Option Bool := fun (a b : List (List (Int × Int × Int × List Bool) × List (Int × Int))) => ifB (neI (lenI a) (lenI b)) (some false) (loopN maxR (fun (x : Int) => ifB (ltI x (lenI a)) (bindO (atI a x) fun (y : List (Int × Int × Int × List Bool) × List (Int × Int)) => bindO (atI b x) fun (y_1 : List (Int × Int × Int × List Bool) × List (Int × Int)) => bindO (F_equalP y.2 y_1.2) fun (y_2 : Bool) => ifB y_2 (ifB (neI (lenI y.1) (lenI y_1.1)) (mapO Sum.inr (some false)) (loopN maxR (fun (x_1 : Int) => ifB (ltI x_1 (lenI y.1)) (bindO (atI y.1 x_1) fun (y : Int × Int × Int × List Bool) => bindO (atI y_1.1 x_1) fun (y_3 : Int × Int × Int × List Bool) => bindO (F_block_Same (y.1, y.2.1, y.2.2.1, y.2.2.2) (y_3.1, y_3.2.1, y_3.2.2.1, y_3.2.2.2)) fun (y : Bool) => ifB (notB y) (mapO Sum.inr (mapO Sum.inr (some false))) (some (Sum.inl (wadd .i64 x_1 1)))) (mapO Sum.inr (some (Sum.inl (wadd .i64 x 1))))) 0)) (mapO Sum.inr (some false))) (mapO Sum.inr (some true))) 0)
theorem F_shelf_Same_eq (x : PI is_shelf_Same) : F_shelf_Same (x.1) (x.2) = fnE T G_shelf_Same H_shelf_Same C_shelf_Same (resOf Tryz.f35) is_shelf_Same os_shelf_Same x := by kernel_rfl
noncomputable abbrev R_shelf_Same : GS := mkSpec false is_shelf_Same os_shelf_Same fun x => F_shelf_Same (x.1) (x.2)
theorem R_shelf_Same_ok : GSOK Tryz.prog 35 R_shelf_Same := spec_ok tok g_shelf_Same fmo (Ht := H_shelf_Same) (fn := Tryz.f35) (Tryz.func35) (c := C_shelf_Same) (by kernel_rfl) (by kernel_rfl) (by kernel_rfl) (by decide +kernel) (by decide) F_shelf_Same_eq
end Go.Proofs.Y
namespace Go.Proofs.Y
open Go.Rb Go.Kx
noncomputable def C_rainbooklaw_at : Code := bodyOf Tryz.f30
noncomputable def G_rainbooklaw_at : FuncId → Option GS := tabG []
theorem g_rainbooklaw_at : ΓOK Tryz.prog G_rainbooklaw_at := ΓOK_nil
def H_rainbooklaw_at : HT := ⟨tabL [], tabH []⟩
abbrev is_rainbooklaw_at : List IT := [.v (.one (.int .i64)) false, .v (.one (.int .i64)) false]
abbrev os_rainbooklaw_at : List OT := [⟨.one (.int .i64), false, []⟩]
set_option maxRecDepth 100000
noncomputable def F_rainbooklaw_at : Int → Int → Option Int := fun (a b : Int) => ifB (eqI b 0) none (ifB (ltI (wrem a b) 0) (some (wadd .i64 (wrem a b) b)) (some (wrem a b)))
theorem F_rainbooklaw_at_eq (x : PI is_rainbooklaw_at) : F_rainbooklaw_at (x.1) (x.2) = fnE T G_rainbooklaw_at H_rainbooklaw_at C_rainbooklaw_at (resOf Tryz.f30) is_rainbooklaw_at os_rainbooklaw_at x := by kernel_rfl
noncomputable abbrev R_rainbooklaw_at : GS := mkSpec false is_rainbooklaw_at os_rainbooklaw_at fun x => F_rainbooklaw_at (x.1) (x.2)
theorem R_rainbooklaw_at_ok : GSOK Tryz.prog 30 R_rainbooklaw_at := spec_ok tok g_rainbooklaw_at fmo (Ht := H_rainbooklaw_at) (fn := Tryz.f30) (Tryz.func30) (c := C_rainbooklaw_at) (by kernel_rfl) (by kernel_rfl) (by kernel_rfl) (by decide +kernel) (by decide) F_rainbooklaw_at_eq
end Go.Proofs.Y
namespace Go.Proofs.Y
open Go.Rb Go.Kx
noncomputable def C_shelf_All : Code := bodyOf Tryz.f48
noncomputable def G_shelf_All : FuncId → Option GS := tabG [(78, R_shelf_Check), (97, R_shelf_all)]
theorem g_shelf_All : ΓOK Tryz.prog G_shelf_All := ΓOK_cons (R_shelf_Check_ok) (ΓOK_cons (R_shelf_all_ok) (ΓOK_nil))
def H_shelf_All : HT := ⟨tabL [], tabH []⟩
abbrev is_shelf_All : List IT := [.v (.one (.sl 95 (.cons (.sl 126 (.cons (.int .i64) (.cons (.int .i64) (.cons (.int .i64) (.one (.sl 4 (.one .bool))))))) (.one (.sl 73 (.cons (.int .i64) (.one (.int .i64)))))))) true, .v (.one (.int .i64)) false]
abbrev os_shelf_All : List OT := [⟨.one (.sl 73 (.cons (.int .i64) (.one (.int .i64)))), false, [true]⟩, ⟨.one (.int .i64), false, []⟩]
set_option maxRecDepth 100000
noncomputable def F_shelf_All : List (List (Int × Int × Int × List Bool) × List (Int × Int)) → Int → Option (List (Int × Int) × Int) := fun (a : List (List (Int × Int × Int × List Bool) × List (Int × Int))) (b : Int) => bindO (F_shelf_Check a) fun (y : Int) => ifB (neI y 0) (some ([], y)) (ifB (ltI b 0) (some ([], 5)) (ifB (geI b (lenI a)) (some ([], 5)) (bindO (atI a b) fun (y : List (Int × Int × Int × List Bool) × List (Int × Int)) => bindO (F_shelf_all (y.1, y.2)) fun (y : List (Int × Int) × Int) => some (y.1, y.2))))
theorem F_shelf_All_eq (x : PI is_shelf_All) : F_shelf_All (x.1) (x.2) = fnE T G_shelf_All H_shelf_All C_shelf_All (resOf Tryz.f48) is_shelf_All os_shelf_All x := by kernel_rfl
noncomputable abbrev R_shelf_All : GS := mkSpec false is_shelf_All os_shelf_All fun x => F_shelf_All (x.1) (x.2)
theorem R_shelf_All_ok : GSOK Tryz.prog 48 R_shelf_All := spec_ok tok g_shelf_All fmo (Ht := H_shelf_All) (fn := Tryz.f48) (Tryz.func48) (c := C_shelf_All) (by kernel_rfl) (by kernel_rfl) (by kernel_rfl) (by decide +kernel) (by decide) F_shelf_All_eq
end Go.Proofs.Y
namespace Go.Proofs.Y
open Go.Rb Go.Kx
noncomputable def C_query_Range_1 : Code := bodyOf Tryz.f96
noncomputable def G_query_Range_1 : FuncId → Option GS := tabG []
theorem g_query_Range_1 : ΓOK Tryz.prog G_query_Range_1 := ΓOK_nil
def H_query_Range_1 : HT := ⟨tabL [], tabH []⟩
noncomputable def I_query_Range_1 : GS := inl T G_query_Range_1 H_query_Range_1 C_query_Range_1 (resOf Tryz.f96) (Tryz.f96.ntmps)
theorem I_query_Range_1_ok : GSOK Tryz.prog 96 I_query_Range_1 := inl_ok tok g_query_Range_1 fmo (Ht := H_query_Range_1) (fn := Tryz.f96) (Tryz.func96) (c := C_query_Range_1) (by kernel_rfl) (by kernel_rfl) (by kernel_rfl)
end Go.Proofs.Y
namespace Go.Proofs.Y
open Go.Rb Go.Kx
noncomputable def C_indexFuncP : Code := bodyOf Tryz.f125
noncomputable def G_indexFuncP : FuncId → Option GS := tabG [(96, I_query_Range_1)]
theorem g_indexFuncP : ΓOK Tryz.prog G_indexFuncP := ΓOK_cons (I_query_Range_1_ok) (ΓOK_nil)
def H_indexFuncP : HT := ⟨tabL [(2, .it [] (dyn [.t 8 (.int .i64)]))], tabH []⟩
noncomputable def I_indexFuncP : GS := inl T G_indexFuncP H_indexFuncP C_indexFuncP (resOf Tryz.f125) (Tryz.f125.ntmps)
theorem I_indexFuncP_ok : GSOK Tryz.prog 125 I_indexFuncP := inl_ok tok g_indexFuncP fmo (Ht := H_indexFuncP) (fn := Tryz.f125) (Tryz.func125) (c := C_indexFuncP) (by kernel_rfl) (by kernel_rfl) (by kernel_rfl)
end Go.Proofs.Y
namespace Go.Proofs.Y
open Go.Rb Go.Kx
noncomputable def C_deleteFuncP : Code := bodyOf Tryz.f95
noncomputable def G_deleteFuncP : FuncId → Option GS := tabG [(125, I_indexFuncP), (96, I_query_Range_1)]
theorem g_deleteFuncP : ΓOK Tryz.prog G_deleteFuncP := ΓOK_cons (I_indexFuncP_ok) (ΓOK_cons (I_query_Range_1_ok) (ΓOK_nil))
def H_deleteFuncP : HT := ⟨tabL [(5, .it [] (dyn [.t 5 (.int .i64), .t 6 (.int .i64), .a 0 73 (.cons (.int .i64) (.one (.int .i64)))]))], tabH [(5, [.touch 0])]⟩
noncomputable def I_deleteFuncP : GS := inl T G_deleteFuncP H_deleteFuncP C_deleteFuncP (resOf Tryz.f95) (Tryz.f95.ntmps)
theorem I_deleteFuncP_ok : GSOK Tryz.prog 95 I_deleteFuncP := inl_ok tok g_deleteFuncP fmo (Ht := H_deleteFuncP) (fn := Tryz.f95) (Tryz.func95) (c := C_deleteFuncP) (by kernel_rfl) (by kernel_rfl) (by kernel_rfl)
end Go.Proofs.Y
namespace Go.Proofs.Y
open Go.Rb Go.Kx
noncomputable def C_query_Range : Code := bodyOf Tryz.f46
noncomputable def G_query_Range : FuncId → Option GS := tabG [(48, R_shelf_All), (96, I_query_Range_1), (95, I_deleteFuncP)]
theorem g_query_Range : ΓOK Tryz.prog G_query_Range := ΓOK_cons (R_shelf_All_ok) (ΓOK_cons (I_query_Range_1_ok) (ΓOK_cons (I_deleteFuncP_ok) (ΓOK_nil)))
def H_query_Range : HT := ⟨tabL [], tabH []⟩
abbrev is_query_Range : List IT := [.v (.one (.sl 95 (.cons (.sl 126 (.cons (.int .i64) (.cons (.int .i64) (.cons (.int .i64) (.one (.sl 4 (.one .bool))))))) (.one (.sl 73 (.cons (.int .i64) (.one (.int .i64)))))))) true, .v (.one (.int .i64)) false, .v (.one (.int .i64)) false, .v (.one (.int .i64)) false]
abbrev os_query_Range : List OT := [⟨.one (.sl 73 (.cons (.int .i64) (.one (.int .i64)))), false, []⟩, ⟨.one (.int .i64), false, []⟩]
set_option maxRecDepth 100000
noncomputable def F_query_Range : List (List (Int × Int × Int × List Bool) × List (Int × Int)) → Int → Int → Int → Option (List (Int × Int) × Int) := fun (a : List (List (Int × Int × Int × List Bool) × List (Int × Int))) (b c d : Int) => bindO (F_shelf_All a b) fun (y : List (Int × Int) × Int) => ifB (neI y.2 0) (some ([], y.2)) (loopN maxR (fun (x : Int) => ifB (ltI x (lenI y.1)) (ifB (ltL x y.1) (bindO (atN y.1 (natI x)) fun (y_1 : Int × Int) => ifB (ltI y_1.1 c) (mapO Sum.inr (ifB (eqI x (-1)) (some (y.1, 0)) (loopN maxR (fun (x : Int × Int × List (Int × Int)) => ifB (ltI x.2.1 (lenI x.2.2)) (ifB (ltL x.2.1 x.2.2) (bindO (atN x.2.2 (natI x.2.1)) fun (y : Int × Int) => ifB (ltI y.1 c) (some (Sum.inl (x.1, wadd .i64 x.2.1 1, x.2.2))) (ifB (notB (geI y.1 d)) (ifB (ltL x.1 x.2.2) (bindO (atN x.2.2 (natI x.1)) fun (y_2 : Int × Int) => some (Sum.inl (wadd .i64 x.1 1, wadd .i64 x.2.1 1, setN x.2.2 (natI x.1) (y.1, y.2)))) none) (some (Sum.inl (x.1, wadd .i64 x.2.1 1, x.2.2))))) none) (mapO Sum.inr (ifB (in1 x.2.2 x.1) (ifB (inN x.2.2 (addN 0 (natI x.1)) (subNI (lenN x.2.2) x.1)) (ifB (in1 (overN x.2.2 (addN 0 (natI x.1)) (repN (subNI (lenN x.2.2) x.1) (0, 0))) x.1) (ifB (inN (overN x.2.2 (addN 0 (natI x.1)) (repN (subNI (lenN x.2.2) x.1) (0, 0))) 0 (natI x.1)) (some (subN (overN x.2.2 (addN 0 (natI x.1)) (repN (subNI (lenN x.2.2) x.1) (0, 0))) 0 (natI x.1), 0)) none) none) none) none))) (x, wadd .i64 x 1, y.1)))) (ifB (geI y_1.1 d) (mapO Sum.inr (ifB (eqI x (-1)) (some (y.1, 0)) (loopN maxR (fun (x : Int × Int × List (Int × Int)) => ifB (ltI x.2.1 (lenI x.2.2)) (ifB (ltL x.2.1 x.2.2) (bindO (atN x.2.2 (natI x.2.1)) fun (y : Int × Int) => ifB (ltI y.1 c) (some (Sum.inl (x.1, wadd .i64 x.2.1 1, x.2.2))) (ifB (notB (geI y.1 d)) (ifB (ltL x.1 x.2.2) (bindO (atN x.2.2 (natI x.1)) fun (y_2 : Int × Int) => some (Sum.inl (wadd .i64 x.1 1, wadd .i64 x.2.1 1, setN x.2.2 (natI x.1) (y.1, y.2)))) none) (some (Sum.inl (x.1, wadd .i64 x.2.1 1, x.2.2))))) none) (mapO Sum.inr (ifB (in1 x.2.2 x.1) (ifB (inN x.2.2 (addN 0 (natI x.1)) (subNI (lenN x.2.2) x.1)) (ifB (in1 (overN x.2.2 (addN 0 (natI x.1)) (repN (subNI (lenN x.2.2) x.1) (0, 0))) x.1) (ifB (inN (overN x.2.2 (addN 0 (natI x.1)) (repN (subNI (lenN x.2.2) x.1) (0, 0))) 0 (natI x.1)) (some (subN (overN x.2.2 (addN 0 (natI x.1)) (repN (subNI (lenN x.2.2) x.1) (0, 0))) 0 (natI x.1), 0)) none) none) none) none))) (x, wadd .i64 x 1, y.1)))) (some (Sum.inl (wadd .i64 x 1))))) none) (mapO Sum.inr (some (y.1, 0)))) 0)
theorem F_query_Range_eq (x : PI is_query_Range) : F_query_Range (x.1) (x.2.1) (x.2.2.1) (x.2.2.2) = fnE T G_query_Range H_query_Range C_query_Range (resOf Tryz.f46) is_query_Range os_query_Range x := by kernel_rfl
noncomputable abbrev R_query_Range : GS := mkSpec false is_query_Range os_query_Range fun x => F_query_Range (x.1) (x.2.1) (x.2.2.1) (x.2.2.2)
theorem R_query_Range_ok : GSOK Tryz.prog 46 R_query_Range := spec_ok tok g_query_Range fmo (Ht := H_query_Range) (fn := Tryz.f46) (Tryz.func46) (c := C_query_Range) (by kernel_rfl) (by kernel_rfl) (by kernel_rfl) (by decide +kernel) (by decide) F_query_Range_eq
end Go.Proofs.Y
namespace Go.Proofs.Y
open Go.Rb Go.Kx
set_option maxRecDepth 100000
end Go.Proofs.Y
namespace Go.Rb
def bitAt (n : Int) (k : Nat) : Bool := n / 2 ^ k % 2 == 1
def bitsN (w : Nat) (n : Int) : List Bool := (List.range w).map fun j => bitAt n (w - 1 - j)
def putOk (n w : Int) : Prop := 0 ≤ w ∧ w ≤ 40 ∧ 0 ≤ n ∧ n < 2 ^ w.toNat
instance (n w : Int) : Decidable (putOk n w) := by unfold putOk; infer_instance
def putR (l : List Bool) (n w : Int) : List Bool × Int := if putOk n w then (l ++ bitsN w.toNat n, 0) else ([], 3)
def val (l : List Bool) : Int := l.foldl (fun n b => 2 * n + (if b then 1 else 0)) 0
def readR (l : List Bool) (w : Int) : Int × Int := if w < 0 ∨ w > 40 then (0, 3) else if (l.length : Int) < w then (0, 8) else (val (l.take w.toNat), 0)
theorem bitsN_len (w : Nat) (n : Int) : (bitsN w n).length = w := by simp [bitsN]
theorem bitsN_get {w : Nat} {n : Int} {j : Nat} (h : j < w) : (bitsN w n).getD j default = bitAt n (w - 1 - j) := by
  simp [bitsN, List.getD, h]
theorem pow_pos' (k : Nat) : (0 : Int) < 2 ^ k := Int.pow_pos (by omega)
theorem and_oneI {a : Int} (h0 : 0 ≤ a) (h1 : a ≤ 9223372036854775807) : IntKind.wrap .i64 ((BitVec.ofInt (IntKind.i64.bits) a &&& BitVec.ofInt (IntKind.i64.bits) 1).toNat : Int) = a % 2 := by
  have hb : IntKind.i64.bits = 64 := rfl
  rw [hb]
  obtain ⟨m, rfl⟩ : ∃ m : Nat, a = (m : Int) := ⟨a.toNat, by omega⟩
  have h2 : (BitVec.ofInt 64 (m : Int)).toNat = m := by
    simp only [BitVec.toNat_ofInt]
    omega
  have h3 : (BitVec.ofInt 64 (1 : Int)).toNat = 1 := by decide
  rw [BitVec.toNat_and, h2, h3, Nat.and_one_is_mod, wr_id (by omega) (by omega)]
  omega
theorem fdiv_pow {a : Int} (h0 : 0 ≤ a) (k : Nat) : a.fdiv (2 ^ k) = a / 2 ^ k := Int.fdiv_eq_ediv_of_nonneg a (by have := pow_pos' k; omega)
theorem div_pow_le {a : Int} (h0 : 0 ≤ a) (k : Nat) : 0 ≤ a / 2 ^ k ∧ a / 2 ^ k ≤ a := by
  have := pow_pos' k
  refine ⟨Int.ediv_nonneg h0 (by omega), Int.ediv_le_self _ h0⟩
theorem shr_zero {n : Int} {w : Nat} (h0 : 0 ≤ n) : n / 2 ^ w = 0 ↔ n < 2 ^ w := by
  have h1 := pow_pos' w
  constructor
  · intro h
    have := Int.lt_ediv_add_one_mul_self n h1
    rw [h] at this
    omega
  · intro h
    exact Int.ediv_eq_zero_of_lt h0 h
theorem val_snoc (l : List Bool) (b : Bool) : val (l ++ [b]) = 2 * val l + (if b then 1 else 0) := by simp [val]
theorem val_bound : ∀ (l : List Bool), 0 ≤ val l ∧ val l < 2 ^ l.length := by
  intro l
  have key : ∀ (l : List Bool) (a : Int) (k : Nat), 0 ≤ a → a < 2 ^ k → 0 ≤ l.foldl (fun n b => 2 * n + (if b then 1 else 0)) a ∧ l.foldl (fun n b => 2 * n + (if b then 1 else 0)) a < 2 ^ (k + l.length) := by
    intro l
    induction l with
    | nil => intro a k h0 h1; exact ⟨h0, h1⟩
    | cons b l ih =>
      intro a k h0 h1
      rw [List.foldl_cons, List.length_cons, show k + (l.length + 1) = (k + 1) + l.length from by omega]
      refine ih _ (k + 1) ?_ ?_
      · split <;> omega
      · rw [Int.pow_succ]
        split <;> omega
  have := key l 0 0 (by omega) (by decide)
  simpa [val] using this
end Go.Rb
namespace Go.Rb
theorem pow_mono {a b : Nat} (h : a ≤ b) : (2 : Int) ^ a ≤ 2 ^ b := by
  have := Nat.pow_le_pow_right (n := 2) (by omega) h
  exact_mod_cast this
theorem pow40 {k : Nat} (h : k ≤ 40) : 0 < (2 : Int) ^ k ∧ (2 : Int) ^ k ≤ 1099511627776 := ⟨pow_pos' k, pow_mono (b := 40) h⟩
end Go.Rb
namespace Go.Rb
theorem bitsN_succ (w : Nat) (n : Int) : bitsN (w + 1) n = bitsN w (n / 2) ++ [bitAt n 0] := by
  apply List.ext_getElem
  · simp [bitsN_len]
  · intro i h1 h2
    rw [List.getElem_append]
    rw [bitsN_len] at h1
    split
    · rename_i h3
      rw [bitsN_len] at h3
      simp only [bitsN, List.getElem_map, List.getElem_range, bitAt]
      rw [Int.ediv_ediv_of_nonneg (by omega), show w + 1 - 1 - i = (w - 1 - i) + 1 from by omega, Int.pow_succ, Int.mul_comm]
    · rename_i h3
      rw [bitsN_len] at h3
      have hi : i = w := by omega
      subst hi
      simp [bitsN, bitsN_len]
theorem val_bitsN : ∀ (w : Nat) (n : Int), 0 ≤ n → n < 2 ^ w → val (bitsN w n) = n
  | 0, n, h0, h1 => by
    have : n = 0 := by simp at h1; omega
    subst this; rfl
  | w + 1, n, h0, h1 => by
    rw [Int.pow_succ] at h1
    rw [bitsN_succ, val_snoc, val_bitsN w (n / 2) (by omega) (by omega)]
    simp only [bitAt, Int.pow_zero, Int.ediv_one]
    by_cases h : n % 2 = 1
    · simp [h]; omega
    · simp [h]; omega
theorem bitsN_val : ∀ l : List Bool, bitsN l.length (val l) = l := by
  intro l
  induction h : l.length generalizing l with
  | zero => rw [List.length_eq_zero_iff] at h; subst h; rfl
  | succ w ih =>
    have hl : l ≠ [] := by intro h0; subst h0; simp at h
    rw [bitsN_succ]
    obtain ⟨k, b, rfl⟩ : ∃ k b, l = k ++ [b] := ⟨l.dropLast, l.getLast hl, (List.dropLast_concat_getLast hl).symm⟩
    have hk : k.length = w := by simpa using h
    rw [val_snoc]
    have e1 : (2 * val k + (if b then 1 else 0)) / 2 = val k := by cases b <;> simp <;> omega
    have e2 : bitAt (2 * val k + (if b then 1 else 0)) 0 = b := by
      simp only [bitAt, Int.pow_zero, Int.ediv_one]
      cases b
      · simp
      · simp only [if_true, beq_iff_eq]; omega
    rw [e1, e2, ih k hk]
/-! ### Numbers one after the other -/
end Go.Rb
namespace Go.Rb
def foldN (v : Int) : Int := if v < 0 then -2 * v - 1 else 2 * v
theorem foldN_or (v : Int) : (v < 0 ∧ foldN v = -2 * v - 1) ∨ (0 ≤ v ∧ foldN v = 2 * v) := by unfold foldN; split <;> omega
def unf (n : Int) : Int := if n % 2 = 1 then (-(n + 1)).tdiv 2 else n.tdiv 2
theorem unf_or {n : Int} (h : 0 ≤ n) : (n % 2 = 1 ∧ unf n = -(n / 2 + 1) ∧ (0 - (n + 1)).tdiv 2 = unf n) ∨ (n % 2 = 0 ∧ unf n = n / 2 ∧ n.tdiv 2 = unf n) := by
  unfold unf
  have h1 : n.tdiv 2 = n / 2 := Int.tdiv_eq_ediv_of_nonneg h
  have h2 : (-(n + 1)).tdiv 2 = -((n + 1) / 2) := by rw [Int.neg_tdiv, Int.tdiv_eq_ediv_of_nonneg (by omega)]
  split
  · left; refine ⟨by assumption, ?_, by rw [Int.zero_sub]⟩; rw [h2]; omega
  · right; refine ⟨by omega, h1, rfl⟩
theorem unf_fold (v : Int) : unf (foldN v) = v := by
  have h := foldN_or v
  have h1 := unf_or (n := foldN v) (by omega)
  omega
theorem fold_unf {n : Int} (h : 0 ≤ n) : foldN (unf n) = n := by
  have h1 := unf_or h
  have h2 := foldN_or (unf n)
  omega
theorem pow8 {k : Nat} (h : k ≤ 8) : 1 ≤ (8 : Int) ^ k ∧ (8 : Int) ^ k ≤ 16777216 := by
  have h1 : (8 : Int) ^ k ≤ 8 ^ 8 := by
    have := Nat.pow_le_pow_right (n := 8) (by omega) h
    exact_mod_cast this
  have h2 : (0 : Int) < 8 ^ k := Int.pow_pos (by omega)
  exact ⟨by omega, h1⟩
def zenc : Nat → Int → List Bool
  | 0, _ => []
  | f + 1, m => bitsN 4 ((if m ≥ 8 then 8 else 0) + m % 8) ++ (if m ≥ 8 then zenc f (m / 8) else [])
theorem zenc_last {f : Nat} {m : Int} (hf : 1 ≤ f) (h : m < 8) : zenc f m = bitsN 4 (0 + m % 8) := by
  obtain ⟨g, rfl⟩ : ∃ g, f = g + 1 := ⟨f - 1, by omega⟩
  rw [zenc, if_neg (by omega), if_neg (by omega), List.append_nil]
theorem zenc_more {f : Nat} {m : Int} (hf : 1 ≤ f) (h : 8 ≤ m) : zenc f m = bitsN 4 (8 + m % 8) ++ zenc (f - 1) (m / 8) := by
  obtain ⟨g, rfl⟩ : ∃ g, f = g + 1 := ⟨f - 1, by omega⟩
  rw [zenc, if_pos h, if_pos h]; rfl
theorem zenc_len : ∀ (f : Nat) (m : Int), (zenc f m).length ≤ 4 * f
  | 0, _ => by simp [zenc]
  | f + 1, m => by
    have := zenc_len f (m / 8)
    rw [zenc, List.length_append, bitsN_len]
    split
    · omega
    · simp; omega
theorem div8_lt {m : Int} {f : Nat} (h : m < 8 ^ f) (h8 : 8 ≤ m) : 2 ≤ f ∧ m / 8 < 8 ^ (f - 1) := by
  match f, h with
  | 0, h => simp at h; omega
  | 1, h => simp at h; omega
  | f + 2, h =>
    refine ⟨by omega, ?_⟩
    rw [Int.pow_succ] at h
    show m / 8 < 8 ^ (f + 1)
    omega
def zputR (l : List Bool) (v : Int) : List Bool × Int := if v < -4000000 ∨ v > 4000000 then ([], 3) else (l ++ zenc 8 (foldN v), 0)
theorem put4 (k : List Bool) {n : Int} (h0 : 0 ≤ n) (h1 : n < 16) : putR k n 4 = (k ++ bitsN 4 n, 0) := by
  unfold putR
  rw [if_pos ⟨by omega, by omega, h0, by simpa using h1⟩]; rfl
theorem putm {k : List Bool} {m : Int} (h : 0 ≤ m) : putR k (8 + m % 8) 4 = (k ++ bitsN 4 (8 + m % 8), 0) ∧ putR k (0 + m % 8) 4 = (k ++ bitsN 4 (0 + m % 8), 0) :=
  ⟨put4 k (by omega) (by omega), put4 k (by omega) (by omega)⟩
/-! ### Reading -/
def zread : Nat → Nat → Int → Int → List Bool → Int × Int × Int
  | 0, _, _, _, _ => (0, 0, 3)
  | f + 1, k, n, sc, l =>
    if l.length < 4 then (0, 0, 8) else
    if (readR l 4).1 = 0 ∧ k > 0 then (0, 0, 4) else
    if n + (readR l 4).1 % 8 * sc > 8000000 then (0, 0, 3) else
    if (readR l 4).1 < 8 then (unf (n + (readR l 4).1 % 8 * sc), 4 * (k : Int) + 4, 0) else zread f (k + 1) (n + (readR l 4).1 % 8 * sc) (sc * 8) (l.drop 4)
def zreadR (l : List Bool) : Int × Int × Int := zread 8 0 0 1 l
theorem rd4 (d : List Bool) : (d.length < 4 ∧ (readR d 4).1 = 0 ∧ (readR d 4).2 = 8) ∨ (4 ≤ d.length ∧ (readR d 4).1 = val (d.take 4) ∧ (readR d 4).2 = 0 ∧ 0 ≤ (readR d 4).1 ∧ (readR d 4).1 < 16) := by
  unfold readR
  rw [if_neg (by omega)]
  by_cases h : (d.length : Int) < 4
  · rw [if_pos h]; left; exact ⟨by omega, rfl, rfl⟩
  · rw [if_neg h]
    have h1 := val_bound (d.take 4)
    rw [List.length_take, Nat.min_eq_left (by omega)] at h1
    right; exact ⟨by omega, rfl, rfl, h1.1, by simpa using h1.2⟩
section
variable {f k : Nat} {n sc : Int} {l : List Bool}
theorem zr_torn (hf : 1 ≤ f) (h : l.length < 4) : zread f k n sc l = (0, 0, 8) := by
  obtain ⟨g, rfl⟩ : ∃ g, f = g + 1 := ⟨f - 1, by omega⟩
  rw [zread, if_pos h]
theorem zr_form (hf : 1 ≤ f) (h : 4 ≤ l.length) (h0 : (readR l 4).1 = 0) (hk : 0 < k) : zread f k n sc l = (0, 0, 4) := by
  obtain ⟨g, rfl⟩ : ∃ g, f = g + 1 := ⟨f - 1, by omega⟩
  rw [zread, if_neg (by omega), if_pos ⟨h0, hk⟩]
theorem zr_range (hf : 1 ≤ f) (h : 4 ≤ l.length) (h0 : ¬ ((readR l 4).1 = 0 ∧ 0 < k)) (h1 : n + (readR l 4).1 % 8 * sc > 8000000) : zread f k n sc l = (0, 0, 3) := by
  obtain ⟨g, rfl⟩ : ∃ g, f = g + 1 := ⟨f - 1, by omega⟩
  rw [zread, if_neg (by omega), if_neg h0, if_pos h1]
theorem zr_done (hf : 1 ≤ f) (h : 4 ≤ l.length) (h0 : ¬ ((readR l 4).1 = 0 ∧ 0 < k)) (h1 : ¬ n + (readR l 4).1 % 8 * sc > 8000000) (h2 : (readR l 4).1 < 8) : zread f k n sc l = (unf (n + (readR l 4).1 % 8 * sc), 4 * (k : Int) + 4, 0) := by
  obtain ⟨g, rfl⟩ : ∃ g, f = g + 1 := ⟨f - 1, by omega⟩
  rw [zread, if_neg (by omega), if_neg h0, if_neg h1, if_pos h2]
theorem zr_next (hf : 1 ≤ f) (h : 4 ≤ l.length) (h0 : ¬ ((readR l 4).1 = 0 ∧ 0 < k)) (h1 : ¬ n + (readR l 4).1 % 8 * sc > 8000000) (h2 : ¬ (readR l 4).1 < 8) : zread f k n sc l = zread (f - 1) (k + 1) (n + (readR l 4).1 % 8 * sc) (sc * 8) (l.drop 4) := by
  obtain ⟨g, rfl⟩ : ∃ g, f = g + 1 := ⟨f - 1, by omega⟩
  rw [zread, if_neg (by omega), if_neg h0, if_neg h1, if_neg h2]; rfl
end
theorem mul_bd {a b c : Int} (h0 : 0 ≤ a) (h1 : a ≤ 7) (h2 : 0 ≤ b) (h3 : b ≤ c) : 0 ≤ a * b ∧ a * b ≤ 7 * c := by
  refine ⟨Int.mul_nonneg h0 h2, ?_⟩
  have h4 : a * b ≤ 7 * b := Int.mul_le_mul_of_nonneg_right h1 h2
  omega
theorem zread_ok : ∀ (f k : Nat) (n sc : Int) (l : List Bool), (zread f k n sc l).2.2 = 0 → 4 * (k : Int) ≤ (zread f k n sc l).2.1 ∧ (zread f k n sc l).2.1 ≤ 4 * (k : Int) + l.length
  | 0, k, n, sc, l, h => by simp [zread] at h
  | f + 1, k, n, sc, l, h => by
    by_cases h1 : l.length < 4
    · rw [zr_torn (by omega) h1] at h; simp at h
    · by_cases h2 : (readR l 4).1 = 0 ∧ 0 < k
      · rw [zr_form (by omega) (by omega) h2.1 h2.2] at h; simp at h
      · by_cases h3 : n + (readR l 4).1 % 8 * sc > 8000000
        · rw [zr_range (by omega) (by omega) h2 h3] at h; simp at h
        · by_cases h4 : (readR l 4).1 < 8
          · rw [zr_done (by omega) (by omega) h2 h3 h4]; simp only; omega
          · rw [zr_next (by omega) (by omega) h2 h3 h4] at h ⊢
            have := zread_ok _ _ _ _ _ h
            rw [List.length_drop] at this
            simp only [Nat.add_sub_cancel] at this ⊢
            push_cast at this
            omega
theorem zread_bad : ∀ (f k : Nat) (n sc : Int) (l : List Bool), ¬ (zread f k n sc l).2.2 = 0 → (zread f k n sc l).1 = 0 ∧ (zread f k n sc l).2.1 = 0
  | 0, k, n, sc, l, h => ⟨rfl, rfl⟩
  | f + 1, k, n, sc, l, h => by
    by_cases h1 : l.length < 4
    · rw [zr_torn (by omega) h1]; exact ⟨rfl, rfl⟩
    · by_cases h2 : (readR l 4).1 = 0 ∧ 0 < k
      · rw [zr_form (by omega) (by omega) h2.1 h2.2]; exact ⟨rfl, rfl⟩
      · by_cases h3 : n + (readR l 4).1 % 8 * sc > 8000000
        · rw [zr_range (by omega) (by omega) h2 h3]; exact ⟨rfl, rfl⟩
        · by_cases h4 : (readR l 4).1 < 8
          · rw [zr_done (by omega) (by omega) h2 h3 h4] at h; simp at h
          · rw [zr_next (by omega) (by omega) h2 h3 h4] at h ⊢
            exact zread_bad _ _ _ _ _ h
theorem zreadR_ok {l : List Bool} (h : (zreadR l).2.2 = 0) : 0 ≤ (zreadR l).2.1 ∧ (zreadR l).2.1 ≤ l.length := by
  have := zread_ok 8 0 0 1 l h
  unfold zreadR
  omega
theorem zreadR_bad {l : List Bool} (h : ¬ (zreadR l).2.2 = 0) : (zreadR l).1 = 0 ∧ (zreadR l).2.1 = 0 := zread_bad 8 0 0 1 l h
def ztakeR (l : List Bool) : Int × List Bool × Int := ((zreadR l).1, (if (zreadR l).2.2 = 0 then l.drop (zreadR l).2.1.toNat else []), (zreadR l).2.2)
/-! ### The document's way -/
/-! A group as the document takes it apart. -/
end Go.Rb
namespace Go.Rb
theorem read4 {x : Int} (h0 : 0 ≤ x) (h1 : x < 16) (r : List Bool) : (readR (bitsN 4 x ++ r) 4).1 = x ∧ 4 ≤ (bitsN 4 x ++ r).length ∧ (bitsN 4 x ++ r).drop 4 = r := by
  have hl : (bitsN 4 x).length = 4 := bitsN_len 4 x
  have h2 : 4 ≤ (bitsN 4 x ++ r).length := by rw [List.length_append, hl]; omega
  refine ⟨?_, h2, ?_⟩
  · have h3 := rd4 (bitsN 4 x ++ r)
    have h4 : (bitsN 4 x ++ r).take 4 = bitsN 4 x := by rw [List.take_append_of_le_length (by omega), List.take_of_length_le (by omega)]
    rw [h4, val_bitsN 4 x h0 (by simpa using h1)] at h3
    omega
  · rw [List.drop_append_of_le_length (by omega), List.drop_of_length_le (by omega), List.nil_append]
theorem split8 (m sc : Int) : m % 8 * sc + m / 8 * (sc * 8) = m * sc := by
  have h1 : m / 8 * (sc * 8) = 8 * (m / 8) * sc := by rw [Int.mul_comm sc 8, ← Int.mul_assoc, Int.mul_comm (m / 8) 8]
  rw [h1, ← Int.add_mul]
  congr 1
  omega
theorem zread_enc : ∀ (f k : Nat) (n sc m : Int) (r : List Bool), 1 ≤ f → 0 ≤ m → m < 8 ^ f → 0 ≤ n → 1 ≤ sc → n + m * sc ≤ 8000000 → (0 < k → 1 ≤ m) →
    zread f k n sc (zenc f m ++ r) = (unf (n + m * sc), 4 * (k : Int) + (zenc f m).length, 0)
  | 0, k, n, sc, m, r, hf, _, _, _, _, _, _ => by omega
  | f + 1, k, n, sc, m, r, hf, h0, h1, hn, hsc, hb, hk => by
    by_cases h8 : m < 8
    · rw [zenc_last hf h8]
      have hr := read4 (x := 0 + m % 8) (by omega) (by omega) r
      have hx : (readR (bitsN 4 (0 + m % 8) ++ r) 4).1 % 8 = m := by rw [hr.1]; omega
      rw [zr_done hf hr.2.1 (by rw [hr.1]; omega) (by rw [hx]; omega) (by rw [hr.1]; omega), hx, bitsN_len]
      rfl
    · have h2 := div8_lt h1 (by omega)
      rw [zenc_more hf (by omega), List.append_assoc]
      have hr := read4 (x := 8 + m % 8) (by omega) (by omega) (zenc (f + 1 - 1) (m / 8) ++ r)
      have hx : (readR (bitsN 4 (8 + m % 8) ++ (zenc (f + 1 - 1) (m / 8) ++ r)) 4).1 % 8 = m % 8 := by rw [hr.1]; omega
      have hs := split8 m sc
      have hp1 : 0 ≤ m % 8 * sc := Int.mul_nonneg (by omega) (by omega)
      have hp2 : 0 ≤ m / 8 * (sc * 8) := Int.mul_nonneg (by omega) (by omega)
      rw [zr_next hf hr.2.1 (by rw [hr.1]; omega) (by rw [hx]; omega) (by rw [hr.1]; omega), hx, hr.2.2]
      simp only [Nat.add_sub_cancel] at h2 ⊢
      rw [zread_enc f (k + 1) _ _ (m / 8) r (by omega) (by omega) h2.2 (by omega) (by omega) (by omega) (by omega), List.length_append, bitsN_len]
      rw [show n + m % 8 * sc + m / 8 * (sc * 8) = n + m * sc from by omega]
      refine Prod.ext rfl (Prod.ext ?_ rfl)
      push_cast
      omega
theorem zread_inv : ∀ (f k : Nat) (n sc : Int) (l : List Bool), 0 ≤ n → 1 ≤ sc → (zread f k n sc l).2.2 = 0 →
    ∃ m, 0 ≤ m ∧ m < 8 ^ f ∧ (0 < k → 1 ≤ m) ∧ n + m * sc ≤ 8000000 ∧ (zread f k n sc l).1 = unf (n + m * sc) ∧ (zread f k n sc l).2.1 = 4 * (k : Int) + (zenc f m).length ∧ l = zenc f m ++ l.drop (zenc f m).length
  | 0, k, n, sc, l, _, _, h => by simp [zread] at h
  | f + 1, k, n, sc, l, hn, hsc, h => by
    by_cases h1 : l.length < 4
    · rw [zr_torn (by omega) h1] at h; simp at h
    have hrd := rd4 l
    have hlt : (l.take 4).length = 4 := by rw [List.length_take]; omega
    have htk : bitsN 4 (readR l 4).1 = l.take 4 := by
      have h9 := bitsN_val (l.take 4)
      rw [hlt] at h9
      rw [show (readR l 4).1 = val (l.take 4) from by omega]
      exact h9
    by_cases h2 : (readR l 4).1 = 0 ∧ 0 < k
    · rw [zr_form (by omega) (by omega) h2.1 h2.2] at h; simp at h
    by_cases h3 : n + (readR l 4).1 % 8 * sc > 8000000
    · rw [zr_range (by omega) (by omega) h2 h3] at h; simp at h
    by_cases h4 : (readR l 4).1 < 8
    · have hx : (readR l 4).1 % 8 = (readR l 4).1 := by omega
      have hp : (1 : Int) ≤ 8 ^ f := by have : (0 : Int) < 8 ^ f := Int.pow_pos (by omega); omega
      refine ⟨(readR l 4).1, by omega, by rw [Int.pow_succ]; omega, by omega, by rw [← hx]; omega, ?_, ?_, ?_⟩
      · rw [zr_done (by omega) (by omega) h2 h3 h4, hx]
      · rw [zr_done (by omega) (by omega) h2 h3 h4, zenc_last (by omega) h4, bitsN_len]; rfl
      · rw [zenc_last (by omega) h4, Int.zero_add, hx, htk, hlt, List.take_append_drop]
    · rw [zr_next (by omega) (by omega) h2 h3 h4] at h ⊢
      have hp1 : 0 ≤ (readR l 4).1 % 8 * sc := Int.mul_nonneg (by omega) (by omega)
      simp only [Nat.add_sub_cancel] at h ⊢
      obtain ⟨m, g1, g2, g3, g4, g5, g6, g7⟩ := zread_inv f (k + 1) _ _ _ (by omega) (by omega) h
      have g3' := g3 (by omega)
      have hs := split8 ((readR l 4).1 % 8 + 8 * m) sc
      rw [show ((readR l 4).1 % 8 + 8 * m) % 8 = (readR l 4).1 % 8 from by omega, show ((readR l 4).1 % 8 + 8 * m) / 8 = m from by omega] at hs
      have hz : zenc (f + 1) ((readR l 4).1 % 8 + 8 * m) = l.take 4 ++ zenc f m := by
        rw [zenc_more (by omega) (by omega), ← htk]
        rw [show 8 + ((readR l 4).1 % 8 + 8 * m) % 8 = (readR l 4).1 from by omega, show ((readR l 4).1 % 8 + 8 * m) / 8 = m from by omega]
        rfl
      refine ⟨(readR l 4).1 % 8 + 8 * m, by omega, by rw [Int.pow_succ]; omega, by omega, by omega, ?_, ?_, ?_⟩
      · rw [g5]; congr 1; omega
      · rw [g6, hz, List.length_append, hlt]; push_cast; omega
      · rw [hz, List.length_append, hlt, List.append_assoc, ← List.drop_drop, ← g7, List.take_append_drop]
theorem zput_nil {v : Int} (h : -4000000 ≤ v ∧ v ≤ 4000000) (l : List Bool) : zputR l v = (l ++ zenc 8 (foldN v), 0) := by
  unfold zputR
  rw [if_neg (by omega)]
theorem zig_take {v : Int} (h : -4000000 ≤ v ∧ v ≤ 4000000) (r : List Bool) : ztakeR (zenc 8 (foldN v) ++ r) = (v, r, 0) := by
  have h1 := foldN_or v
  have h2 := zread_enc 8 0 0 1 (foldN v) r (by omega) (by omega) (by show _ < (16777216 : Int); omega) (by omega) (by omega) (by omega) (by omega)
  unfold ztakeR zreadR
  rw [h2]
  simp only [Int.zero_add, Int.mul_one, unf_fold, if_true]
  refine Prod.ext rfl (Prod.ext ?_ rfl)
  simp
theorem zig_again {l : List Bool} (h : (ztakeR l).2.2 = 0) : zputR [] (ztakeR l).1 = ((zputR [] (ztakeR l).1).1, 0) ∧ (zputR [] (ztakeR l).1).1 ++ (ztakeR l).2.1 = l := by
  have h' : (zread 8 0 0 1 l).2.2 = 0 := h
  obtain ⟨m, g1, g2, g3, g4, g5, g6, g7⟩ := zread_inv 8 0 0 1 l (by omega) (by omega) h'
  rw [Int.zero_add, Int.mul_one] at g4 g5
  have hu := unf_or g1
  have hv : (ztakeR l).1 = unf m := g5
  have hr : (ztakeR l).2.1 = l.drop (zenc 8 m).length := by
    show (if (zread 8 0 0 1 l).2.2 = 0 then l.drop (zread 8 0 0 1 l).2.1.toNat else []) = _
    rw [if_pos h', g6]
    congr 1
    omega
  rw [hv, hr, zput_nil (by omega), fold_unf g1]
  exact ⟨rfl, by rw [List.nil_append]; exact g7.symm⟩
end Go.Rb
namespace Go.Rb
def PtIn (p : Pt) : Prop := 0 ≤ p.1 ∧ p.1 ≤ 100000 ∧ -1000000 ≤ p.2 ∧ p.2 ≤ 1000000
def chk : Int → List Pt → Int
  | _, [] => 0
  | last, p :: r => if p.1 < 0 ∨ p.1 > 100000 ∨ p.2 < -1000000 ∨ p.2 > 1000000 then 3 else if last ≥ p.1 then 7 else chk p.1 r
def checkL (l : List Pt) : Int := if l.length > 40 then 2 else chk (-1) l
def lastT (l : List Pt) (i : Nat) : Int := if i = 0 then -1 else (l.getD (i - 1) default).1
theorem drop_cons {α : Type} [Inhabited α] {l : List α} {i : Nat} (h : i < l.length) : l.drop i = l.getD i default :: l.drop (i + 1) := by
  rw [List.drop_eq_getElem_cons h]; simp [List.getD, List.getElem?_eq_getElem h]
theorem chk_step {l : List Pt} {i : Nat} (h : i < l.length) : chk (lastT l i) (l.drop i) =
    if (l.getD i default).1 < 0 ∨ (l.getD i default).1 > 100000 ∨ (l.getD i default).2 < -1000000 ∨ (l.getD i default).2 > 1000000 then 3 else if lastT l i ≥ (l.getD i default).1 then 7 else chk (lastT l (i + 1)) (l.drop (i + 1)) := by
  rw [drop_cons h, chk]
  simp [lastT]
theorem chk_all : ∀ {l : List Pt} {last : Int}, chk last l = 0 → ∀ p ∈ l, PtIn p
  | [], _, _, p, hp => by cases hp
  | q :: l, last, h, p, hp => by
    rw [chk] at h
    split at h
    · cases h
    · split at h
      · cases h
      · rcases List.mem_cons.1 hp with rfl | hp
        · unfold PtIn; omega
        · exact chk_all h p hp
theorem checkL_len {l : List Pt} (h : checkL l = 0) : l.length ≤ 40 := by
  unfold checkL at h
  split at h
  · cases h
  · omega
theorem checkL_chk {l : List Pt} (h : checkL l = 0) : chk (-1) l = 0 := by
  unfold checkL at h
  split at h
  · cases h
  · exact h
theorem checkL_all {l : List Pt} (h : checkL l = 0) : ∀ p ∈ l, PtIn p := chk_all (checkL_chk h)
theorem getD_mem {α : Type} [Inhabited α] {l : List α} {i : Nat} (h : i < l.length) : l.getD i default ∈ l := by
  have : l.getD i default = l[i] := by simp [List.getD, List.getElem?_eq_getElem h]
  rw [this]; exact List.getElem_mem h
end Go.Rb
namespace Go.Rb
abbrev badP (p : Pt) : Prop := p.1 < 0 ∨ p.1 > 100000 ∨ p.2 < -1000000 ∨ p.2 > 1000000
def lastP (l : List Pt) (i : Nat) : Pt := if i = 0 then ⟨0, 0⟩ else l.getD (i - 1) default
def stepP (l : List Pt) (i : Nat) : Int := if i = 0 then 0 else (l.getD (i - 1) default).1 - (lastP l (i - 1)).1
theorem lastP_next (l : List Pt) (i : Nat) : lastP l (i + 1) = l.getD i default := by simp [lastP]
theorem stepP_next (l : List Pt) (i : Nat) : stepP l (i + 1) = (l.getD i default).1 - (lastP l i).1 := by simp [stepP]
def itemB (last : Pt) (step : Int) (p : Pt) : List Bool := zenc 8 (foldN (p.1 - last.1 - step)) ++ zenc 8 (foldN (p.2 - last.2))
def packAt (l : List Pt) (i : Nat) : List Bool := ((List.range i).map fun j => itemB (lastP l j) (stepP l j) (l.getD j default)).flatten
theorem packAt_next (l : List Pt) (i : Nat) : packAt l (i + 1) = packAt l i ++ itemB (lastP l i) (stepP l i) (l.getD i default) := by simp [packAt, List.range_succ]
theorem itemB_len (a : Pt) (s : Int) (p : Pt) : (itemB a s p).length ≤ 64 := by
  have h1 := zenc_len 8 (foldN (p.1 - a.1 - s))
  have h2 := zenc_len 8 (foldN (p.2 - a.2))
  unfold itemB; rw [List.length_append]; omega
theorem packAt_len (l : List Pt) (i : Nat) : (packAt l i).length ≤ 64 * i := by
  induction i with
  | zero => simp [packAt]
  | succ i ih =>
    have := itemB_len (lastP l i) (stepP l i) (l.getD i default)
    rw [packAt_next, List.length_append]; omega
def packP (l : List Pt) : List Bool × Int := if checkL l = 0 then (packAt l l.length, 0) else ([], checkL l)
theorem second {l : List Pt} {i : Nat} : (i = 0 → (lastP l i).1 = 0 ∧ (lastP l i).2 = 0 ∧ stepP l i = 0) ∧ (0 < i → (lastP l i) = l.getD (i - 1) default) ∧ (i = 1 → stepP l i = (l.getD (i - 1) default).1) ∧
    (1 < i → stepP l i = (l.getD (i - 1) default).1 - (l.getD (i - 2) default).1) := by
  refine ⟨?_, ?_, ?_, ?_⟩
  · rintro rfl; simp [lastP, stepP, ]
  · intro h; unfold lastP; rw [if_neg (by omega)]
  · rintro rfl; simp [lastP, stepP, ]
  · intro h
    unfold stepP lastP
    rw [if_neg (by omega), if_neg (by omega), show i - 1 - 1 = i - 2 from by omega]
/-! ### Unpacking -/
def stepE (k : Nat) (last p : Pt) : Int := if badP p then 3 else if 0 < k ∧ last.1 ≥ p.1 then 7 else 0
def nxt (last : Pt) (step : Int) (b : List Bool) : Pt := ⟨last.1 + step + (zreadR b).1, last.2 + (zreadR (b.drop (zreadR b).2.1.toNat)).1⟩
def bits1 (b : List Bool) : List Bool := b.drop (zreadR b).2.1.toNat
def bits2 (b : List Bool) : List Bool := (bits1 b).drop (zreadR (bits1 b)).2.1.toNat
def unpk : Nat → Nat → Pt → Int → List Pt → List Bool → List Pt × Int
  | 0, _, _, _, acc, b => if b.length > 0 then ([], 8) else (acc, 0)
  | f + 1, k, last, step, acc, b =>
    if ¬ (zreadR b).2.2 = 0 then ([], (zreadR b).2.2) else
    if ¬ (zreadR (bits1 b)).2.2 = 0 then ([], (zreadR (bits1 b)).2.2) else
    if ¬ stepE k last (nxt last step b) = 0 then ([], stepE k last (nxt last step b)) else
    unpk f (k + 1) (nxt last step b) ((nxt last step b).1 - last.1) (acc ++ [nxt last step b]) (bits2 b)
def unpackR (b : List Bool) (n : Int) : List Pt × Int := if n < 0 ∨ n > 40 then ([], 2) else unpk n.toNat 0 ⟨0, 0⟩ 0 [] b
section
variable {f k : Nat} {last : Pt} {step : Int} {acc : List Pt} {b : List Bool}
theorem un_a (hf : 1 ≤ f) (h : ¬ (zreadR b).2.2 = 0) : unpk f k last step acc b = ([], (zreadR b).2.2) := by
  obtain ⟨g, rfl⟩ : ∃ g, f = g + 1 := ⟨f - 1, by omega⟩
  rw [unpk, if_pos h]
theorem un_b (hf : 1 ≤ f) (h : (zreadR b).2.2 = 0) (h1 : ¬ (zreadR (bits1 b)).2.2 = 0) : unpk f k last step acc b = ([], (zreadR (bits1 b)).2.2) := by
  obtain ⟨g, rfl⟩ : ∃ g, f = g + 1 := ⟨f - 1, by omega⟩
  rw [unpk, if_neg (by omega), if_pos h1]
theorem un_c (hf : 1 ≤ f) (h : (zreadR b).2.2 = 0) (h1 : (zreadR (bits1 b)).2.2 = 0) (h2 : ¬ stepE k last (nxt last step b) = 0) : unpk f k last step acc b = ([], stepE k last (nxt last step b)) := by
  obtain ⟨g, rfl⟩ : ∃ g, f = g + 1 := ⟨f - 1, by omega⟩
  rw [unpk, if_neg (by omega), if_neg (by omega), if_pos h2]
theorem un_d (hf : 1 ≤ f) (h : (zreadR b).2.2 = 0) (h1 : (zreadR (bits1 b)).2.2 = 0) (h2 : stepE k last (nxt last step b) = 0) :
    unpk f k last step acc b = unpk (f - 1) (k + 1) (nxt last step b) ((nxt last step b).1 - last.1) (acc ++ [nxt last step b]) (bits2 b) := by
  obtain ⟨g, rfl⟩ : ∃ g, f = g + 1 := ⟨f - 1, by omega⟩
  rw [unpk, if_neg (by omega), if_neg (by omega), if_neg (by omega)]; rfl
theorem un_e (h : b.length > 0) : unpk 0 k last step acc b = ([], 8) := by rw [unpk, if_pos h]
theorem un_f (h : ¬ b.length > 0) : unpk 0 k last step acc b = (acc, 0) := by rw [unpk, if_neg h]
end
theorem stepE_or (k : Nat) (last p : Pt) : (badP p ∧ stepE k last p = 3) ∨ (PtIn p ∧ 0 < k ∧ p.1 ≤ last.1 ∧ stepE k last p = 7) ∨ (PtIn p ∧ (k = 0 ∨ last.1 < p.1) ∧ stepE k last p = 0) := by
  unfold stepE
  by_cases h : badP p
  · left; exact ⟨h, if_pos h⟩
  · have hp : PtIn p := by unfold badP at h; unfold PtIn; omega
    right
    rw [if_neg h]
    by_cases h2 : 0 < k ∧ last.1 ≥ p.1
    · left; rw [if_pos h2]; exact ⟨hp, h2.1, h2.2, rfl⟩
    · right; rw [if_neg h2]; exact ⟨hp, by omega, rfl⟩
theorem check_two {acc : List Pt} {last p : Pt} {k : Nat} (hk : acc.length = k) (hl : PtIn last) (hlast : 0 < k → acc.getD (k - 1) default = last) : checkL (acc.drop (acc.length - 1) ++ [p]) = stepE k last p := by
  by_cases h0 : k = 0
  · have : acc = [] := List.eq_nil_of_length_eq_zero (by omega)
    subst this
    subst h0
    simp only [List.drop_nil, List.nil_append, checkL, List.length_cons, List.length_nil, chk, stepE, badP]
    unfold PtIn at hl
    rw [if_neg (by omega)]
    by_cases hb : p.1 < 0 ∨ p.1 > 100000 ∨ p.2 < -1000000 ∨ p.2 > 1000000
    · rw [if_pos hb, if_pos hb]
    · rw [if_neg hb, if_neg hb, if_neg (by omega), if_neg (by omega)]
  · have hd : acc.drop (acc.length - 1) = [last] := by
      rw [drop_cons (by omega), List.drop_of_length_le (by omega), hk, hlast (by omega)]
    rw [hd]
    simp only [List.cons_append, List.nil_append, checkL, List.length_cons, List.length_nil, chk, stepE, badP]
    unfold PtIn at hl
    rw [if_neg (by omega), if_neg (by omega), if_neg (by omega)]
    by_cases hb : p.1 < 0 ∨ p.1 > 100000 ∨ p.2 < -1000000 ∨ p.2 > 1000000
    · rw [if_pos hb, if_pos hb]
    · rw [if_neg hb, if_neg hb]
      by_cases hc : last.1 ≥ p.1
      · rw [if_pos hc, if_pos ⟨by omega, hc⟩]
      · rw [if_neg hc, if_neg (by omega)]
theorem zreadR_in (l : List Bool) : -4000001 ≤ (zreadR l).1 ∧ (zreadR l).1 ≤ 4000000 := by
  by_cases h : (zreadR l).2.2 = 0
  · obtain ⟨m, g1, g2, g3, g4, g5, _⟩ := zread_inv 8 0 0 1 l (by omega) (by omega) h
    rw [Int.zero_add, Int.mul_one] at g4 g5
    have hu := unf_or g1
    have hv : (zreadR l).1 = unf m := g5
    omega
  · rw [(zreadR_bad h).1]; omega
theorem ztakeR_rest {b : List Bool} (h : (zreadR b).2.2 = 0) : (ztakeR b).2.1 = bits1 b := by unfold ztakeR bits1; exact if_pos h
theorem bits1_len (b : List Bool) : (bits1 b).length ≤ b.length := by unfold bits1; rw [List.length_drop]; omega
theorem bits2_len (b : List Bool) : (bits2 b).length ≤ b.length := by
  have := bits1_len b
  unfold bits2; rw [List.length_drop]; omega
theorem bits2_eq {b : List Bool} (h : (zreadR b).2.2 = 0) (h1 : (zreadR (bits1 b)).2.2 = 0) : b.drop ((zreadR b).2.1 + (zreadR (bits1 b)).2.1).toNat = bits2 b := by
  have g1 := zreadR_ok h
  have g2 := zreadR_ok h1
  unfold bits2 bits1
  unfold bits1 at g2
  rw [List.drop_drop]
  congr 1
  omega
theorem unpk_len : ∀ (f k : Nat) (last : Pt) (step : Int) (acc : List Pt) (b : List Bool), (unpk f k last step acc b).1.length ≤ acc.length + f
  | 0, k, last, step, acc, b => by
    by_cases h : b.length > 0
    · rw [un_e h]; simp
    · rw [un_f h]; simp
  | f + 1, k, last, step, acc, b => by
    by_cases h1 : (zreadR b).2.2 = 0
    · by_cases h2 : (zreadR (bits1 b)).2.2 = 0
      · by_cases h3 : stepE k last (nxt last step b) = 0
        · rw [un_d (by omega) h1 h2 h3]
          have := unpk_len (f + 1 - 1) (k + 1) (nxt last step b) ((nxt last step b).1 - last.1) (acc ++ [nxt last step b]) (bits2 b)
          rw [List.length_append] at this
          simp only [List.length_cons, List.length_nil] at this
          omega
        · rw [un_c (by omega) h1 h2 h3]; simp
      · rw [un_b (by omega) h1 h2]; simp
    · rw [un_a (by omega) h1]; simp
theorem unpackR_len (b : List Bool) (n : Int) : (unpackR b n).1.length ≤ 40 := by
  unfold unpackR
  split
  · simp
  · have := unpk_len n.toNat 0 ⟨0, 0⟩ 0 [] b
    simp only [List.length_nil] at this
    omega
end Go.Rb
namespace Go.Rb
def packL : Pt → Int → List Pt → List Bool
  | _, _, [] => []
  | last, st, p :: r => itemB last st p ++ packL p (p.1 - last.1) r
theorem packL_at (l : List Pt) : ∀ (d i : Nat), i + d = l.length → packAt l i ++ packL (lastP l i) (stepP l i) (l.drop i) = packAt l l.length
  | 0, i, h => by
    rw [List.drop_of_length_le (by omega), show i = l.length from by omega]
    simp [packL]
  | d + 1, i, h => by
    rw [← packL_at l d (i + 1) (by omega), packAt_next, drop_cons (show i < l.length by omega), packL, lastP_next, stepP_next, List.append_assoc]
theorem packL_all (l : List Pt) : packL ⟨0, 0⟩ 0 l = packAt l l.length := by
  have h := packL_at l l.length 0 (by omega)
  simpa [packAt, lastP, stepP] using h
theorem zenc_ge (m : Int) : 4 ≤ (zenc 8 m).length := by
  rw [zenc, List.length_append, bitsN_len]; omega
theorem itemB_ge (a : Pt) (s : Int) (p : Pt) : 8 ≤ (itemB a s p).length := by
  have h1 := zenc_ge (p.1 - a.1 - s |> foldN)
  have h2 := zenc_ge (foldN (p.2 - a.2))
  unfold itemB; rw [List.length_append]; omega
theorem zreadR_enc {v : Int} (h : -4000000 ≤ v ∧ v ≤ 4000000) (r : List Bool) : (zreadR (zenc 8 (foldN v) ++ r)).1 = v ∧ (zreadR (zenc 8 (foldN v) ++ r)).2.2 = 0 ∧ bits1 (zenc 8 (foldN v) ++ r) = r := by
  have h1 := zig_take h r
  refine ⟨congrArg Prod.fst h1, congrArg (fun x => x.2.2) h1, ?_⟩
  have h2 : (ztakeR (zenc 8 (foldN v) ++ r)).2.1 = r := congrArg (fun x => x.2.1) h1
  rw [← ztakeR_rest (congrArg (fun x => x.2.2) h1), h2]
theorem zreadR_split {b : List Bool} (h : (zreadR b).2.2 = 0) : b = zenc 8 (foldN (zreadR b).1) ++ bits1 b ∧ -4000000 ≤ (zreadR b).1 ∧ (zreadR b).1 ≤ 4000000 := by
  have h1 := zig_again (l := b) h
  have hr : -4000000 ≤ (zreadR b).1 ∧ (zreadR b).1 ≤ 4000000 := by
    apply Classical.byContradiction
    intro hc
    have h2 : (zputR [] (ztakeR b).1).2 = 3 := by
      unfold zputR
      rw [if_pos (by show (zreadR b).1 < _ ∨ (zreadR b).1 > _; omega)]
    rw [h1.1] at h2
    simp at h2
  refine ⟨?_, hr⟩
  have h3 := h1.2
  rw [zput_nil (v := (ztakeR b).1) hr, ztakeR_rest h, List.nil_append] at h3
  exact h3.symm
def L0 (k : Nat) (last : Pt) : Int := if k = 0 then -1 else last.1
theorem chk_cons {L : Int} {p : Pt} {r : List Pt} (h : chk L (p :: r) = 0) : PtIn p ∧ L < p.1 ∧ chk p.1 r = 0 := by
  rw [chk] at h
  split at h
  · cases h
  · split at h
    · cases h
    · exact ⟨by unfold PtIn; omega, by omega, h⟩
theorem chk_mk {L : Int} {p : Pt} {r : List Pt} (h1 : PtIn p) (h2 : L < p.1) (h3 : chk p.1 r = 0) : chk L (p :: r) = 0 := by
  unfold PtIn at h1
  rw [chk, if_neg (by omega), if_neg (by omega)]; exact h3
theorem stepE_zero {k : Nat} {last p : Pt} (h1 : PtIn p) (h2 : L0 k last < p.1) : stepE k last p = 0 := by
  have h := stepE_or k last p
  unfold L0 at h2
  unfold badP at h
  unfold PtIn at h h1
  split at h2 <;> omega
theorem item_read {last p : Pt} {st : Int} (hl : PtIn last) (hs : -100000 ≤ st ∧ st ≤ 100000) (hp : PtIn p) (rest : List Bool) :
    (zreadR (itemB last st p ++ rest)).2.2 = 0 ∧ (zreadR (bits1 (itemB last st p ++ rest))).2.2 = 0 ∧ nxt last st (itemB last st p ++ rest) = p ∧ bits2 (itemB last st p ++ rest) = rest := by
  unfold PtIn at hl hp
  have h1 := zreadR_enc (v := p.1 - last.1 - st) (by omega) (zenc 8 (foldN (p.2 - last.2)) ++ rest)
  have h2 := zreadR_enc (v := p.2 - last.2) (by omega) rest
  have e : itemB last st p ++ rest = zenc 8 (foldN (p.1 - last.1 - st)) ++ (zenc 8 (foldN (p.2 - last.2)) ++ rest) := by unfold itemB; rw [List.append_assoc]
  have hb : bits1 (itemB last st p ++ rest) = zenc 8 (foldN (p.2 - last.2)) ++ rest := by rw [e, h1.2.2]
  refine ⟨by rw [e]; exact h1.2.1, by rw [hb]; exact h2.2.1, ?_, ?_⟩
  · show (⟨last.1 + st + (zreadR (itemB last st p ++ rest)).1, last.2 + (zreadR (bits1 (itemB last st p ++ rest))).1⟩ : Pt) = p
    rw [hb, h2.1, e, h1.1]
    cases p
    simp only [Prod.mk.injEq, ]
    omega
  · show bits1 (bits1 (itemB last st p ++ rest)) = rest
    rw [hb, h2.2.2]
theorem unpk_pack : ∀ (r : List Pt) (k : Nat) (last : Pt) (st : Int) (acc : List Pt) (more : List Bool), PtIn last → (-100000 ≤ st ∧ st ≤ 100000) → chk (L0 k last) r = 0 →
    unpk r.length k last st acc (packL last st r ++ more) = if more.length > 0 then ([], 8) else (acc ++ r, 0)
  | [], k, last, st, acc, more, _, _, _ => by simp [packL, unpk]
  | p :: r, k, last, st, acc, more, hl, hs, hc => by
    obtain ⟨h1, h2, h3⟩ := chk_cons hc
    have hi := item_read hl hs h1 (packL p (p.1 - last.1) r ++ more)
    rw [packL, List.append_assoc, List.length_cons, un_d (by omega) hi.1 hi.2.1 (by rw [hi.2.2.1]; exact stepE_zero h1 h2), hi.2.2.1, hi.2.2.2, Nat.add_sub_cancel]
    have hl' := hl
    have h1' := h1
    unfold PtIn at hl' h1'
    rw [unpk_pack r (k + 1) p (p.1 - last.1) (acc ++ [p]) more h1 (by omega) (by unfold L0; rw [if_neg (by omega)]; exact h3), List.append_assoc]
    rfl
theorem packL_append : ∀ (r1 r2 : List Pt) (last : Pt) (st : Int), ∃ last' st', packL last st (r1 ++ r2) = packL last st r1 ++ packL last' st' r2
  | [], r2, last, st => ⟨last, st, rfl⟩
  | p :: r1, r2, last, st => by
    obtain ⟨a, b, h⟩ := packL_append r1 r2 p (p.1 - last.1)
    exact ⟨a, b, by rw [List.cons_append, packL, h, packL, List.append_assoc]⟩
theorem chk_take : ∀ (l : List Pt) (L : Int) (k : Nat), chk L l = 0 → chk L (l.take k) = 0
  | [], _, _, _ => by simp [chk]
  | p :: l, L, 0, _ => rfl
  | p :: l, L, k + 1, h => by
    obtain ⟨h1, h2, h3⟩ := chk_cons h
    rw [List.take_succ_cons]
    exact chk_mk h1 h2 (chk_take l p.1 k h3)
theorem checkL_take {l : List Pt} (h : checkL l = 0) (k : Nat) : checkL (l.take k) = 0 := by
  have h1 := checkL_len h
  unfold checkL
  rw [if_neg (by rw [List.length_take]; omega)]
  exact chk_take l (-1) k (checkL_chk h)
theorem zero_in : PtIn ⟨0, 0⟩ := by unfold PtIn; decide
theorem line_back {l : List Pt} (h : checkL l = 0) : packP l = (packAt l l.length, 0) ∧ unpackR (packAt l l.length) l.length = (l, 0) ∧ (0 < l.length → ¬ (unpackR (packAt l l.length) (l.length - 1)).2 = 0) := by
  have hl := checkL_len h
  refine ⟨by unfold packP; rw [if_pos h], ?_, ?_⟩
  · unfold unpackR
    rw [if_neg (by omega)]
    have h1 := unpk_pack l 0 ⟨0, 0⟩ 0 [] [] zero_in (by omega) (checkL_chk h)
    rw [List.append_nil, packL_all] at h1
    rw [show ((l.length : Int)).toNat = l.length from by omega, h1]
    simp
  · intro h0
    unfold unpackR
    rw [if_neg (by omega), show ((l.length : Int) - 1).toNat = (l.take (l.length - 1)).length from by rw [List.length_take]; omega]
    obtain ⟨a, b, hab⟩ := packL_append (l.take (l.length - 1)) (l.drop (l.length - 1)) ⟨0, 0⟩ 0
    rw [List.take_append_drop] at hab
    rw [← packL_all, hab, unpk_pack _ 0 ⟨0, 0⟩ 0 [] _ zero_in (by omega) (checkL_chk (checkL_take h _))]
    rw [if_pos]
    · decide
    · rw [drop_cons (by omega), packL, List.length_append]
      have := itemB_ge a b (l.getD (l.length - 1) default)
      omega
theorem unpk_inv : ∀ (f k : Nat) (last : Pt) (st : Int) (acc : List Pt) (b : List Bool), PtIn last → (unpk f k last st acc b).2 = 0 →
    ∃ r, r.length = f ∧ (unpk f k last st acc b).1 = acc ++ r ∧ b = packL last st r ∧ chk (L0 k last) r = 0
  | 0, k, last, st, acc, b, _, h => by
    by_cases hb : b.length > 0
    · rw [un_e hb] at h; simp at h
    · rw [un_f hb]
      exact ⟨[], rfl, by simp, by simpa [packL] using hb, rfl⟩
  | f + 1, k, last, st, acc, b, hl, h => by
    by_cases h1 : (zreadR b).2.2 = 0
    · by_cases h2 : (zreadR (bits1 b)).2.2 = 0
      · by_cases h3 : stepE k last (nxt last st b) = 0
        · rw [un_d (by omega) h1 h2 h3, Nat.add_sub_cancel] at h ⊢
          have hse := stepE_or k last (nxt last st b)
          have hp : PtIn (nxt last st b) ∧ (k = 0 ∨ last.1 < (nxt last st b).1) := by
            rcases hse with g | g | g
            · omega
            · omega
            · exact ⟨g.1, g.2.1⟩
          obtain ⟨r, g1, g2, g3, g4⟩ := unpk_inv f (k + 1) _ _ _ _ hp.1 h
          have s1 := zreadR_split h1
          have s2 := zreadR_split h2
          refine ⟨nxt last st b :: r, by simp [g1], by rw [g2, List.append_assoc]; rfl, ?_, ?_⟩
          · rw [packL, ← g3]
            show b = (zenc 8 (foldN (last.1 + st + (zreadR b).1 - last.1 - st)) ++ zenc 8 (foldN (last.2 + (zreadR (bits1 b)).1 - last.2))) ++ bits1 (bits1 b)
            rw [show last.1 + st + (zreadR b).1 - last.1 - st = (zreadR b).1 from by omega, show last.2 + (zreadR (bits1 b)).1 - last.2 = (zreadR (bits1 b)).1 from by omega, List.append_assoc, ← s2.1]
            exact s1.1
          · refine chk_mk hp.1 ?_ ?_
            · have := hp.1
              unfold PtIn at this
              unfold L0
              split <;> omega
            · unfold L0 at g4
              rw [if_neg (by omega)] at g4
              exact g4
        · rw [un_c (by omega) h1 h2 h3] at h; exact absurd h h3
      · rw [un_b (by omega) h1 h2] at h; exact absurd h h2
    · rw [un_a (by omega) h1] at h; exact absurd h h1
theorem line_again {b : List Bool} {n : Int} (h : (unpackR b n).2 = 0) : packP (unpackR b n).1 = (b, 0) ∧ ((unpackR b n).1.length : Int) = n ∧ checkL (unpackR b n).1 = 0 := by
  unfold unpackR at h ⊢
  by_cases hn : n < 0 ∨ n > 40
  · rw [if_pos hn] at h; simp at h
  · rw [if_neg hn] at h ⊢
    obtain ⟨r, g1, g2, g3, g4⟩ := unpk_inv _ _ _ _ _ _ zero_in h
    rw [g2, List.nil_append]
    have hc : checkL r = 0 := by
      unfold checkL
      rw [if_neg (by omega)]
      exact g4
    refine ⟨?_, by omega, hc⟩
    unfold packP
    rw [if_pos hc, ← packL_all, ← g3]
/-! ### Beginnings -/
/-! ### Steady points -/
end Go.Rb
namespace Go.Rb
def zeroBk : Bk := ⟨0, 0, 0, []⟩
def mkB (l : List Pt) : Bk := ⟨l.length, (l.getD 0 default).1, (l.getD (l.length - 1) default).1, packAt l l.length⟩
def makeR (l : List Pt) : Bk × Int := if ¬ (packP l).2 = 0 then (zeroBk, (packP l).2) else if l.length = 0 then (zeroBk, 4) else (⟨l.length, (l.getD 0 default).1, (l.getD (l.length - 1) default).1, (packP l).1⟩, 0)
def ptsR (x : Bk) : List Pt × Int :=
  if ¬ (unpackR x.2.2.2 x.1).2 = 0 then ([], (unpackR x.2.2.2 x.1).2) else
  if (unpackR x.2.2.2 x.1).1.length = 0 ∨ ¬ ((unpackR x.2.2.2 x.1).1.getD 0 default).1 = x.2.1 ∨ ¬ ((unpackR x.2.2.2 x.1).1.getD ((unpackR x.2.2.2 x.1).1.length - 1) default).1 = x.2.2.1 then ([], 4) else ((unpackR x.2.2.2 x.1).1, 0)
def mergeR (x y : Bk) : Bk × Int := if ¬ (ptsR x).2 = 0 then (zeroBk, (ptsR x).2) else if ¬ (ptsR y).2 = 0 then (zeroBk, (ptsR y).2) else makeR ((ptsR x).1 ++ (ptsR y).1)
theorem ptsR_len (x : Bk) : (ptsR x).1.length ≤ 40 := by
  have := unpackR_len x.2.2.2 x.1
  unfold ptsR
  split
  · simp
  · split
    · simp
    · exact this
theorem mkB_bits {l : List Pt} (h : l.length ≤ 40) : (mkB l).2.2.2.length ≤ 2560 := by
  have := packAt_len l l.length
  show (packAt l l.length).length ≤ 2560
  omega
theorem makeR_ok {l : List Pt} (h : checkL l = 0) (h0 : 0 < l.length) : makeR l = (mkB l, 0) ∧ ptsR (mkB l) = (l, 0) := by
  have hb := line_back h
  refine ⟨?_, ?_⟩
  · unfold makeR
    rw [hb.1, if_neg (by simp), if_neg (by omega)]; rfl
  · have hu : unpackR (mkB l).2.2.2 (mkB l).1 = (l, 0) := hb.2.1
    unfold ptsR
    rw [hu, if_neg (by simp), if_neg (not_or.2 ⟨by show ¬ l.length = 0; omega, not_or.2 ⟨fun h => h rfl, fun h => h rfl⟩⟩)]
theorem mergeR_ok {a b : List Pt} (ha : checkL a = 0) (hb : checkL b = 0) (ha0 : 0 < a.length) (hb0 : 0 < b.length) (h : checkL (a ++ b) = 0) : mergeR (mkB a) (mkB b) = (mkB (a ++ b), 0) := by
  unfold mergeR
  rw [(makeR_ok ha ha0).2, (makeR_ok hb hb0).2, if_neg (by simp), if_neg (by simp)]
  exact (makeR_ok h (by rw [List.length_append]; omega)).1
end Go.Rb
namespace Go.Proofs.Y
open Go.Rb Go.Kx
theorem cloneB_eq {a : List Bool} (h : a.length ≤ 140737488355328) : F_cloneB a = some a := clone_gen 1 a (by omega) (by omega)
theorem equalB_eq {a b : List Bool} (h : a.length < 4611686018427387904) : F_equalB a b = some (decide (a = b)) := equal_gen eqB (fun x y => by cases x <;> cases y <;> rfl) a b h
theorem wshr_eq {n k : Int} (h0 : 0 ≤ n) (hk : 0 ≤ k ∧ k ≤ 40) : wshr .i64 n k = n / 2 ^ k.toNat := by
  unfold wshr
  rw [show min k.toNat IntKind.i64.bits = k.toNat from by show min k.toNat 64 = _; omega, fdiv_pow h0]
theorem bit_eq {n k : Int} (h0 : 0 ≤ n) (h1 : n ≤ 9223372036854775807) (hk : 0 ≤ k ∧ k ≤ 40) : eqI (wand .i64 (wshr .i64 n k) 1) 1 = bitAt n k.toNat := by
  have h2 := div_pow_le h0 k.toNat
  rw [wshr_eq h0 hk]
  unfold wand eqI bitAt
  rw [and_oneI h2.1 (by omega)]
theorem put_eq (l : List Bool) (n w : Int) (hl : l.length ≤ 140737488355200) (hn : n ≤ 9223372036854775807) : F_bits_Put l n w = some (putR l n w) := by
  unfold F_bits_Put putR
  rw [ifB_ltI, ifB_gtI, ifB_ltI, ifB_ltI, ifB_neI, cloneB_eq (by omega), bindO_some]
  by_cases hw0 : w < 0
  · rw [if_pos hw0, if_neg (by unfold putOk; omega)]
  rw [if_neg hw0]
  by_cases hw1 : 40 < w
  · rw [if_pos hw1, if_neg (by unfold putOk; omega)]
  rw [if_neg hw1]
  by_cases hn0 : n < 0
  · rw [if_pos hn0, if_neg (by unfold putOk; omega)]
  rw [if_neg hn0, if_neg hw0, wshr_eq (by omega) ⟨by omega, by omega⟩]
  by_cases hs : n / 2 ^ w.toNat = 0
  · rw [if_pos hs, if_pos ⟨by omega, by omega, by omega, (shr_zero (by omega)).1 hs⟩]
    have hws : wsub .i64 w 1 = w - 1 := wsub_in ⟨by omega, by omega⟩
    rw [hws]
    have key := loop_ind (f := fun (x : Int × List Bool) => ifB (geI (Prod.fst x) 0) (ifB (ltI (Prod.fst x) 0) none (ifB (roomA 1 (Prod.snd x) [eqI (wand IntKind.i64 (wshr IntKind.i64 n (Prod.fst x)) 1) 1])
        (some (Sum.inl (wsub IntKind.i64 (Prod.fst x) 1, cat (Prod.snd x) [eqI (wand IntKind.i64 (wshr IntKind.i64 n (Prod.fst x)) 1) 1]))) none)) (mapO Sum.inr (some (Prod.snd x, (0 : Int)))))
      (G := fun x => some (x.2 ++ (bitsN w.toNat n).drop (w - 1 - x.1).toNat, 0)) (P := fun x => -1 ≤ x.1 ∧ x.1 ≤ w - 1 ∧ (x.2.length : Int) ≤ l.length + (w - 1 - x.1)) (μ := fun x => (x.1 + 1).toNat) ?_ maxR (w - 1, l) ⟨by show -1 ≤ w - 1; omega, by show w - 1 ≤ w - 1; omega, by show (l.length : Int) ≤ l.length + (w - 1 - (w - 1)); omega⟩ (by show (w - 1 + 1).toNat < maxR; unfold maxR; omega)
    · rw [key]
      simp
    · rintro ⟨k, acc⟩ ⟨h0, h1, h2⟩ K hk
      simp only at h0 h1 h2
      simp only [stepK_none, stepK_inl, stepK_inr, stepK_map, stepK_if, stepK_bind, ifB_t, ifB_f, ifB_same, ifB_ltI, ifB_leI, ifB_gtI, ifB_geI, ifB_eqI, ifB_neI, ifB_not, ifB_and, ifB_eqB, ifB_isE, ifB_in1, ifB_in2, ifB_in1N, ifB_in2N, ifB_in1C, ifB_in2C, ifB_inN, ifB_ltL, ifB_ltN, ifB_roomA, ifB_roomI, ifB_roomZ, ifB_roomS, ifB_eqS, ifB_eqL, ifB_fits, bindO_some, bindO_none, mapO_some, mapO_none, lenI_eq, lenN_eq, cat_eq, takeI_eq, dropI_eq, sliI_eq, setN_eq, natI_eq, intN_eq, List.length_cons, List.length_nil]
      by_cases hk0 : 0 ≤ k
      · rw [if_pos hk0, if_neg (by omega), if_pos ⟨by omega, by omega⟩, bit_eq (by omega) hn ⟨hk0, by omega⟩, wsub_in ⟨by omega, by omega⟩]
        rw [hk _ ⟨by show -1 ≤ k - 1; omega, by show k - 1 ≤ w - 1; omega, by show (((acc ++ [bitAt n k.toNat]).length : Nat) : Int) ≤ l.length + (w - 1 - (k - 1)); rw [List.length_append, List.length_cons, List.length_nil]; omega⟩ (by show (k - 1 + 1).toNat < (k + 1).toNat; omega)]
        have hlt : (w - 1 - k).toNat < (bitsN w.toNat n).length := by rw [bitsN_len]; omega
        show some (acc ++ [bitAt n k.toNat] ++ (bitsN w.toNat n).drop (w - 1 - (k - 1)).toNat, (0 : Int)) = some (acc ++ (bitsN w.toNat n).drop (w - 1 - k).toNat, 0)
        rw [drop_cons hlt, bitsN_get (by omega), show (w - 1 - (k - 1)).toNat = (w - 1 - k).toNat + 1 by omega, show w.toNat - 1 - (w - 1 - k).toNat = k.toNat by omega]
        simp
      · rw [if_neg hk0, List.drop_of_length_le (by rw [bitsN_len]; omega), List.append_nil]
  · rw [if_neg hs, if_neg (by intro hc; exact hs ((shr_zero (by omega)).2 hc.2.2.2))]
theorem read_eq (l : List Bool) (w : Int) (hl : l.length ≤ 140737488355328) : F_bits_Read l w = some (readR l w) := by
  unfold F_bits_Read readR
  rw [ifB_ltI, ifB_gtI, ifB_ltI, ifB_in1, lenI_eq]
  by_cases hw0 : w < 0
  · rw [if_pos hw0, if_pos (by omega)]
  rw [if_neg hw0]
  by_cases hw1 : 40 < w
  · rw [if_pos hw1, if_pos (by omega)]
  rw [if_neg hw1, if_neg (show ¬ (w < 0 ∨ w > 40) by omega)]
  by_cases hw2 : (l.length : Int) < w
  · rw [if_pos hw2, if_pos hw2]
  rw [if_neg hw2, if_neg hw2, if_pos ⟨by omega, by omega⟩, takeI_eq]
  have hlen : (l.take w.toNat).length = w.toNat := by rw [List.length_take]; omega
  generalize l.take w.toNat = a at hlen
  show _ = some (a.foldl (fun n b => 2 * n + (if b then 1 else 0)) (0 : Int), (0 : Int))
  refine loop_range a (fun j (s : Int) => (s, (j : Int))) (G := fun rest (s : Int) => some (rest.foldl (fun (n : Int) b => 2 * n + (if b then 1 else 0)) s, (0 : Int))) (P := fun j s => 0 ≤ s ∧ s < 2 ^ j) ?_ ?_ (s0 := 0) ⟨by omega, by decide⟩ (by omega)
  · rintro j s hj ⟨h0, h1⟩ k hk
    have h2 := (pow40 (k := j) (by omega)).2
    have h3 : (2 : Int) ^ (j + 1) = 2 ^ j * 2 := Int.pow_succ _ _
    simp only [stepK_none, stepK_inl, stepK_inr, stepK_map, stepK_if, stepK_bind, ifB_t, ifB_f, ifB_same, ifB_ltI, ifB_leI, ifB_gtI, ifB_geI, ifB_eqI, ifB_neI, ifB_not, ifB_and, ifB_eqB, ifB_isE, ifB_in1, ifB_in2, ifB_in1N, ifB_in2N, ifB_in1C, ifB_in2C, ifB_inN, ifB_ltL, ifB_ltN, ifB_roomA, ifB_roomI, ifB_roomZ, ifB_roomS, ifB_eqS, ifB_eqL, ifB_fits, bindO_some, bindO_none, mapO_some, mapO_none, lenI_eq, lenN_eq, cat_eq, takeI_eq, dropI_eq, sliI_eq, setN_eq, natI_eq, intN_eq, stepK_ifB]
    rw [if_pos (by omega), atI_nat hj, bindO_some, wadd_nat (by omega), wmul_in ⟨by omega, by omega⟩]
    rw [wadd_in ⟨by omega, by omega⟩, hk _ ⟨by omega, by omega⟩, hk _ ⟨by omega, by omega⟩, List.foldl_cons, ifB_if]
    cases a.getD j default <;> simp [Int.mul_comm]
  · rintro s ⟨h0, h1⟩ k
    simp only [stepK_none, stepK_inl, stepK_inr, stepK_map, stepK_if, stepK_bind, ifB_t, ifB_f, ifB_same, ifB_ltI, ifB_leI, ifB_gtI, ifB_geI, ifB_eqI, ifB_neI, ifB_not, ifB_and, ifB_eqB, ifB_isE, ifB_in1, ifB_in2, ifB_in1N, ifB_in2N, ifB_in1C, ifB_in2C, ifB_inN, ifB_ltL, ifB_ltN, ifB_roomA, ifB_roomI, ifB_roomZ, ifB_roomS, ifB_eqS, ifB_eqL, ifB_fits, bindO_some, bindO_none, mapO_some, mapO_none, lenI_eq, lenN_eq, cat_eq, takeI_eq, dropI_eq, sliI_eq, setN_eq, natI_eq, intN_eq]
    rw [if_neg (by omega)]
    rfl
end Go.Proofs.Y
namespace Go.Proofs.Y
open Go.Rb Go.Kx
theorem wrem8 {n : Int} (h : 0 ≤ n) : wrem n 8 = n % 8 := by unfold wrem; exact Int.tmod_eq_emod_of_nonneg h
theorem wrem2 {n : Int} (h : 0 ≤ n) : wrem n 2 = n % 2 := by unfold wrem; exact Int.tmod_eq_emod_of_nonneg h
theorem wquo8 {n : Int} (h : 0 ≤ n) (h1 : n ≤ 9223372036854775807) : wquo .i64 n 8 = n / 8 := by
  unfold wquo; rw [Int.tdiv_eq_ediv_of_nonneg h]; exact wr_id (by omega) (by omega)
theorem fold_eq {v : Int} (h : -4000000 ≤ v ∧ v ≤ 4000000) : F_zig_fold v = some (foldN v) := by
  unfold F_zig_fold foldN
  rw [ifB_ltI]
  split
  · rw [wmul_in ⟨by omega, by omega⟩, wsub_in ⟨by omega, by omega⟩]
  · rw [wmul_in ⟨by omega, by omega⟩]
theorem zenc_up : ∀ (f : Nat) (m : Int), 1 ≤ f → 0 ≤ m → m < 8 ^ f → zenc (f + 1) m = zenc f m
  | 0, m, h, _, _ => absurd h (by omega)
  | f + 1, m, _, h0, h1 => by
    by_cases h8 : m < 8
    · rw [zenc_last (by omega) h8, zenc_last (by omega) h8]
    · have h2 := div8_lt (f := f + 1) h1 (by omega)
      rw [zenc_more (f := f + 2) (by omega) (by omega), zenc_more (f := f + 1) (by omega) (by omega)]
      exact congrArg _ (zenc_up f (m / 8) (by omega) (by omega) h2.2)
theorem zput_eq (l : List Bool) (v : Int) (hl : l.length ≤ 140737488355100) : F_zig_Put l v = some (zputR l v) := by
  unfold F_zig_Put zputR
  rw [ifB_ltI, ifB_gtI]
  by_cases h0 : v < -4000000
  · rw [if_pos h0, if_pos (.inl h0)]
  rw [if_neg h0]
  by_cases h1 : 4000000 < v
  · rw [if_pos h1, if_pos (.inr h1)]
  rw [if_neg h1, if_neg (show ¬ (v < -4000000 ∨ v > 4000000) by omega), fold_eq ⟨by omega, by omega⟩, bindO_some]
  have hf := foldN_or v
  refine loop_ind (G := fun x => some (x.1 ++ zenc 8 x.2, (0 : Int))) (P := fun (x : List Bool × Int) => 0 ≤ x.2 ∧ ∃ f, 1 ≤ f ∧ f ≤ 8 ∧ x.2 < 8 ^ f ∧ x.1.length ≤ l.length + 4 * (8 - f)) (μ := fun x => x.2.toNat) ?_ maxR (l, foldN v) ⟨by show 0 ≤ foldN v; omega, 8, by omega, by omega, by show foldN v < 8 ^ 8; omega, by show l.length ≤ _; omega⟩ (by show (foldN v).toNat < maxR; unfold maxR; omega)
  rintro ⟨acc, n⟩ ⟨g0, f, g1, g2, g3, g4⟩ k hk
  simp only at g0 g3 g4
  have h8 := (pow8 g2).2
  simp only [stepK_none, stepK_inl, stepK_inr, stepK_map, stepK_if, stepK_bind, ifB_t, ifB_f, ifB_same, ifB_ltI, ifB_leI, ifB_gtI, ifB_geI, ifB_eqI, ifB_neI, ifB_not, ifB_and, ifB_eqB, ifB_isE, ifB_in1, ifB_in2, ifB_in1N, ifB_in2N, ifB_in1C, ifB_in2C, ifB_inN, ifB_ltL, ifB_ltN, ifB_roomA, ifB_roomI, ifB_roomZ, ifB_roomS, ifB_eqS, ifB_eqL, ifB_fits, bindO_some, bindO_none, mapO_some, mapO_none, lenI_eq, lenN_eq, cat_eq, takeI_eq, dropI_eq, sliI_eq, setN_eq, natI_eq, intN_eq]
  rw [wrem8 g0, wadd_in ⟨by omega, by omega⟩, wadd_in ⟨by omega, by omega⟩, put_eq _ _ _ (by omega) (by omega), put_eq _ _ _ (by omega) (by omega), bindO_some, bindO_some, (putm g0).1, (putm g0).2, wquo8 g0 (by omega)]
  split
  · rename_i hge
    have hd := div8_lt g3 hge
    rw [hk _ ⟨by show 0 ≤ n / 8; omega, f - 1, by omega, by omega, hd.2, by show (acc ++ bitsN 4 (8 + n % 8)).length ≤ _; rw [List.length_append, bitsN_len]; omega⟩ (by show (n / 8).toNat < n.toNat; omega)]
    show some (acc ++ bitsN 4 (8 + n % 8) ++ zenc 8 (n / 8), (0 : Int)) = _
    rw [zenc_more (f := 8) (m := n) (by omega) hge, List.append_assoc]
    congr 4
    refine (zenc_up 7 (n / 8) (by omega) (by omega) ?_).trans rfl
    have : n < 8 ^ 8 := by have : (8 : Int) ^ 8 = 16777216 := by decide
                           omega
    show n / 8 < 8 ^ 7
    omega
  · rename_i hlt
    show some (acc ++ bitsN 4 (0 + n % 8), (0 : Int)) = _
    rw [zenc_last (f := 8) (m := n) (by omega) (by omega)]
theorem zread_eq (l : List Bool) (hl : l.length ≤ 140737488355328) : F_zig_Read l = some (zreadR l) := by
  unfold F_zig_Read zreadR
  refine loop_ind (G := fun (x : Int × Int × Int) => some (zread (8 - x.2.2.toNat) x.2.2.toNat x.1 x.2.1 (l.drop (4 * x.2.2.toNat)))) (P := fun (x : Int × Int × Int) => 0 ≤ x.2.2 ∧ x.2.2 ≤ 8 ∧ 0 ≤ x.1 ∧ x.1 ≤ 8000000 ∧ x.2.1 = 8 ^ x.2.2.toNat) (μ := fun x => 8 - x.2.2.toNat) ?_ maxR (0, 1, 0) ⟨by decide, by decide, by decide, by decide, by decide⟩ (by decide)
  rintro ⟨n, sc, kk⟩ ⟨g0, g1, g2, g3, g4⟩ K hk
  simp only at g0 g1 g2 g3 g4
  obtain ⟨k, rfl⟩ : ∃ k : Nat, kk = k := ⟨kk.toNat, by omega⟩
  rw [Int.toNat_natCast] at g4
  have hp := pow8 (k := k) (by omega)
  have hmin : minI (lenI l) (wmul .i64 4 (k : Int)) = min (l.length : Int) (4 * k) := by
    rw [wmul_in ⟨by omega, by omega⟩]; rfl
  have hdrop : dropI l (minI (lenI l) (wmul .i64 4 (k : Int))) = l.drop (4 * k) := by
    rw [hmin, dropI_eq]
    by_cases h : (l.length : Int) ≤ 4 * k
    · rw [List.drop_of_length_le (by omega), List.drop_of_length_le (by omega)]
    · congr 1; omega
  have hin : in1 l (minI (lenI l) (wmul .i64 4 (k : Int))) = true := by
    rw [hmin, in1, ← Bool.decide_and]; exact decide_eq_true ⟨by omega, by omega⟩
  have hrd := read_eq (l.drop (4 * k)) 4 (by rw [List.length_drop]; omega)
  have h4 : wadd .i64 (wmul .i64 4 (k : Int)) 4 = 4 * (k : Int) + 4 := by rw [wmul_in ⟨by omega, by omega⟩, wadd_in ⟨by omega, by omega⟩]
  simp only [hin, hdrop, hrd, h4, ifB_t, bindO_some, Int.toNat_natCast]
  simp only [stepK_ifB, stepK_map, stepK_inl, stepK_bind]
  rw [ifB_ltI]
  by_cases h8 : (k : Int) < 8
  · rw [if_pos h8]
    rcases rd4 (l.drop (4 * k)) with ⟨r1, r2, r3⟩ | ⟨r1, r2, r3, r4, r5⟩
    · rw [ifB_neI, r3, if_neg (by decide), zr_torn (by omega) r1]
    · rw [ifB_neI, r3, if_pos rfl]
      generalize hx : (readR (List.drop (4 * k) l) 4).fst = x at *
      have hm := mul_bd (a := x % 8) (b := sc) (c := 16777216) (by omega) (by omega) (by omega) (by omega)
      have hsc : sc ≤ 2097152 := by
        rw [g4]
        exact (by decide : ∀ k : Fin 8, (8 : Int) ^ k.val ≤ 2097152) ⟨k, by omega⟩
      rw [wrem8 r4, wmul_in ⟨by omega, by omega⟩, wadd_in ⟨by omega, by omega⟩, wmul_in (a := sc) (b := 8) ⟨by omega, by omega⟩, wadd_nat (by omega)]
      have hmm := mul_bd (a := x % 8) (b := sc) (c := 2097152) (by omega) (by omega) (by omega) hsc
      generalize hN : n + x % 8 * sc = N at *
      have hwa : wadd .i64 N 1 = N + 1 := wadd_in ⟨by omega, by omega⟩
      have hwn : wneg .i64 (N + 1) = 0 - (N + 1) := wneg_in ⟨by omega, by omega⟩
      rw [hwa, hwn, wrem2 (by omega)]
      -- what is read
      have tail : ¬ (x = 0 ∧ 0 < k) → ifB (gtI N 8000000) (some (0, 0, 3)) (ifB (ltI x 8) (ifB (eqI (N % 2) 1) (some (wquo IntKind.i64 (0 - (N + 1)) 2, 4 * (k : Int) + 4, 0)) (some (wquo IntKind.i64 N 2, 4 * (k : Int) + 4, 0))) (K (N, sc * 8, ((k + 1 : Nat) : Int)))) =
          some (zread (8 - k) k n sc (List.drop (4 * k) l)) := by
        intro hnf
        rw [ifB_gtI]
        by_cases hr : 8000000 < N
        · rw [if_pos hr, zr_range (by omega) r1 (by rw [hx]; exact hnf) (by rw [hx, hN]; exact hr)]
        rw [if_neg hr, ifB_ltI]
        by_cases hd : x < 8
        · rw [if_pos hd, zr_done (by omega) r1 (by rw [hx]; exact hnf) (by rw [hx, hN]; omega) (by rw [hx]; exact hd), hx, hN, ifB_eqI]
          rcases unf_or (n := N) (by omega) with ⟨u1, u2, u3⟩ | ⟨u1, u2, u3⟩
          · rw [if_pos u1]
            unfold wquo
            rw [u3, wr_id (by omega) (by omega)]
          · rw [if_neg (by omega)]
            unfold wquo
            rw [u3, wr_id (by omega) (by omega)]
        · rw [if_neg hd, zr_next (by omega) r1 (by rw [hx]; exact hnf) (by rw [hx, hN]; omega) (by rw [hx]; exact hd), hx, hN]
          rw [hk _ ⟨by show (0 : Int) ≤ ((k + 1 : Nat) : Int); omega, by show ((k + 1 : Nat) : Int) ≤ 8; omega, by show 0 ≤ N; omega, by show N ≤ 8000000; omega, by show sc * 8 = 8 ^ (((k + 1 : Nat) : Int)).toNat; rw [Int.toNat_natCast, g4, Int.pow_succ]⟩ (by show 8 - (((k + 1 : Nat) : Int)).toNat < 8 - ((k : Int)).toNat; omega)]
          simp only [Int.toNat_natCast, List.drop_drop]
          rfl
      rw [ifB_eqI]
      by_cases h0 : x = 0
      · rw [if_pos h0, ifB_gtI]
        by_cases hk0 : (0 : Int) < k
        · rw [if_pos hk0, zr_form (by omega) r1 (by rw [hx]; exact h0) (by omega)]
        · rw [if_neg hk0]; exact tail (by omega)
      · rw [if_neg h0]; exact tail (by omega)
  · rw [if_neg h8]
    have : k = 8 := by omega
    subst this
    rfl
end Go.Proofs.Y
namespace Go.Proofs.Y
open Go.Rb Go.Kx
end Go.Proofs.Y
