/-
  What is proved, part by part: what rainbooklaw.ShelfSays comes to. what rainbooklaw.ShelfSame comes to. what rainbooklaw.ShelfAll comes to. what slices.Grow[[]api.Entry,api.Entry] comes to. what slices.Concat[[]api.Entry,api.Entry] comes to. what rainbooklaw.ShelfLast comes to. ShelfSays, ShelfSame, ShelfAll, ShelfLast: what the laws' bodies come to is true. what note.Check comes to. what store.Next comes to. what store.Replay comes to. what rainbookref.CheckRec comes to. what rainbookref.nexted comes to. what rainbookref.Nexted comes to. what rainbookref.FreshShelf comes to. what rainbookref.ShelfOf comes to. records checked, made of shelves, replayed: what the program's and the document's functions come to, in plain words. what rainbooklaw.batch comes to. what rainbooklaw.stored comes to. what rainbooklaw.StoreSays comes to. what rainbooklaw.StorePoints comes to. StoreSays, StorePoints: what the laws' bodies come to is true. Conditions: none.
-/
import Derived.Test.YtoihccclnkhmaaaKPA
import Derived.Test.YtoihccclnkhmaaaKPB
import Derived.Test.YtoihccclnkhmaaaKPC
set_option linter.unusedVariables false
set_option linter.unusedSimpArgs false
set_option linter.unnecessarySimpa false
set_option maxRecDepth 4000
namespace Go.Proofs.Y
open Go.Rb Go.Kx
noncomputable def C_rainbooklaw_ShelfSays : Code := bodyOf Try.f18
noncomputable def G_rainbooklaw_ShelfSays : FuncId → Option GS := tabG [(69, R_shelf_All), (70, R_shelf_Put), (71, R_shelf_Seal), (72, R_shelf_Merge), (73, R_shelf_Drop), (63, R_rainbookref_CheckShelf), (74, R_rainbooklaw_shelved), (75, R_shelf_Check), (76, R_shelf_Same), (77, R_rainbookref_SameShelf), (78, R_shelf_New), (79, R_rainbookref_FreshShelf), (80, R_rainbookref_PutAll), (81, R_rainbookref_Sealed), (82, R_rainbookref_MergedRow), (83, R_rainbookref_Dropped), (65, R_rainbookref_RowPoints), (50, R_equalP)]
theorem g_rainbooklaw_ShelfSays : ΓOK Try.prog G_rainbooklaw_ShelfSays := ΓOK_cons (R_shelf_All_ok) (ΓOK_cons (R_shelf_Put_ok) (ΓOK_cons (R_shelf_Seal_ok) (ΓOK_cons (R_shelf_Merge_ok) (ΓOK_cons (R_shelf_Drop_ok) (ΓOK_cons (R_rainbookref_CheckShelf_ok) (ΓOK_cons (R_rainbooklaw_shelved_ok) (ΓOK_cons (R_shelf_Check_ok) (ΓOK_cons (R_shelf_Same_ok) (ΓOK_cons (R_rainbookref_SameShelf_ok) (ΓOK_cons (R_shelf_New_ok) (ΓOK_cons (R_rainbookref_FreshShelf_ok) (ΓOK_cons (R_rainbookref_PutAll_ok) (ΓOK_cons (R_rainbookref_Sealed_ok) (ΓOK_cons (R_rainbookref_MergedRow_ok) (ΓOK_cons (R_rainbookref_Dropped_ok) (ΓOK_cons (R_rainbookref_RowPoints_ok) (ΓOK_cons (R_equalP_ok) (ΓOK_nil))))))))))))))))))
def H_rainbooklaw_ShelfSays : HT := ⟨tabL [], tabH []⟩
abbrev is_rainbooklaw_ShelfSays : List IT := [.v (.one (.sl 78 (.cons (.sl 58 (.cons (.int .i64) (.cons (.int .i64) (.cons (.int .i64) (.one (.sl 4 (.one .bool))))))) (.one (.sl 34 (.cons (.int .i64) (.one (.int .i64)))))))) true, .v (.one (.sl 97 (.cons (.int .i64) (.cons (.int .i64) (.one (.int .i64)))))) false, .v (.one (.int .i64)) false, .v (.one (.int .i64)) false, .v (.one (.sl 78 (.cons (.sl 58 (.cons (.int .i64) (.cons (.int .i64) (.cons (.int .i64) (.one (.sl 4 (.one .bool))))))) (.one (.sl 34 (.cons (.int .i64) (.one (.int .i64)))))))) true]
abbrev os_rainbooklaw_ShelfSays : List OT := [⟨.one .bool, false, []⟩]
set_option maxRecDepth 100000
noncomputable def F_rainbooklaw_ShelfSays : List (List (Int × Int × Int × List Bool) × List (Int × Int)) → List (Int × Int × Int) → Int → Int → List (List (Int × Int × Int × List Bool) × List (Int × Int)) → Option Bool := fun (a : List (List (Int × Int × Int × List Bool) × List (Int × Int))) (b : List (Int × Int × Int)) (c d : Int) (e : List (List (Int × Int × Int × List Bool) × List (Int × Int))) => bindO (F_shelf_All a c) fun (y : List (Int × Int) × Int) => bindO (F_shelf_Put a b) fun (y_1 : List (List (Int × Int × Int × List Bool) × List (Int × Int)) × Int) => bindO (F_shelf_Seal a c d) fun (y_2 : List (List (Int × Int × Int × List Bool) × List (Int × Int)) × Int) => bindO (F_shelf_Merge a c d) fun (y_3 : List (List (Int × Int × Int × List Bool) × List (Int × Int)) × Int) => bindO (F_shelf_Drop a d) fun (y_4 : List (List (Int × Int × Int × List Bool) × List (Int × Int)) × Int) => bindO (F_rainbookref_CheckShelf a) fun (y_5 : Int) => bindO F_rainbooklaw_shelved fun (y_6 : Bool) => ifB (notB y_6) (some false) (bindO (F_shelf_Check a) fun (y_7 : Int) => ifB (neI y_7 y_5) (some false) (bindO (F_shelf_Same a e) fun (y_8 : Bool) => bindO (F_rainbookref_SameShelf a e) fun (y_9 : Bool) => ifB (notB (eqB y_8 y_9)) (some false) (bindO F_shelf_New fun (y_10 : List (List (Int × Int × Int × List Bool) × List (Int × Int))) => bindO F_rainbookref_FreshShelf fun (y_11 : List (List (Int × Int × Int × List Bool) × List (Int × Int))) => bindO (F_rainbookref_SameShelf y_10 y_11) fun (y_12 : Bool) => ifB (notB y_12) (some false) (ifB (neI y_5 0) (ifB (eqI y.2 y_5) (ifB (eqI y_1.2 y_5) (ifB (eqI y_2.2 y_5) (ifB (eqI y_3.2 y_5) (ifB (eqI y_4.2 y_5) (ifB (eqI (lenI y.1) 0) (bindO (F_rainbookref_SameShelf y_1.1 []) fun (y : Bool) => ifB y (bindO (F_rainbookref_SameShelf y_2.1 []) fun (y : Bool) => ifB y (bindO (F_rainbookref_SameShelf y_3.1 []) fun (y : Bool) => ifB y (bindO (F_rainbookref_SameShelf y_4.1 []) fun (y : Bool) => some y) (some false)) (some false)) (some false)) (some false)) (some false)) (some false)) (some false)) (some false)) (some false)) (bindO (F_rainbookref_PutAll a b) fun (y_13 : List (List (Int × Int × Int × List Bool) × List (Int × Int)) × Int) => bindO (F_rainbookref_Sealed a c d) fun (y_14 : List (List (Int × Int × Int × List Bool) × List (Int × Int)) × Int) => bindO (F_rainbookref_MergedRow a c d) fun (y_15 : List (List (Int × Int × Int × List Bool) × List (Int × Int)) × Int) => bindO (F_rainbookref_Dropped a d) fun (y_16 : List (List (Int × Int × Int × List Bool) × List (Int × Int)) × Int) => ifB (neI y_1.2 y_13.2) (some false) (bindO (F_rainbookref_SameShelf y_1.1 y_13.1) fun (y_17 : Bool) => ifB (notB y_17) (some false) (ifB (neI y_2.2 y_14.2) (some false) (bindO (F_rainbookref_SameShelf y_2.1 y_14.1) fun (y_18 : Bool) => ifB (notB y_18) (some false) (ifB (neI y_3.2 y_15.2) (some false) (bindO (F_rainbookref_SameShelf y_3.1 y_15.1) fun (y_19 : Bool) => ifB (notB y_19) (some false) (ifB (neI y_4.2 y_16.2) (some false) (bindO (F_rainbookref_SameShelf y_4.1 y_16.1) fun (y_20 : Bool) => ifB (notB y_20) (some false) (ifB (ltI c 0) (ifB (eqI y.2 5) (some (eqI (lenI y.1) 0)) (some false)) (ifB (gtI c 3) (ifB (eqI y.2 5) (some (eqI (lenI y.1) 0)) (some false)) (bindO (atI a c) fun (y_21 : List (Int × Int × Int × List Bool) × List (Int × Int)) => bindO (F_rainbookref_RowPoints (y_21.1, y_21.2)) fun (y_22 : List (Int × Int) × Int) => ifB (eqI y.2 0) (bindO (F_equalP y.1 y_22.1) fun (y : Bool) => some y) (some false))))))))))))))))
theorem F_rainbooklaw_ShelfSays_eq (x : PI is_rainbooklaw_ShelfSays) : F_rainbooklaw_ShelfSays (x.1) (x.2.1) (x.2.2.1) (x.2.2.2.1) (x.2.2.2.2) = fnE T G_rainbooklaw_ShelfSays H_rainbooklaw_ShelfSays C_rainbooklaw_ShelfSays (resOf Try.f18) is_rainbooklaw_ShelfSays os_rainbooklaw_ShelfSays x := by kernel_rfl
noncomputable abbrev R_rainbooklaw_ShelfSays : GS := mkSpec false is_rainbooklaw_ShelfSays os_rainbooklaw_ShelfSays fun x => F_rainbooklaw_ShelfSays (x.1) (x.2.1) (x.2.2.1) (x.2.2.2.1) (x.2.2.2.2)
theorem R_rainbooklaw_ShelfSays_ok : GSOK Try.prog 18 R_rainbooklaw_ShelfSays := spec_ok tok g_rainbooklaw_ShelfSays fmo (Ht := H_rainbooklaw_ShelfSays) (fn := Try.f18) (Try.func18) (c := C_rainbooklaw_ShelfSays) (by kernel_rfl) (by kernel_rfl) (by kernel_rfl) (by decide +kernel) (by decide) F_rainbooklaw_ShelfSays_eq
end Go.Proofs.Y
namespace Go.Proofs.Y
open Go.Rb Go.Kx
noncomputable def C_rainbooklaw_ShelfSame : Code := bodyOf Try.f19
noncomputable def G_rainbooklaw_ShelfSame : FuncId → Option GS := tabG [(30, R_rainbooklaw_at), (69, R_shelf_All), (74, R_rainbooklaw_shelved), (71, R_shelf_Seal), (50, R_equalP), (72, R_shelf_Merge), (73, R_shelf_Drop)]
theorem g_rainbooklaw_ShelfSame : ΓOK Try.prog G_rainbooklaw_ShelfSame := ΓOK_cons (R_rainbooklaw_at_ok) (ΓOK_cons (R_shelf_All_ok) (ΓOK_cons (R_rainbooklaw_shelved_ok) (ΓOK_cons (R_shelf_Seal_ok) (ΓOK_cons (R_equalP_ok) (ΓOK_cons (R_shelf_Merge_ok) (ΓOK_cons (R_shelf_Drop_ok) (ΓOK_nil)))))))
def H_rainbooklaw_ShelfSame : HT := ⟨tabL [(22, .it [] (dyn [.t 127 (.int .i64)]))], tabH []⟩
abbrev is_rainbooklaw_ShelfSame : List IT := [.v (.one (.sl 78 (.cons (.sl 58 (.cons (.int .i64) (.cons (.int .i64) (.cons (.int .i64) (.one (.sl 4 (.one .bool))))))) (.one (.sl 34 (.cons (.int .i64) (.one (.int .i64)))))))) true, .v (.one (.int .i64)) false, .v (.one (.int .i64)) false, .v (.one (.int .i64)) false]
abbrev os_rainbooklaw_ShelfSame : List OT := [⟨.one .bool, false, []⟩]
set_option maxRecDepth 100000
noncomputable def F_rainbooklaw_ShelfSame : List (List (Int × Int × Int × List Bool) × List (Int × Int)) → Int → Int → Int → Option Bool := fun (a : List (List (Int × Int × Int × List Bool) × List (Int × Int))) (b c d : Int) => bindO (F_rainbooklaw_at d 4) fun (y : Int) => bindO (F_shelf_All a y) fun (y_1 : List (Int × Int) × Int) => bindO F_rainbooklaw_shelved fun (y_2 : Bool) => ifB (notB y_2) (bindO F_rainbooklaw_shelved fun (y : Bool) => some y) (ifB (neI y_1.2 0) (bindO F_rainbooklaw_shelved fun (y : Bool) => some y) (bindO (F_shelf_Seal a b c) fun (y_3 : List (List (Int × Int × Int × List Bool) × List (Int × Int)) × Int) => ifB (eqI y_3.2 0) (bindO (F_shelf_All y_3.1 y) fun (y_4 : List (Int × Int) × Int) => ifB (neI y_4.2 0) (some false) (bindO (F_equalP y_4.1 y_1.1) fun (y_5 : Bool) => ifB (notB y_5) (some false) (bindO (F_shelf_Merge a b c) fun (y_6 : List (List (Int × Int × Int × List Bool) × List (Int × Int)) × Int) => ifB (eqI y_6.2 0) (bindO (F_shelf_All y_6.1 y) fun (y_7 : List (Int × Int) × Int) => ifB (neI y_7.2 0) (some false) (bindO (F_equalP y_7.1 y_1.1) fun (y_8 : Bool) => ifB (notB y_8) (some false) (bindO (F_shelf_Drop a c) fun (y_9 : List (List (Int × Int × Int × List Bool) × List (Int × Int)) × Int) => ifB (neI y_9.2 0) (some true) (bindO (F_shelf_All y_9.1 y) fun (y : List (Int × Int) × Int) => ifB (neI y.2 0) (some false) (ifB (gtI (lenI y.1) (lenI y_1.1)) (some false) (ifB (in1 y_1.1 (wsub .i64 (lenI y_1.1) (lenI y.1))) (bindO (F_equalP y.1 (dropI y_1.1 (wsub .i64 (lenI y_1.1) (lenI y.1)))) fun (y_10 : Bool) => ifB (notB y_10) (some false) (ifB (in1 y_1.1 (wsub .i64 (lenI y_1.1) (lenI y.1))) (loopN maxR (fun (x : Int) => ifB (ltI x (lenI (takeI y_1.1 (wsub .i64 (lenI y_1.1) (lenI y.1))))) (bindO (atI (takeI y_1.1 (wsub .i64 (lenI y_1.1) (lenI y.1))) x) fun (y : Int × Int) => ifB (geI y.1 c) (mapO Sum.inr (some false)) (some (Sum.inl (wadd .i64 x 1)))) (mapO Sum.inr (some true))) 0) none)) none)))))) (bindO (F_shelf_Drop a c) fun (y_7 : List (List (Int × Int × Int × List Bool) × List (Int × Int)) × Int) => ifB (neI y_7.2 0) (some true) (bindO (F_shelf_All y_7.1 y) fun (y : List (Int × Int) × Int) => ifB (neI y.2 0) (some false) (ifB (gtI (lenI y.1) (lenI y_1.1)) (some false) (ifB (in1 y_1.1 (wsub .i64 (lenI y_1.1) (lenI y.1))) (bindO (F_equalP y.1 (dropI y_1.1 (wsub .i64 (lenI y_1.1) (lenI y.1)))) fun (y_8 : Bool) => ifB (notB y_8) (some false) (ifB (in1 y_1.1 (wsub .i64 (lenI y_1.1) (lenI y.1))) (loopN maxR (fun (x : Int) => ifB (ltI x (lenI (takeI y_1.1 (wsub .i64 (lenI y_1.1) (lenI y.1))))) (bindO (atI (takeI y_1.1 (wsub .i64 (lenI y_1.1) (lenI y.1))) x) fun (y : Int × Int) => ifB (geI y.1 c) (mapO Sum.inr (some false)) (some (Sum.inl (wadd .i64 x 1)))) (mapO Sum.inr (some true))) 0) none)) none))))))) (bindO (F_shelf_Merge a b c) fun (y_4 : List (List (Int × Int × Int × List Bool) × List (Int × Int)) × Int) => ifB (eqI y_4.2 0) (bindO (F_shelf_All y_4.1 y) fun (y_5 : List (Int × Int) × Int) => ifB (neI y_5.2 0) (some false) (bindO (F_equalP y_5.1 y_1.1) fun (y_6 : Bool) => ifB (notB y_6) (some false) (bindO (F_shelf_Drop a c) fun (y_7 : List (List (Int × Int × Int × List Bool) × List (Int × Int)) × Int) => ifB (neI y_7.2 0) (some true) (bindO (F_shelf_All y_7.1 y) fun (y : List (Int × Int) × Int) => ifB (neI y.2 0) (some false) (ifB (gtI (lenI y.1) (lenI y_1.1)) (some false) (ifB (in1 y_1.1 (wsub .i64 (lenI y_1.1) (lenI y.1))) (bindO (F_equalP y.1 (dropI y_1.1 (wsub .i64 (lenI y_1.1) (lenI y.1)))) fun (y_8 : Bool) => ifB (notB y_8) (some false) (ifB (in1 y_1.1 (wsub .i64 (lenI y_1.1) (lenI y.1))) (loopN maxR (fun (x : Int) => ifB (ltI x (lenI (takeI y_1.1 (wsub .i64 (lenI y_1.1) (lenI y.1))))) (bindO (atI (takeI y_1.1 (wsub .i64 (lenI y_1.1) (lenI y.1))) x) fun (y : Int × Int) => ifB (geI y.1 c) (mapO Sum.inr (some false)) (some (Sum.inl (wadd .i64 x 1)))) (mapO Sum.inr (some true))) 0) none)) none)))))) (bindO (F_shelf_Drop a c) fun (y_5 : List (List (Int × Int × Int × List Bool) × List (Int × Int)) × Int) => ifB (neI y_5.2 0) (some true) (bindO (F_shelf_All y_5.1 y) fun (y : List (Int × Int) × Int) => ifB (neI y.2 0) (some false) (ifB (gtI (lenI y.1) (lenI y_1.1)) (some false) (ifB (in1 y_1.1 (wsub .i64 (lenI y_1.1) (lenI y.1))) (ifB (inN y_1.1 (addN 0 (natI (wsub .i64 (lenI y_1.1) (lenI y.1)))) (subNI (lenN y_1.1) (wsub .i64 (lenI y_1.1) (lenI y.1)))) (bindO (F_equalP y.1 (subN y_1.1 (addN 0 (natI (wsub .i64 (lenI y_1.1) (lenI y.1)))) (subNI (lenN y_1.1) (wsub .i64 (lenI y_1.1) (lenI y.1))))) fun (y_6 : Bool) => ifB (notB y_6) (some false) (ifB (in1 y_1.1 (wsub .i64 (lenI y_1.1) (lenI y.1))) (loopN maxR (fun (x : Int) => ifB (ltI x (lenI (takeI y_1.1 (wsub .i64 (lenI y_1.1) (lenI y.1))))) (bindO (atI (takeI y_1.1 (wsub .i64 (lenI y_1.1) (lenI y.1))) x) fun (y : Int × Int) => ifB (geI y.1 c) (mapO Sum.inr (some false)) (some (Sum.inl (wadd .i64 x 1)))) (mapO Sum.inr (some true))) 0) none)) none) none)))))))
theorem F_rainbooklaw_ShelfSame_eq (x : PI is_rainbooklaw_ShelfSame) : F_rainbooklaw_ShelfSame (x.1) (x.2.1) (x.2.2.1) (x.2.2.2) = fnE T G_rainbooklaw_ShelfSame H_rainbooklaw_ShelfSame C_rainbooklaw_ShelfSame (resOf Try.f19) is_rainbooklaw_ShelfSame os_rainbooklaw_ShelfSame x := by kernel_rfl
noncomputable abbrev R_rainbooklaw_ShelfSame : GS := mkSpec false is_rainbooklaw_ShelfSame os_rainbooklaw_ShelfSame fun x => F_rainbooklaw_ShelfSame (x.1) (x.2.1) (x.2.2.1) (x.2.2.2)
theorem R_rainbooklaw_ShelfSame_ok : GSOK Try.prog 19 R_rainbooklaw_ShelfSame := spec_ok tok g_rainbooklaw_ShelfSame fmo (Ht := H_rainbooklaw_ShelfSame) (fn := Try.f19) (Try.func19) (c := C_rainbooklaw_ShelfSame) (by kernel_rfl) (by kernel_rfl) (by kernel_rfl) (by decide +kernel) (by decide) F_rainbooklaw_ShelfSame_eq
end Go.Proofs.Y
namespace Go.Proofs.Y
open Go.Rb Go.Kx
noncomputable def C_rainbooklaw_ShelfAll : Code := bodyOf Try.f20
noncomputable def G_rainbooklaw_ShelfAll : FuncId → Option GS := tabG [(30, R_rainbooklaw_at), (69, R_shelf_All), (74, R_rainbooklaw_shelved), (70, R_shelf_Put), (50, R_equalP)]
theorem g_rainbooklaw_ShelfAll : ΓOK Try.prog G_rainbooklaw_ShelfAll := ΓOK_cons (R_rainbooklaw_at_ok) (ΓOK_cons (R_shelf_All_ok) (ΓOK_cons (R_rainbooklaw_shelved_ok) (ΓOK_cons (R_shelf_Put_ok) (ΓOK_cons (R_equalP_ok) (ΓOK_nil)))))
def H_rainbooklaw_ShelfAll : HT := ⟨tabL [(10, .it [] (dyn [.a 7 34 (.cons (.int .i64) (.one (.int .i64))), .t 44 (.int .i64)]))], tabH []⟩
abbrev is_rainbooklaw_ShelfAll : List IT := [.v (.one (.sl 78 (.cons (.sl 58 (.cons (.int .i64) (.cons (.int .i64) (.cons (.int .i64) (.one (.sl 4 (.one .bool))))))) (.one (.sl 34 (.cons (.int .i64) (.one (.int .i64)))))))) true, .v (.one (.sl 97 (.cons (.int .i64) (.cons (.int .i64) (.one (.int .i64)))))) false, .v (.one (.int .i64)) false]
abbrev os_rainbooklaw_ShelfAll : List OT := [⟨.one .bool, false, []⟩]
set_option maxRecDepth 100000
noncomputable def F_rainbooklaw_ShelfAll : List (List (Int × Int × Int × List Bool) × List (Int × Int)) → List (Int × Int × Int) → Int → Option Bool := fun (a : List (List (Int × Int × Int × List Bool) × List (Int × Int))) (b : List (Int × Int × Int)) (c : Int) => bindO (F_rainbooklaw_at c 4) fun (y : Int) => bindO (F_shelf_All a y) fun (y_1 : List (Int × Int) × Int) => bindO F_rainbooklaw_shelved fun (y_2 : Bool) => ifB (notB y_2) (bindO F_rainbooklaw_shelved fun (y : Bool) => some y) (ifB (neI y_1.2 0) (bindO F_rainbooklaw_shelved fun (y : Bool) => some y) (bindO (F_shelf_Put a b) fun (y_3 : List (List (Int × Int × Int × List Bool) × List (Int × Int)) × Int) => ifB (neI y_3.2 0) (some true) (bindO (F_shelf_All y_3.1 y) fun (y_4 : List (Int × Int) × Int) => loopN maxR (fun (x : Int × List (Int × Int)) => ifB (ltI x.1 (lenI b)) (bindO (atI b x.1) fun (y_5 : Int × Int × Int) => ifB (eqI y_5.1 y) (ifB (roomA 16 x.2 [(y_5.2.1, y_5.2.2)]) (some (Sum.inl (wadd .i64 x.1 1, cat x.2 [(y_5.2.1, y_5.2.2)]))) none) (some (Sum.inl (wadd .i64 x.1 1, x.2)))) (mapO Sum.inr (ifB (eqI y_4.2 0) (bindO (F_equalP y_4.1 x.2) fun (y : Bool) => some y) (some false)))) (0, y_1.1))))
theorem F_rainbooklaw_ShelfAll_eq (x : PI is_rainbooklaw_ShelfAll) : F_rainbooklaw_ShelfAll (x.1) (x.2.1) (x.2.2) = fnE T G_rainbooklaw_ShelfAll H_rainbooklaw_ShelfAll C_rainbooklaw_ShelfAll (resOf Try.f20) is_rainbooklaw_ShelfAll os_rainbooklaw_ShelfAll x := by kernel_rfl
noncomputable abbrev R_rainbooklaw_ShelfAll : GS := mkSpec false is_rainbooklaw_ShelfAll os_rainbooklaw_ShelfAll fun x => F_rainbooklaw_ShelfAll (x.1) (x.2.1) (x.2.2)
theorem R_rainbooklaw_ShelfAll_ok : GSOK Try.prog 20 R_rainbooklaw_ShelfAll := spec_ok tok g_rainbooklaw_ShelfAll fmo (Ht := H_rainbooklaw_ShelfAll) (fn := Try.f20) (Try.func20) (c := C_rainbooklaw_ShelfAll) (by kernel_rfl) (by kernel_rfl) (by kernel_rfl) (by decide +kernel) (by decide) F_rainbooklaw_ShelfAll_eq
end Go.Proofs.Y
namespace Go.Proofs.Y
open Go.Rb Go.Kx
noncomputable def C_growE : Code := bodyOf Try.f116
noncomputable def G_growE : FuncId → Option GS := tabG []
theorem g_growE : ΓOK Try.prog G_growE := ΓOK_nil
def H_growE : HT := ⟨tabL [], tabH []⟩
noncomputable def I_growE : GS := inl T G_growE H_growE C_growE (resOf Try.f116) (Try.f116.ntmps)
theorem I_growE_ok : GSOK Try.prog 116 I_growE := inl_ok tok g_growE fmo (Ht := H_growE) (fn := Try.f116) (Try.func116) (c := C_growE) (by kernel_rfl) (by kernel_rfl) (by kernel_rfl)
end Go.Proofs.Y
namespace Go.Proofs.Y
open Go.Rb Go.Kx
noncomputable def C_concatE : Code := bodyOf Try.f84
noncomputable def G_concatE : FuncId → Option GS := tabG [(116, I_growE)]
theorem g_concatE : ΓOK Try.prog G_concatE := ΓOK_cons (I_growE_ok) (ΓOK_nil)
def H_concatE : HT := ⟨tabL [(3, .it [] (dyn [.t 3 (.int .i64), .t 11 (.int .i64)])), (11, .it [] (dyn [.a 6 97 (.cons (.int .i64) (.cons (.int .i64) (.one (.int .i64)))), .t 27 (.int .i64)]))], tabH [(10, [.trim 6])]⟩
abbrev is_concatE : List IT := [.v (.one (.sl 86 (.one (.sl 97 (.cons (.int .i64) (.cons (.int .i64) (.one (.int .i64)))))))) false]
abbrev os_concatE : List OT := [⟨.one (.sl 97 (.cons (.int .i64) (.cons (.int .i64) (.one (.int .i64))))), false, []⟩]
set_option maxRecDepth 100000
noncomputable def F_concatE : List (List (Int × Int × Int)) → Option (List (Int × Int × Int)) := fun (a : List (List (Int × Int × Int))) => loopN maxR (fun (x : Int × Int) => ifB (ltI x.2 (lenI a)) (bindO (atI a x.2) fun (y : List (Int × Int × Int)) => ifB (ltI (wadd .i64 x.1 (lenI y)) 0) none (some (Sum.inl (wadd .i64 x.1 (lenI y), wadd .i64 x.2 1)))) (mapO Sum.inr (ifB (ltI x.1 0) none (ifB (gtI (wsub .i64 x.1 (wsub .i64 0 0)) 0) (ifB (roomZ 24 (wsub .i64 x.1 (wsub .i64 0 0))) (ifB (in1 (repI (wsub .i64 x.1 (wsub .i64 0 0)) (0, 0, 0)) 0) (ifB (inN (repI (wsub .i64 x.1 (wsub .i64 0 0)) (0, 0, 0)) 0 (natI 0)) (loopN maxR (fun (x : Int × List (Int × Int × Int)) => ifB (ltI x.1 (lenI a)) (bindO (atI a x.1) fun (y : List (Int × Int × Int)) => ifB (roomA 24 x.2 y) (some (Sum.inl (wadd .i64 x.1 1, cat x.2 y))) none) (mapO Sum.inr (some x.2))) (0, subN (repI (wsub .i64 x.1 (wsub .i64 0 0)) (0, 0, 0)) 0 (natI 0))) none) none) none) (loopN maxR (fun (x : Int × List (Int × Int × Int)) => ifB (ltI x.1 (lenI a)) (bindO (atI a x.1) fun (y : List (Int × Int × Int)) => ifB (roomA 24 x.2 y) (some (Sum.inl (wadd .i64 x.1 1, cat x.2 y))) none) (mapO Sum.inr (some x.2))) (0, [])))))) (0, 0)
theorem F_concatE_eq (x : PI is_concatE) : F_concatE x = fnE T G_concatE H_concatE C_concatE (resOf Try.f84) is_concatE os_concatE x := by kernel_rfl
noncomputable abbrev R_concatE : GS := mkSpec false is_concatE os_concatE fun x => F_concatE x
theorem R_concatE_ok : GSOK Try.prog 84 R_concatE := spec_ok tok g_concatE fmo (Ht := H_concatE) (fn := Try.f84) (Try.func84) (c := C_concatE) (by kernel_rfl) (by kernel_rfl) (by kernel_rfl) (by decide +kernel) (by decide) F_concatE_eq
end Go.Proofs.Y
namespace Go.Proofs.Y
open Go.Rb Go.Kx
noncomputable def C_rainbooklaw_ShelfLast : Code := bodyOf Try.f21
noncomputable def G_rainbooklaw_ShelfLast : FuncId → Option GS := tabG [(30, R_rainbooklaw_at), (62, R_query_Last), (74, R_rainbooklaw_shelved), (70, R_shelf_Put), (84, R_concatE)]
theorem g_rainbooklaw_ShelfLast : ΓOK Try.prog G_rainbooklaw_ShelfLast := ΓOK_cons (R_rainbooklaw_at_ok) (ΓOK_cons (R_query_Last_ok) (ΓOK_cons (R_rainbooklaw_shelved_ok) (ΓOK_cons (R_shelf_Put_ok) (ΓOK_cons (R_concatE_ok) (ΓOK_nil)))))
def H_rainbooklaw_ShelfLast : HT := ⟨tabL [], tabH []⟩
abbrev is_rainbooklaw_ShelfLast : List IT := [.v (.one (.sl 78 (.cons (.sl 58 (.cons (.int .i64) (.cons (.int .i64) (.cons (.int .i64) (.one (.sl 4 (.one .bool))))))) (.one (.sl 34 (.cons (.int .i64) (.one (.int .i64)))))))) true, .v (.one (.int .i64)) false, .v (.one (.int .i64)) false, .v (.one (.int .i64)) false, .v (.one (.sl 97 (.cons (.int .i64) (.cons (.int .i64) (.one (.int .i64)))))) false]
abbrev os_rainbooklaw_ShelfLast : List OT := [⟨.one .bool, false, []⟩]
set_option maxRecDepth 100000
noncomputable def F_rainbooklaw_ShelfLast : List (List (Int × Int × Int × List Bool) × List (Int × Int)) → Int → Int → Int → List (Int × Int × Int) → Option Bool := fun (a : List (List (Int × Int × Int × List Bool) × List (Int × Int))) (b c d : Int) (e : List (Int × Int × Int)) => bindO (F_rainbooklaw_at b 4) fun (y : Int) => bindO (F_query_Last a y) fun (y_1 : (Int × Int) × Bool × Int) => bindO F_rainbooklaw_shelved fun (y_2 : Bool) => ifB (notB y_2) (bindO F_rainbooklaw_shelved fun (y : Bool) => some y) (ifB (neI y_1.2.2 0) (bindO F_rainbooklaw_shelved fun (y : Bool) => some y) (bindO (F_shelf_Put a [(y, c, d)]) fun (y_3 : List (List (Int × Int × Int × List Bool) × List (Int × Int)) × Int) => ifB y_1.2.1 (ifB (leI c y_1.1.1) (ifB (eqI y_3.2 0) (some false) (ifB (neI y_3.2 0) (bindO (F_concatE [[(y, c, d)], e]) fun (y : List (Int × Int × Int)) => bindO (F_shelf_Put a y) fun (y : List (List (Int × Int × Int × List Bool) × List (Int × Int)) × Int) => some (neI y.2 0)) (bindO (F_query_Last y_3.1 y) fun (y_4 : (Int × Int) × Bool × Int) => ifB (neI y_4.2.2 0) (some false) (ifB (notB y_4.2.1) (some false) (ifB (notB (eqL [y_4.1.1, y_4.1.2] [c, d])) (some false) (bindO (F_shelf_Put y_3.1 [(y, c, d)]) fun (y : List (List (Int × Int × Int × List Bool) × List (Int × Int)) × Int) => ifB (eqI y.2 7) (some true) (some (eqI y.2 2)))))))) (ifB (neI y_3.2 0) (bindO (F_concatE [[(y, c, d)], e]) fun (y : List (Int × Int × Int)) => bindO (F_shelf_Put a y) fun (y : List (List (Int × Int × Int × List Bool) × List (Int × Int)) × Int) => some (neI y.2 0)) (bindO (F_query_Last y_3.1 y) fun (y_4 : (Int × Int) × Bool × Int) => ifB (neI y_4.2.2 0) (some false) (ifB (notB y_4.2.1) (some false) (ifB (notB (eqL [y_4.1.1, y_4.1.2] [c, d])) (some false) (bindO (F_shelf_Put y_3.1 [(y, c, d)]) fun (y : List (List (Int × Int × Int × List Bool) × List (Int × Int)) × Int) => ifB (eqI y.2 7) (some true) (some (eqI y.2 2)))))))) (ifB (neI y_3.2 0) (bindO (F_concatE [[(y, c, d)], e]) fun (y : List (Int × Int × Int)) => bindO (F_shelf_Put a y) fun (y : List (List (Int × Int × Int × List Bool) × List (Int × Int)) × Int) => some (neI y.2 0)) (bindO (F_query_Last y_3.1 y) fun (y_4 : (Int × Int) × Bool × Int) => ifB (neI y_4.2.2 0) (some false) (ifB (notB y_4.2.1) (some false) (ifB (notB (eqL [y_4.1.1, y_4.1.2] [c, d])) (some false) (bindO (F_shelf_Put y_3.1 [(y, c, d)]) fun (y : List (List (Int × Int × Int × List Bool) × List (Int × Int)) × Int) => ifB (eqI y.2 7) (some true) (some (eqI y.2 2)))))))))
theorem F_rainbooklaw_ShelfLast_eq (x : PI is_rainbooklaw_ShelfLast) : F_rainbooklaw_ShelfLast (x.1) (x.2.1) (x.2.2.1) (x.2.2.2.1) (x.2.2.2.2) = fnE T G_rainbooklaw_ShelfLast H_rainbooklaw_ShelfLast C_rainbooklaw_ShelfLast (resOf Try.f21) is_rainbooklaw_ShelfLast os_rainbooklaw_ShelfLast x := by kernel_rfl
noncomputable abbrev R_rainbooklaw_ShelfLast : GS := mkSpec false is_rainbooklaw_ShelfLast os_rainbooklaw_ShelfLast fun x => F_rainbooklaw_ShelfLast (x.1) (x.2.1) (x.2.2.1) (x.2.2.2.1) (x.2.2.2.2)
theorem R_rainbooklaw_ShelfLast_ok : GSOK Try.prog 21 R_rainbooklaw_ShelfLast := spec_ok tok g_rainbooklaw_ShelfLast fmo (Ht := H_rainbooklaw_ShelfLast) (fn := Try.f21) (Try.func21) (c := C_rainbooklaw_ShelfLast) (by kernel_rfl) (by kernel_rfl) (by kernel_rfl) (by decide +kernel) (by decide) F_rainbooklaw_ShelfLast_eq
end Go.Proofs.Y
namespace Go.Proofs.Y
open Go.Rb Go.Kx

theorem new_eq : F_shelf_New = some freshS := by
  unfold F_shelf_New
  rw [ifB_roomI, if_pos (by decide)]; rfl

def sh1 : Shf := [([], []), ([], [(10, 5), (20, 5), (30, 7)]), ([], []), ([], [])]
theorem nil_ok : okS ([] : Shf) := ⟨by decide, fun r hr => by cases hr⟩
theorem shelved_eq : F_rainbooklaw_shelved = some true := by
  unfold F_rainbooklaw_shelved
  have e1 : putS freshS [(1, 10, 5), (1, 20, 5), (1, 30, 7)] = (sh1, 0) := by decide +kernel
  have c1 : chkS sh1 = 0 := by decide +kernel
  have e2 : (putS sh1 [(0, 1, 0), (1, 30, 0)]).2 = 7 := by decide +kernel
  have e3 : sealS sh1 1 2 = (smallS, 0) := by decide +kernel
  have c3 : chkS smallS = 0 := by decide +kernel
  have e4 : (sealS smallS 1 1).2 = 0 := by decide +kernel
  have c4 : chkS (sealS smallS 1 1).1 = 0 := (sealS_ok e4).2.1
  have e5 : (mergeS (sealS smallS 1 1).1 1 0).2 = 0 := by decide +kernel
  have c5 : chkS (mergeS (sealS smallS 1 1).1 1 0).1 = 0 := (mergeS_ok e5).2.1
  have e6 : (dropS (sealS smallS 1 1).1 30).2 = 0 := by decide +kernel
  have c6 : chkS (dropS (sealS smallS 1 1).1 30).1 = 0 := (dropS_ok e6).2.2.1
  have e7 : allS (dropS (sealS smallS 1 1).1 30).1 1 = ([(30, 7)], 0) := by decide +kernel
  have l4 := (chkS_zero.1 c4).1
  have l5 := (chkS_zero.1 c5).1
  have e8 : ((sealS smallS 1 1).1.getD 1 default).1.length = 2 := by decide +kernel
  have e9 : ((mergeS (sealS smallS 1 1).1 1 0).1.getD 1 default).1.length = 1 := by decide +kernel
  have a1 : ∀ {l : Shf}, l.length = 4 → atI l 1 = some (l.getD 1 default) := fun h => atI_nat (j := 1) (by omega)
  rw [new_eq, bindO_some, shelfPut_eq _ _ (okS_of fresh_ok) (by decide), bindO_some, e1, shelfPut_eq _ _ (okS_of c1) (by decide), bindO_some, seal_eq _ _ _ (okS_of c1), bindO_some, e3, seal_eq _ _ _ (okS_of c3), bindO_some, mergeS_eq _ _ _ (okS_of c4), bindO_some, drop_eq _ _ (okS_of c4), bindO_some, allS_eq _ _ (okS_of c6), bindO_some, e2, e4, e5, e6, e7, small_eq, bindO_some, shelfSame_eq _ _ (okS_of c3), bindO_some, a1 l4, bindO_some, a1 l5, bindO_some, pts_eq, bindO_some, equalP_eq (by decide), bindO_some, checkS_eq _ (okS_of c5), bindO_some, c5, lenI_eq, lenI_eq, e8, e9]
  rfl
theorem eqI_self (a : Int) : eqI a a = true := by simp [eqI]
theorem neI_self (a : Int) : neI a a = false := by simp [neI]
theorem okS_nil_or {s : Shf} {e : Int} {q : Shf × Int} (h : q = (s, e)) (hs : okS s) : okS q.1 := by rw [h]; exact hs
/-- What comes back is right. -/
theorem putS_okS (s : Shf) (l : List Ent) : okS (putS s l).1 := by
  by_cases h : (putS s l).2 = 0
  · exact okS_of (putS_ok h).2.2.1
  · have hE : ∀ (l : List Ent) (s : Shf), ¬ (putE s l).2 = 0 → (putE s l).1 = [] := by
      intro l
      induction l with
      | nil => intro s h; exact absurd rfl h
      | cons x l ih =>
        intro s h
        rw [putE] at h ⊢
        split
        · rfl
        · rename_i hx
          rw [if_neg hx] at h
          split
          · rename_i hz; rw [if_pos hz] at h; exact ih _ h
          · rfl
    have : (putS s l).1 = [] := by
      unfold putS at h ⊢
      split
      · rename_i hc
        rw [if_pos hc] at h
        split
        · rfl
        · rename_i hl; rw [if_neg hl] at h; exact hE _ _ h
      · rfl
    rw [this]; exact nil_ok
theorem onRow_nil {s : Shf} {i : Int} {q : Rowd → Rowd × Int} (h : ¬ (onRow s i q).2 = 0) : (onRow s i q).1 = [] := by
  unfold onRow at h ⊢
  split
  · rfl
  · rename_i hi
    rw [if_neg hi] at h
    split
    · rename_i hz; rw [if_pos hz] at h; exact absurd rfl h
    · rfl
theorem sealS_okS (s : Shf) (i n : Int) : okS (sealS s i n).1 := by
  by_cases h : (sealS s i n).2 = 0
  · exact okS_of (sealS_ok h).2.1
  · have : (sealS s i n).1 = [] := by
      unfold sealS at h ⊢
      split
      · rename_i hc; rw [if_pos hc] at h; exact onRow_nil h
      · rfl
    rw [this]; exact nil_ok
theorem mergeS_okS (s : Shf) (i n : Int) : okS (mergeS s i n).1 := by
  by_cases h : (mergeS s i n).2 = 0
  · exact okS_of (mergeS_ok h).2.1
  · have : (mergeS s i n).1 = [] := by
      unfold mergeS at h ⊢
      split
      · rename_i hc; rw [if_pos hc] at h; exact onRow_nil h
      · rfl
    rw [this]; exact nil_ok
theorem dropS_okS (s : Shf) (n : Int) : okS (dropS s n).1 := by
  by_cases h : (dropS s n).2 = 0
  · exact okS_of (dropS_ok h).2.2.1
  · have : (dropS s n).1 = [] := by
      unfold dropS at h ⊢
      split
      · rename_i hc
        rw [if_pos hc] at h
        split
        · rfl
        · rename_i hn; rw [if_neg hn] at h; exact absurd rfl h
      · rfl
    rw [this]; exact nil_ok
theorem shelfSays_eq (s : Shf) (l : List Ent) (i n : Int) (t : Shf) (hs : okS s) (hl : l.length < 4611686018427387904) (hn : n ≤ 9223372036854775807) : F_rainbooklaw_ShelfSays s l i n t = some true := by
  unfold F_rainbooklaw_ShelfSays
  have hf : okS freshS := okS_of fresh_ok
  simp only [allS_eq _ _ hs, shelfPut_eq _ _ hs hl, seal_eq _ _ _ hs, mergeS_eq _ _ _ hs, drop_eq _ _ hs, checkShelf_eq _ hs, checkS_eq _ hs, shelved_eq, shelfSame_eq _ _ hs, sameShelf_eq _ _ hs, new_eq, show F_rainbookref_FreshShelf = some freshS from fresh_eq, sameShelf_eq _ _ hf,
    sameShelf_eq _ _ (putS_okS s l), sameShelf_eq _ _ (sealS_okS s i n), sameShelf_eq _ _ (mergeS_okS s i n), sameShelf_eq _ _ (dropS_okS s n), bindO_some, ifB_not, ifB_t, neI_self, ifB_f, eqB, beq_self_eq_true, decide_true]
  by_cases hc : chkS s = 0
  · rw [ifB_neI, if_pos hc, putAll_eq s l hc hl, bindO_some, sealed_eq s i n hc, bindO_some, mergedRow_eq s i n hc hn, bindO_some, dropped_eq s n hc, bindO_some]
    have p1 : putS s l = if 10 < l.length then ([], 2) else putE s l := by unfold putS; rw [if_pos hc]
    have p2 : sealS s i n = onRow s i (sealR n) := by unfold sealS; rw [if_pos hc]
    have p3 : mergeS s i n = onRow s i (mergeW n) := by unfold mergeS; rw [if_pos hc]
    have p4 : dropS s n = if n < 0 ∨ 100001 < n then ([], 3) else (s.map (dropR n), 0) := by unfold dropS; rw [if_pos hc]
    rw [← p1, ← p2, ← p3, ← p4]
    simp only [neI_self, ifB_f, sameShelf_eq _ _ (putS_okS s l), sameShelf_eq _ _ (sealS_okS s i n), sameShelf_eq _ _ (mergeS_okS s i n), sameShelf_eq _ _ (dropS_okS s n), bindO_some, decide_true, ifB_t]
    have h4 := (chkS_zero.1 hc).1
    rw [ifB_ltI, ifB_gtI]
    by_cases hi : 0 ≤ i ∧ i ≤ 3
    · have h0 := allS_of hc hi.1 (by omega)
      have hl := allS_len h0
      obtain ⟨_, _, _, ha, hk⟩ := allS_ok h0
      have hr := hs.2 _ (getD_mem (l := s) (i := i.toNat) (by omega))
      have hsafe : safeQ (allR (s.getD i.toNat default)) = allS s i := by
        unfold safeQ; rw [← ha, if_pos h0]
      rw [if_neg (by omega), if_neg (by omega), atI_int (by omega) (by omega), bindO_some]
      simp only [show ∀ r : Rowd, ((r.1, r.2) : Rowd) = r from fun _ => rfl]
      rw [rowPoints_eq _ hr, hsafe, bindO_some, ifB_eqI, if_pos h0, equalP_eq (by omega), bindO_some]
      simp
    · have ha : allS s i = ([], 5) := by unfold allS; rw [if_pos hc, if_pos (by omega)]
      rw [ha]
      by_cases h0 : i < 0
      · rw [if_pos h0]; rfl
      · rw [if_neg h0, if_pos (by omega)]; rfl
  · have p0 : allS s i = ([], chkS s) := by unfold allS; rw [if_neg hc]
    have p1 : putS s l = ([], chkS s) := by unfold putS; rw [if_neg hc]
    have p2 : sealS s i n = ([], chkS s) := by unfold sealS; rw [if_neg hc]
    have p3 : mergeS s i n = ([], chkS s) := by unfold mergeS; rw [if_neg hc]
    have p4 : dropS s n = ([], chkS s) := by unfold dropS; rw [if_neg hc]
    rw [ifB_neI, if_neg hc, p0, p1, p2, p3, p4]
    simp only [eqI_self, ifB_t, sameShelf_eq _ _ nil_ok, bindO_some, decide_true]
    rfl
theorem dropLoop (w : List Pt) (n : Int) (hw : w.length ≤ 40) (hp : ∀ p ∈ w, p.1 < n) :
    loopN maxR (fun (x : Int) => ifB (ltI x (lenI w)) (bindO (atI w x) fun (y : Int × Int) => ifB (geI (Prod.fst y) n) (mapO Sum.inr (some false)) (some (Sum.inl (wadd IntKind.i64 x 1)))) (mapO Sum.inr (some true))) 0 = some true := by
  refine loop_range w (fun j (_ : Unit) => (j : Int)) (G := fun _ _ => some true) (P := fun _ _ => True) ?_ ?_ (s0 := ()) trivial (by omega)
  · rintro j _ hj _ k hk
    have hat := atI_nat hj
    have := hp _ (getD_mem hj)
    rw [stepK_ifB, stepK_map, ifB_ltI, lenI_eq, if_pos (by omega), hat, stepK_bind, bindO_some, stepK_ifB, ifB_geI, if_neg (by omega), stepK_inl, wadd_nat (by omega)]
    exact hk () trivial
  · rintro _ _ k
    rw [stepK_ifB, stepK_map, ifB_ltI, lenI_eq, if_neg (by omega)]
theorem dropTail1 (w l : List Pt) (n : Int) (k : Nat) (hl : l = w.drop k) (hk : k ≤ w.length) (hw : w.length ≤ 40) (hp : ∀ p ∈ w.take k, p.1 < n) :
    ifB (gtI (lenI l) (lenI w)) (some false) (ifB (in1 w (wsub IntKind.i64 (lenI w) (lenI l))) (bindO (F_equalP l (dropI w (wsub IntKind.i64 (lenI w) (lenI l)))) fun (y_8 : Bool) => ifB y_8
      (ifB (in1 w (wsub IntKind.i64 (lenI w) (lenI l))) (loopN maxR (fun (x : Int) => ifB (ltI x (lenI (takeI w (wsub IntKind.i64 (lenI w) (lenI l))))) (bindO (atI (takeI w (wsub IntKind.i64 (lenI w) (lenI l))) x)
        fun (y : Int × Int) => ifB (geI (Prod.fst y) n) (mapO Sum.inr (some false)) (some (Sum.inl (wadd IntKind.i64 x 1)))) (mapO Sum.inr (some true))) 0) none) (some false)) none) = some true := by
  have hll : l.length = w.length - k := by rw [hl, List.length_drop]
  have hs : wsub .i64 (lenI w) (lenI l) = (k : Int) := by rw [lenI_eq, lenI_eq, wsub_in ⟨by omega, by omega⟩]; omega
  rw [hs, ifB_gtI, lenI_eq, lenI_eq, if_neg (by omega), ifB_in1, if_pos ⟨by omega, by omega⟩, dropI_eq, takeI_eq, Int.toNat_natCast, equalP_eq (by omega), bindO_some, ifB_dec, if_pos hl, ifB_in1, if_pos ⟨by omega, by omega⟩]
  exact dropLoop (w.take k) n (by rw [List.length_take]; omega) hp
theorem dropTail2 (w l : List Pt) (n : Int) (k : Nat) (hl : l = w.drop k) (hk : k ≤ w.length) (hw : w.length ≤ 40) (hp : ∀ p ∈ w.take k, p.1 < n) :
    ifB (gtI (lenI l) (lenI w)) (some false) (ifB (in1 w (wsub IntKind.i64 (lenI w) (lenI l))) (ifB (inN w (addN 0 (natI (wsub IntKind.i64 (lenI w) (lenI l)))) (subNI (lenN w) (wsub IntKind.i64 (lenI w) (lenI l)))) (bindO (F_equalP l (subN w (addN 0 (natI (wsub IntKind.i64 (lenI w) (lenI l)))) (subNI (lenN w) (wsub IntKind.i64 (lenI w) (lenI l))))) fun (y_8 : Bool) => ifB y_8
      (ifB (in1 w (wsub IntKind.i64 (lenI w) (lenI l))) (loopN maxR (fun (x : Int) => ifB (ltI x (lenI (takeI w (wsub IntKind.i64 (lenI w) (lenI l))))) (bindO (atI (takeI w (wsub IntKind.i64 (lenI w) (lenI l))) x)
        fun (y : Int × Int) => ifB (geI (Prod.fst y) n) (mapO Sum.inr (some false)) (some (Sum.inl (wadd IntKind.i64 x 1)))) (mapO Sum.inr (some true))) 0) none) (some false)) none) none) = some true := by
  have hll : l.length = w.length - k := by rw [hl, List.length_drop]
  have hs : wsub .i64 (lenI w) (lenI l) = (k : Int) := by rw [lenI_eq, lenI_eq, wsub_in ⟨by omega, by omega⟩]; omega
  have e1 : addN 0 (natI (k : Int)) = k := by simp [addN, natI]
  have e2 : subNI (lenN w) (k : Int) = w.length - k := by simp [subNI, lenN]
  have e3 : subN w k (w.length - k) = w.drop k := by unfold subN; rw [List.take_of_length_le (by simp)]
  rw [hs, e1, e2, e3, ifB_gtI, lenI_eq, lenI_eq, if_neg (by omega), ifB_in1, if_pos ⟨by omega, by omega⟩, ifB_inN, if_pos (by omega), takeI_eq, Int.toNat_natCast, equalP_eq (by omega), bindO_some, ifB_dec, if_pos hl, ifB_in1, if_pos ⟨by omega, by omega⟩]
  exact dropLoop (w.take k) n (by rw [List.length_take]; omega) hp
theorem shelfSame_law (s : Shf) (i n j : Int) (hs : okS s) : F_rainbooklaw_ShelfSame s i n j = some true := by
  unfold F_rainbooklaw_ShelfSame
  rw [at_eq _ _ (by omega) (by omega), bindO_some]
  have j0 := Int.emod_nonneg j (show (4 : Int) ≠ 0 by omega)
  have j1 := Int.emod_lt_of_pos j (show (0 : Int) < 4 by omega)
  generalize j % 4 = j at *
  simp only [allS_eq _ _ hs, shelved_eq, seal_eq _ _ _ hs, mergeS_eq _ _ _ hs, drop_eq _ _ hs, allS_eq _ _ (sealS_okS s i n), allS_eq _ _ (mergeS_okS s i n), allS_eq _ _ (dropS_okS s n), bindO_some, ifB_not, ifB_t]
  rw [ifB_neI]
  by_cases h0 : (allS s j).2 = 0
  · have hw := allS_len h0
    obtain ⟨hc, _, _, _, _⟩ := allS_ok h0
    rw [if_pos h0]
    -- what comes behind the drop
    have tail : ∀ T : List Pt → Option Bool, (∀ (l : List Pt) (k : Nat), l = (allS s j).1.drop k → k ≤ (allS s j).1.length → (∀ p ∈ (allS s j).1.take k, p.1 < n) → T l = some true) →
        ifB (neI (dropS s n).2 0) (some true) (ifB (neI (allS (dropS s n).1 j).2 0) (some false) (T (allS (dropS s n).1 j).1)) = some true := by
      intro T hT
      rw [ifB_neI]
      by_cases hd : (dropS s n).2 = 0
      · obtain ⟨_, _, d3, d4⟩ := dropS_ok hd
        obtain ⟨k, g1, g2, g3⟩ := d4 j j0 j1
        rw [if_pos hd, ifB_neI, if_pos (allS_of d3 j0 j1)]
        exact hT _ k g1 g2 g3
      · rw [if_neg hd]
    have t1 := tail _ (fun l k h1 h2 h3 => dropTail1 (allS s j).1 l n k h1 h2 hw h3)
    have t2 := tail _ (fun l k h1 h2 h3 => dropTail2 (allS s j).1 l n k h1 h2 hw h3)
    have m1 : ∀ X Y : Option Bool, X = some true → Y = some true → ifB (eqI (mergeS s i n).2 0) (ifB (neI (allS (mergeS s i n).1 j).2 0) (some false) (bindO (F_equalP (allS (mergeS s i n).1 j).1 (allS s j).1) fun (y : Bool) => ifB y X (some false))) Y = some true := by
      intro X Y hX hY
      rw [ifB_eqI]
      by_cases hm : (mergeS s i n).2 = 0
      · obtain ⟨_, _, m3⟩ := mergeS_ok hm
        rw [if_pos hm, m3 j, ifB_neI, if_pos h0, equalP_eq (by omega), bindO_some, ifB_dec, if_pos rfl, hX]
      · rw [if_neg hm, hY]
    rw [ifB_eqI]
    by_cases hz : (sealS s i n).2 = 0
    · obtain ⟨_, _, m3⟩ := sealS_ok hz
      rw [if_pos hz, m3 j, ifB_neI, if_pos h0, equalP_eq (by omega), bindO_some, ifB_dec, if_pos rfl]
      exact m1 _ _ t1 t1
    · rw [if_neg hz]
      exact m1 _ _ t1 t2
  · rw [if_neg h0]
theorem shelfAll_law (s : Shf) (l : List Ent) (j : Int) (hs : okS s) (hl : l.length ≤ 5864062014700) : F_rainbooklaw_ShelfAll s l j = some true := by
  unfold F_rainbooklaw_ShelfAll
  rw [at_eq _ _ (by omega) (by omega), bindO_some]
  have j0 := Int.emod_nonneg j (show (4 : Int) ≠ 0 by omega)
  have j1 := Int.emod_lt_of_pos j (show (0 : Int) < 4 by omega)
  generalize j % 4 = j at *
  simp only [allS_eq _ _ hs, shelved_eq, shelfPut_eq _ _ hs (show l.length < 4611686018427387904 by omega), allS_eq _ _ (putS_okS s l), bindO_some, ifB_not, ifB_t]
  rw [ifB_neI]
  by_cases h0 : (allS s j).2 = 0
  · have hw := allS_len h0
    rw [if_pos h0, ifB_neI]
    by_cases hp : (putS s l).2 = 0
    · obtain ⟨_, h10, p3, p4⟩ := putS_ok hp
      rw [if_pos hp]
      have hq := p4 j j0 j1
      have hz := allS_of p3 j0 j1
      have hql := allS_len hz
      refine loop_range l (fun i (t : List Pt) => ((i : Int), t)) (G := fun rest t => some (decide ((allS (putS s l).1 j).1 = t ++ entP j rest))) (P := fun i t => t.length ≤ 40 + i) ?_ ?_ (s0 := (allS s j).1) (by omega) (by omega) |>.trans ?_
      · rintro i t hi ht k hk
        have hat := atI_nat hi
        generalize l.getD i default = x at *
        simp only
        rw [stepK_ifB, stepK_map, ifB_ltI, lenI_eq, if_pos (by omega), hat, stepK_bind, bindO_some, stepK_ifB, stepK_ifB, stepK_inl, stepK_inl, stepK_none, ifB_eqI, wadd_nat (by omega)]
        by_cases hx : x.1 = j
        · rw [if_pos hx, ifB_roomA, if_pos (by simp only [List.length_cons, List.length_nil]; omega), cat_eq]
          refine (hk _ (by rw [List.length_append, List.length_singleton]; omega)).trans ?_
          rw [List.append_assoc]
          unfold entP
          rw [List.filter_cons, if_pos (by simpa using hx)]; rfl
        · rw [if_neg hx]
          refine (hk _ (by omega)).trans ?_
          unfold entP
          rw [List.filter_cons, if_neg (by simpa using hx)]
      · rintro t ht k
        simp only
        rw [stepK_ifB, stepK_map, ifB_ltI, lenI_eq, if_neg (by omega), ifB_eqI, if_pos hz, equalP_eq (by omega), bindO_some]
        simp [entP]
      · simp [hq]
    · rw [if_neg hp]
  · rw [if_neg h0]
theorem chk_twice : ∀ {l : List Pt} {L : Int} {p : Pt}, chk L (l ++ [p]) = 0 → chk L (l ++ [p] ++ [p]) = 7
  | [], L, p, h => by
    obtain ⟨h1, h2, _⟩ := chk_cons (r := []) h
    unfold PtIn at h1
    show chk L [p, p] = 7
    rw [chk, if_neg (by omega), if_neg (by omega), chk, if_neg (by omega), if_pos (by omega)]
  | q :: l, L, p, h => by
    obtain ⟨h1, h2, h3⟩ := chk_cons (r := l ++ [p]) h
    have := chk_twice h3
    unfold PtIn at h1
    show chk L (q :: (l ++ [p] ++ [p])) = 7
    rw [chk, if_neg (by omega), if_neg (by omega), this]
theorem allR_2 {r : Rowd} (h1 : r.1.length ≤ 8) (h2 : okBs r.1) : (allR r).2 = checkL (ptsBs r.1 ++ r.2) := by
  unfold allR
  rw [if_neg (by omega), rp_ok h2, if_pos rfl, List.nil_append]
theorem put_one {s : Shf} {x : Ent} (hc : chkS s = 0) (h0 : 0 ≤ x.1) (h1 : x.1 < 4) (l : List Ent) (hl : (x :: l).length ≤ 10) : putS s (x :: l) = if (allR (putW x (s.getD x.1.toNat default))).2 = 0 then putE (s.set x.1.toNat (putW x (s.getD x.1.toNat default))) l else ([], (allR (putW x (s.getD x.1.toNat default))).2) := by
  unfold putS
  rw [if_pos hc, if_neg (by omega), putE, if_neg (by omega)]
theorem concatE_eq {a : List (List Ent)} (h : a.length < 4611686018427387904) (h2 : a.flatten.length ≤ 5864062014805) : F_concatE a = some a.flatten := by
  have h3 : a.flatten.length * 24 ≤ 140737488355328 := by omega
  have h9 := concat_gen (α := Ent) 24 (0, 0, 0) a h (by decide) h3 (by decide)
  exact h9
theorem shelfLast_law (s : Shf) (i t v : Int) (more : List Ent) (hs : okS s) (hl : more.length ≤ 5864062014700) : F_rainbooklaw_ShelfLast s i t v more = some true := by
  unfold F_rainbooklaw_ShelfLast
  rw [at_eq _ _ (by omega) (by omega), bindO_some]
  have j0 := Int.emod_nonneg i (show (4 : Int) ≠ 0 by omega)
  have j1 := Int.emod_lt_of_pos i (show (0 : Int) < 4 by omega)
  generalize i % 4 = i at *
  have hf2 : [[((i, t, v) : Ent)], more].flatten = (i, t, v) :: more := by simp
  simp only [last_eq _ _ hs, shelved_eq, bindO_some, ifB_not, ifB_t, shelfPut_eq _ [((i, t, v) : Ent)] hs (by simp), concatE_eq (a := [[((i, t, v) : Ent)], more]) (by simp) (by rw [hf2, List.length_cons]; omega), hf2, shelfPut_eq _ ((i, t, v) :: more) hs (by rw [List.length_cons]; omega), shelfPut_eq _ [((i, t, v) : Ent)] (putS_okS _ _) (by simp), last_eq _ _ (putS_okS s [((i, t, v) : Ent)])]
  by_cases h0 : (allS s i).2 = 0
  · obtain ⟨hc, _, _, _, hk⟩ := allS_ok h0
    have h4 := (chkS_zero.1 hc).1
    simp only [if_pos h0]
    rw [ifB_neI, if_pos rfl]
    have bad : ¬ (putS s [((i, t, v) : Ent)]).2 = 0 → some (neI (putS s ((i, t, v) :: more)).2 0) = some true := by
      intro hq
      have h1 := put_one (x := (i, t, v)) hc j0 j1 [] (by simp)
      have hz : ¬ (allR (putW (i, t, v) (s.getD i.toNat default))).2 = 0 := by
        intro hz
        rw [h1] at hq
        simp only at hq
        rw [if_pos hz] at hq
        exact hq rfl
      have : ¬ (putS s ((i, t, v) :: more)).2 = 0 := by
        by_cases hlen : ((i, t, v) :: more).length ≤ 10
        · rw [put_one (x := (i, t, v)) hc j0 j1 more hlen]
          simp only
          rw [if_neg hz]
          exact hz
        · unfold putS
          rw [if_pos hc, if_pos (by omega)]
          decide
      simp [neI, this]
    have good : (putS s [((i, t, v) : Ent)]).2 = 0 → chkS (putS s [((i, t, v) : Ent)]).1 = 0 ∧ allS (putS s [((i, t, v) : Ent)]).1 i = ((allS s i).1 ++ [(t, v)], 0) ∧ ((putS (putS s [((i, t, v) : Ent)]).1 [((i, t, v) : Ent)]).2 = 7 ∨ (putS (putS s [((i, t, v) : Ent)]).1 [((i, t, v) : Ent)]).2 = 2) := by
      intro hq
      obtain ⟨_, _, g1, g2⟩ := putS_ok hq
      have g3 := g2 i j0 j1
      have g4 := allS_of g1 j0 j1
      have g5 : entP i [((i, t, v) : Ent)] = [(t, v)] := by simp [entP]
      rw [g5] at g3
      refine ⟨g1, Prod.ext g3 g4, ?_⟩
      generalize (putS s [((i, t, v) : Ent)]).1 = s' at *
      rw [put_one (x := (i, t, v)) g1 j0 j1 [] (by simp)]
      obtain ⟨e1, e2, e3, e4⟩ := allR_is (chkS_row g1 (i := i.toNat) (by omega))
      have e5 := allS_is g1 j0 j1
      simp only
      generalize s'.getD i.toNat default = r at *
      rw [e5] at g3
      simp only at g3
      have e6 : (allR (putW (i, t, v) r)).2 = checkL ((allS s i).1 ++ [(t, v)] ++ [(t, v)]) := by
        rw [allR_2 (r := putW (i, t, v) r) e1 e2]
        show checkL (ptsBs r.1 ++ (r.2 ++ [(t, v)])) = _
        rw [← List.append_assoc, g3]
      rw [g3] at e3
      have e7 := chk_twice (checkL_chk e3)
      have e8 : checkL ((allS s i).1 ++ [(t, v)] ++ [(t, v)]) = 7 ∨ checkL ((allS s i).1 ++ [(t, v)] ++ [(t, v)]) = 2 := by
        unfold checkL
        split
        · exact .inr rfl
        · exact .inl e7
      rw [e6]
      rcases e8 with e8 | e8
      · rw [e8, if_neg (by decide)]; exact .inl rfl
      · rw [e8, if_neg (by decide)]; exact .inr rfl
    have last' : lastR ((allS s i).1 ++ [(t, v)]) = ((t, v), true) := by
      unfold lastR
      rw [if_neg (by simp)]
      simp [List.getD]
    have fin : (putS s [((i, t, v) : Ent)]).2 = 0 → ∀ X : Option Bool, X = ifB (eqI (putS (putS s [((i, t, v) : Ent)]).1 [((i, t, v) : Ent)]).2 7) (some true) (some (eqI (putS (putS s [((i, t, v) : Ent)]).1 [((i, t, v) : Ent)]).2 2)) → X = some true := by
      rintro hq X rfl
      obtain ⟨_, _, g⟩ := good hq
      rw [ifB_eqI]
      rcases g with g | g
      · rw [if_pos g]
      · rw [g]; rfl
    have rest : ifB (neI (putS s [((i, t, v) : Ent)]).2 0) (some (neI (putS s ((i, t, v) :: more)).2 0)) (ifB (neI (if (allS (putS s [((i, t, v) : Ent)]).1 i).2 = 0 then ((lastR (allS (putS s [((i, t, v) : Ent)]).1 i).1).1, (lastR (allS (putS s [((i, t, v) : Ent)]).1 i).1).2, (0 : Int)) else ((0, 0), false, (allS (putS s [((i, t, v) : Ent)]).1 i).2)).2.2 0) (some false)
        (ifB (if (allS (putS s [((i, t, v) : Ent)]).1 i).2 = 0 then ((lastR (allS (putS s [((i, t, v) : Ent)]).1 i).1).1, (lastR (allS (putS s [((i, t, v) : Ent)]).1 i).1).2, (0 : Int)) else ((0, 0), false, (allS (putS s [((i, t, v) : Ent)]).1 i).2)).2.1
          (ifB (eqL [(if (allS (putS s [((i, t, v) : Ent)]).1 i).2 = 0 then ((lastR (allS (putS s [((i, t, v) : Ent)]).1 i).1).1, (lastR (allS (putS s [((i, t, v) : Ent)]).1 i).1).2, (0 : Int)) else ((0, 0), false, (allS (putS s [((i, t, v) : Ent)]).1 i).2)).1.1, (if (allS (putS s [((i, t, v) : Ent)]).1 i).2 = 0 then ((lastR (allS (putS s [((i, t, v) : Ent)]).1 i).1).1, (lastR (allS (putS s [((i, t, v) : Ent)]).1 i).1).2, (0 : Int)) else ((0, 0), false, (allS (putS s [((i, t, v) : Ent)]).1 i).2)).1.2] [t, v])
            (ifB (eqI (putS (putS s [((i, t, v) : Ent)]).1 [((i, t, v) : Ent)]).2 7) (some true) (some (eqI (putS (putS s [((i, t, v) : Ent)]).1 [((i, t, v) : Ent)]).2 2))) (some false)) (some false))) = some true := by
      rw [ifB_neI]
      by_cases hq : (putS s [((i, t, v) : Ent)]).2 = 0
      · rw [if_pos hq]
        refine fin hq _ ?_
        rw [(good hq).2.1]
        simp only [if_true, last', ifB_neI, ifB_t]
        rw [ifB_eqL, if_pos rfl]
      · rw [if_neg hq]; exact bad hq
    refine Eq.trans ?_ rest
    by_cases hb : (lastR (allS s i).1).2 = true
    · rw [hb, ifB_t, ifB_leI]
      by_cases hle : t ≤ (lastR (allS s i).1).1.1
      · have hq : ¬ (putS s [((i, t, v) : Ent)]).2 = 0 := by
          intro hq
          obtain ⟨g1, g2, _⟩ := good hq
          have g3 := allS_of g1 j0 j1
          have g4 := (allS_ok g3).2.2.2.2
          rw [g2] at g4
          have g5 := checkL_rise g4
          unfold Rise at g5
          rw [List.pairwise_append] at g5
          unfold lastR at hb hle
          split at hb
          · cases hb
          · rename_i hz
            rw [if_neg hz] at hle
            have := g5.2.2 _ (getD_mem (l := (allS s i).1) (i := (allS s i).1.length - 1) (by omega)) (t, v) (List.mem_singleton.2 rfl)
            simp only at this hle
            omega
        rw [if_pos hle, ifB_eqI, if_neg hq]
      · rw [if_neg hle]
    · have hb' : (lastR (allS s i).1).2 = false := by revert hb; cases (lastR (allS s i).1).2 <;> simp
      rw [hb', ifB_f]
  · simp only [if_neg h0]
    rw [ifB_neI, if_neg h0]
end Go.Proofs.Y
namespace Go.Proofs.Y
open Go.Rb Go.Kx
noncomputable def C_note_Check : Code := bodyOf Try.f118
noncomputable def G_note_Check : FuncId → Option GS := tabG []
theorem g_note_Check : ΓOK Try.prog G_note_Check := ΓOK_nil
def H_note_Check : HT := ⟨tabL [(9, .it [] (dyn [.t 31 (.int .i64)]))], tabH []⟩
abbrev is_note_Check : List IT := [.v (.cons (.int .i64) (.cons (.int .i64) (.cons (.int .i64) (.one (.sl 97 (.cons (.int .i64) (.cons (.int .i64) (.one (.int .i64))))))))) true]
abbrev os_note_Check : List OT := [⟨.one (.int .i64), false, []⟩]
set_option maxRecDepth 100000
noncomputable def F_note_Check : Int × Int × Int × List (Int × Int × Int) → Option Int := fun (a : Int × Int × Int × List (Int × Int × Int)) => ifB (ltI a.1 1) (some 4) (ifB (gtI a.1 4) (some 4) (ifB (eqI a.1 1) (ifB (neI a.2.1 0) (some 4) (ifB (neI a.2.2.1 0) (some 4) (ifB (gtI (lenI a.2.2.2) 10) (some 2) (loopN maxR (fun (x : Int) => ifB (ltI x (lenI a.2.2.2)) (bindO (atI a.2.2.2 x) fun (y : Int × Int × Int) => ifB (ltI y.1 0) (mapO Sum.inr (some 3)) (ifB (geI y.1 4) (mapO Sum.inr (some 3)) (ifB (ltI y.2.1 0) (mapO Sum.inr (some 3)) (ifB (gtI y.2.1 100000) (mapO Sum.inr (some 3)) (ifB (ltI y.2.2 (-1000000)) (mapO Sum.inr (some 3)) (ifB (gtI y.2.2 1000000) (mapO Sum.inr (some 3)) (some (Sum.inl (wadd .i64 x 1))))))))) (mapO Sum.inr (some 0))) 0)))) (ifB (gtI (lenI a.2.2.2) 0) (some 4) (ifB (eqI a.1 4) (ifB (neI a.2.1 0) (some 4) (ifB (ltI a.2.1 0) (some 3) (ifB (geI a.2.1 4) (some 3) (ifB (ltI a.2.2.1 0) (some 3) (ifB (gtI a.2.2.1 100001) (some 3) (some 0)))))) (ifB (ltI a.2.1 0) (some 3) (ifB (geI a.2.1 4) (some 3) (ifB (ltI a.2.2.1 0) (some 3) (ifB (gtI a.2.2.1 100001) (some 3) (some 0)))))))))
theorem F_note_Check_eq (x : PI is_note_Check) : F_note_Check x = fnE T G_note_Check H_note_Check C_note_Check (resOf Try.f118) is_note_Check os_note_Check x := by kernel_rfl
noncomputable abbrev R_note_Check : GS := mkSpec false is_note_Check os_note_Check fun x => F_note_Check x
theorem R_note_Check_ok : GSOK Try.prog 118 R_note_Check := spec_ok tok g_note_Check fmo (Ht := H_note_Check) (fn := Try.f118) (Try.func118) (c := C_note_Check) (by kernel_rfl) (by kernel_rfl) (by kernel_rfl) (by decide +kernel) (by decide) F_note_Check_eq
end Go.Proofs.Y
namespace Go.Proofs.Y
open Go.Rb Go.Kx
noncomputable def C_store_Next : Code := bodyOf Try.f87
noncomputable def G_store_Next : FuncId → Option GS := tabG [(75, R_shelf_Check), (118, R_note_Check), (70, R_shelf_Put), (71, R_shelf_Seal), (72, R_shelf_Merge), (73, R_shelf_Drop)]
theorem g_store_Next : ΓOK Try.prog G_store_Next := ΓOK_cons (R_shelf_Check_ok) (ΓOK_cons (R_note_Check_ok) (ΓOK_cons (R_shelf_Put_ok) (ΓOK_cons (R_shelf_Seal_ok) (ΓOK_cons (R_shelf_Merge_ok) (ΓOK_cons (R_shelf_Drop_ok) (ΓOK_nil))))))
def H_store_Next : HT := ⟨tabL [], tabH []⟩
abbrev is_store_Next : List IT := [.v (.one (.sl 78 (.cons (.sl 58 (.cons (.int .i64) (.cons (.int .i64) (.cons (.int .i64) (.one (.sl 4 (.one .bool))))))) (.one (.sl 34 (.cons (.int .i64) (.one (.int .i64)))))))) true, .v (.cons (.int .i64) (.cons (.int .i64) (.cons (.int .i64) (.one (.sl 97 (.cons (.int .i64) (.cons (.int .i64) (.one (.int .i64))))))))) true]
abbrev os_store_Next : List OT := [⟨.one (.sl 78 (.cons (.sl 58 (.cons (.int .i64) (.cons (.int .i64) (.cons (.int .i64) (.one (.sl 4 (.one .bool))))))) (.one (.sl 34 (.cons (.int .i64) (.one (.int .i64))))))), true, []⟩, ⟨.one (.int .i64), false, []⟩]
set_option maxRecDepth 100000
noncomputable def F_store_Next : List (List (Int × Int × Int × List Bool) × List (Int × Int)) → Int × Int × Int × List (Int × Int × Int) → Option (List (List (Int × Int × Int × List Bool) × List (Int × Int)) × Int) := fun (a : List (List (Int × Int × Int × List Bool) × List (Int × Int))) (b : Int × Int × Int × List (Int × Int × Int)) => bindO (F_shelf_Check a) fun (y : Int) => ifB (neI y 0) (some ([], y)) (bindO (F_note_Check (b.1, b.2.1, b.2.2.1, b.2.2.2)) fun (y : Int) => ifB (neI y 0) (some ([], y)) (ifB (eqI b.1 1) (bindO (F_shelf_Put a b.2.2.2) fun (y : List (List (Int × Int × Int × List Bool) × List (Int × Int)) × Int) => some (y.1, y.2)) (ifB (eqI b.1 2) (bindO (F_shelf_Seal a b.2.1 b.2.2.1) fun (y : List (List (Int × Int × Int × List Bool) × List (Int × Int)) × Int) => some (y.1, y.2)) (ifB (eqI b.1 3) (bindO (F_shelf_Merge a b.2.1 b.2.2.1) fun (y : List (List (Int × Int × Int × List Bool) × List (Int × Int)) × Int) => some (y.1, y.2)) (bindO (F_shelf_Drop a b.2.2.1) fun (y : List (List (Int × Int × Int × List Bool) × List (Int × Int)) × Int) => some (y.1, y.2))))))
theorem F_store_Next_eq (x : PI is_store_Next) : F_store_Next (x.1) (x.2) = fnE T G_store_Next H_store_Next C_store_Next (resOf Try.f87) is_store_Next os_store_Next x := by kernel_rfl
noncomputable abbrev R_store_Next : GS := mkSpec false is_store_Next os_store_Next fun x => F_store_Next (x.1) (x.2)
theorem R_store_Next_ok : GSOK Try.prog 87 R_store_Next := spec_ok tok g_store_Next fmo (Ht := H_store_Next) (fn := Try.f87) (Try.func87) (c := C_store_Next) (by kernel_rfl) (by kernel_rfl) (by kernel_rfl) (by decide +kernel) (by decide) F_store_Next_eq
end Go.Proofs.Y
namespace Go.Proofs.Y
open Go.Rb Go.Kx
noncomputable def C_store_Replay : Code := bodyOf Try.f85
noncomputable def G_store_Replay : FuncId → Option GS := tabG [(78, R_shelf_New), (87, R_store_Next)]
theorem g_store_Replay : ΓOK Try.prog G_store_Replay := ΓOK_cons (R_shelf_New_ok) (ΓOK_cons (R_store_Next_ok) (ΓOK_nil))
def H_store_Replay : HT := ⟨tabL [(5, .it [] (dyn [.t 15 (.int .i64), .c 2 0 (.sl 78 (.cons (.sl 58 (.cons (.int .i64) (.cons (.int .i64) (.cons (.int .i64) (.one (.sl 4 (.one .bool))))))) (.one (.sl 34 (.cons (.int .i64) (.one (.int .i64))))))), .c 4 0 (.sl 78 (.cons (.sl 58 (.cons (.int .i64) (.cons (.int .i64) (.cons (.int .i64) (.one (.sl 4 (.one .bool))))))) (.one (.sl 34 (.cons (.int .i64) (.one (.int .i64)))))))]))], tabH []⟩
abbrev is_store_Replay : List IT := [.v (.one (.sl 104 (.cons (.int .i64) (.cons (.int .i64) (.cons (.int .i64) (.one (.sl 97 (.cons (.int .i64) (.cons (.int .i64) (.one (.int .i64))))))))))) false]
abbrev os_store_Replay : List OT := [⟨.one (.sl 78 (.cons (.sl 58 (.cons (.int .i64) (.cons (.int .i64) (.cons (.int .i64) (.one (.sl 4 (.one .bool))))))) (.one (.sl 34 (.cons (.int .i64) (.one (.int .i64))))))), true, []⟩, ⟨.one (.int .i64), false, []⟩]
set_option maxRecDepth 100000
noncomputable def F_store_Replay : List (Int × Int × Int × List (Int × Int × Int)) → Option (List (List (Int × Int × Int × List Bool) × List (Int × Int)) × Int) := fun (a : List (Int × Int × Int × List (Int × Int × Int))) => ifB (gtI (lenI a) 60) (some ([], 2)) (bindO F_shelf_New fun (y : List (List (Int × Int × Int × List Bool) × List (Int × Int))) => loopN maxR (fun (x : Int × List (List (Int × Int × Int × List Bool) × List (Int × Int)) × List (List (Int × Int × Int × List Bool) × List (Int × Int))) => ifB (ltI x.1 (lenI a)) (bindO (atI a x.1) fun (y : Int × Int × Int × List (Int × Int × Int)) => bindO (F_store_Next x.2.2 (y.1, y.2.1, y.2.2.1, y.2.2.2)) fun (y : List (List (Int × Int × Int × List Bool) × List (Int × Int)) × Int) => ifB (neI y.2 0) (mapO Sum.inr (some ([], y.2))) (some (Sum.inl (wadd .i64 x.1 1, x.2.1, y.1)))) (mapO Sum.inr (some (x.2.2, 0)))) (0, [], y))
theorem F_store_Replay_eq (x : PI is_store_Replay) : F_store_Replay x = fnE T G_store_Replay H_store_Replay C_store_Replay (resOf Try.f85) is_store_Replay os_store_Replay x := by kernel_rfl
noncomputable abbrev R_store_Replay : GS := mkSpec false is_store_Replay os_store_Replay fun x => F_store_Replay x
theorem R_store_Replay_ok : GSOK Try.prog 85 R_store_Replay := spec_ok tok g_store_Replay fmo (Ht := H_store_Replay) (fn := Try.f85) (Try.func85) (c := C_store_Replay) (by kernel_rfl) (by kernel_rfl) (by kernel_rfl) (by decide +kernel) (by decide) F_store_Replay_eq
end Go.Proofs.Y
namespace Go.Proofs.Y
open Go.Rb Go.Kx
noncomputable def C_rainbookref_CheckRec : Code := bodyOf Try.f119
noncomputable def G_rainbookref_CheckRec : FuncId → Option GS := tabG [(95, R_rainbookref_in), (99, R_rainbookref_CheckPoint)]
theorem g_rainbookref_CheckRec : ΓOK Try.prog G_rainbookref_CheckRec := ΓOK_cons (R_rainbookref_in_ok) (ΓOK_cons (R_rainbookref_CheckPoint_ok) (ΓOK_nil))
def H_rainbookref_CheckRec : HT := ⟨tabL [(11, .it [] (dyn [.t 59 (.int .i64)]))], tabH []⟩
abbrev is_rainbookref_CheckRec : List IT := [.v (.cons (.int .i64) (.cons (.int .i64) (.cons (.int .i64) (.one (.sl 97 (.cons (.int .i64) (.cons (.int .i64) (.one (.int .i64))))))))) true]
abbrev os_rainbookref_CheckRec : List OT := [⟨.one (.int .i64), false, []⟩]
set_option maxRecDepth 100000
noncomputable def F_rainbookref_CheckRec : Int × Int × Int × List (Int × Int × Int) → Option Int := fun (a : Int × Int × Int × List (Int × Int × Int)) => bindO (F_rainbookref_in a.1 1 4) fun (y : Bool) => ifB (notB y) (some 4) (ifB (eqI a.1 1) (ifB (neI a.2.1 0) (some 4) (ifB (neI a.2.2.1 0) (some 4) (ifB (neI a.1 1) (ifB (gtI (lenI a.2.2.2) 0) (some 4) (ifB (eqI a.1 4) (ifB (neI a.2.1 0) (some 4) (ifB (gtI (lenI a.2.2.2) 10) (some 2) (bindO (F_rainbookref_in a.2.1 0 3) fun (y : Bool) => ifB (notB y) (some 3) (bindO (F_rainbookref_in a.2.2.1 0 100001) fun (y : Bool) => ifB (notB y) (some 3) (loopN maxR (fun (x : Int) => ifB (ltI x (lenI a.2.2.2)) (bindO (atI a.2.2.2 x) fun (y : Int × Int × Int) => bindO (F_rainbookref_in y.1 0 3) fun (y_1 : Bool) => ifB (notB y_1) (mapO Sum.inr (some 3)) (bindO (F_rainbookref_CheckPoint (y.2.1, y.2.2)) fun (y : Int) => ifB (neI y 0) (mapO Sum.inr (some 3)) (some (Sum.inl (wadd .i64 x 1))))) (mapO Sum.inr (some 0))) 0))))) (ifB (gtI (lenI a.2.2.2) 10) (some 2) (bindO (F_rainbookref_in a.2.1 0 3) fun (y : Bool) => ifB (notB y) (some 3) (bindO (F_rainbookref_in a.2.2.1 0 100001) fun (y : Bool) => ifB (notB y) (some 3) (loopN maxR (fun (x : Int) => ifB (ltI x (lenI a.2.2.2)) (bindO (atI a.2.2.2 x) fun (y : Int × Int × Int) => bindO (F_rainbookref_in y.1 0 3) fun (y_1 : Bool) => ifB (notB y_1) (mapO Sum.inr (some 3)) (bindO (F_rainbookref_CheckPoint (y.2.1, y.2.2)) fun (y : Int) => ifB (neI y 0) (mapO Sum.inr (some 3)) (some (Sum.inl (wadd .i64 x 1))))) (mapO Sum.inr (some 0))) 0)))))) (ifB (eqI a.1 4) (ifB (neI a.2.1 0) (some 4) (ifB (gtI (lenI a.2.2.2) 10) (some 2) (bindO (F_rainbookref_in a.2.1 0 3) fun (y : Bool) => ifB (notB y) (some 3) (bindO (F_rainbookref_in a.2.2.1 0 100001) fun (y : Bool) => ifB (notB y) (some 3) (loopN maxR (fun (x : Int) => ifB (ltI x (lenI a.2.2.2)) (bindO (atI a.2.2.2 x) fun (y : Int × Int × Int) => bindO (F_rainbookref_in y.1 0 3) fun (y_1 : Bool) => ifB (notB y_1) (mapO Sum.inr (some 3)) (bindO (F_rainbookref_CheckPoint (y.2.1, y.2.2)) fun (y : Int) => ifB (neI y 0) (mapO Sum.inr (some 3)) (some (Sum.inl (wadd .i64 x 1))))) (mapO Sum.inr (some 0))) 0))))) (ifB (gtI (lenI a.2.2.2) 10) (some 2) (bindO (F_rainbookref_in a.2.1 0 3) fun (y : Bool) => ifB (notB y) (some 3) (bindO (F_rainbookref_in a.2.2.1 0 100001) fun (y : Bool) => ifB (notB y) (some 3) (loopN maxR (fun (x : Int) => ifB (ltI x (lenI a.2.2.2)) (bindO (atI a.2.2.2 x) fun (y : Int × Int × Int) => bindO (F_rainbookref_in y.1 0 3) fun (y_1 : Bool) => ifB (notB y_1) (mapO Sum.inr (some 3)) (bindO (F_rainbookref_CheckPoint (y.2.1, y.2.2)) fun (y : Int) => ifB (neI y 0) (mapO Sum.inr (some 3)) (some (Sum.inl (wadd .i64 x 1))))) (mapO Sum.inr (some 0))) 0)))))))) (ifB (neI a.1 1) (ifB (gtI (lenI a.2.2.2) 0) (some 4) (ifB (eqI a.1 4) (ifB (neI a.2.1 0) (some 4) (ifB (gtI (lenI a.2.2.2) 10) (some 2) (bindO (F_rainbookref_in a.2.1 0 3) fun (y : Bool) => ifB (notB y) (some 3) (bindO (F_rainbookref_in a.2.2.1 0 100001) fun (y : Bool) => ifB (notB y) (some 3) (loopN maxR (fun (x : Int) => ifB (ltI x (lenI a.2.2.2)) (bindO (atI a.2.2.2 x) fun (y : Int × Int × Int) => bindO (F_rainbookref_in y.1 0 3) fun (y_1 : Bool) => ifB (notB y_1) (mapO Sum.inr (some 3)) (bindO (F_rainbookref_CheckPoint (y.2.1, y.2.2)) fun (y : Int) => ifB (neI y 0) (mapO Sum.inr (some 3)) (some (Sum.inl (wadd .i64 x 1))))) (mapO Sum.inr (some 0))) 0))))) (ifB (gtI (lenI a.2.2.2) 10) (some 2) (bindO (F_rainbookref_in a.2.1 0 3) fun (y : Bool) => ifB (notB y) (some 3) (bindO (F_rainbookref_in a.2.2.1 0 100001) fun (y : Bool) => ifB (notB y) (some 3) (loopN maxR (fun (x : Int) => ifB (ltI x (lenI a.2.2.2)) (bindO (atI a.2.2.2 x) fun (y : Int × Int × Int) => bindO (F_rainbookref_in y.1 0 3) fun (y_1 : Bool) => ifB (notB y_1) (mapO Sum.inr (some 3)) (bindO (F_rainbookref_CheckPoint (y.2.1, y.2.2)) fun (y : Int) => ifB (neI y 0) (mapO Sum.inr (some 3)) (some (Sum.inl (wadd .i64 x 1))))) (mapO Sum.inr (some 0))) 0)))))) (ifB (eqI a.1 4) (ifB (neI a.2.1 0) (some 4) (ifB (gtI (lenI a.2.2.2) 10) (some 2) (bindO (F_rainbookref_in a.2.1 0 3) fun (y : Bool) => ifB (notB y) (some 3) (bindO (F_rainbookref_in a.2.2.1 0 100001) fun (y : Bool) => ifB (notB y) (some 3) (loopN maxR (fun (x : Int) => ifB (ltI x (lenI a.2.2.2)) (bindO (atI a.2.2.2 x) fun (y : Int × Int × Int) => bindO (F_rainbookref_in y.1 0 3) fun (y_1 : Bool) => ifB (notB y_1) (mapO Sum.inr (some 3)) (bindO (F_rainbookref_CheckPoint (y.2.1, y.2.2)) fun (y : Int) => ifB (neI y 0) (mapO Sum.inr (some 3)) (some (Sum.inl (wadd .i64 x 1))))) (mapO Sum.inr (some 0))) 0))))) (ifB (gtI (lenI a.2.2.2) 10) (some 2) (bindO (F_rainbookref_in a.2.1 0 3) fun (y : Bool) => ifB (notB y) (some 3) (bindO (F_rainbookref_in a.2.2.1 0 100001) fun (y : Bool) => ifB (notB y) (some 3) (loopN maxR (fun (x : Int) => ifB (ltI x (lenI a.2.2.2)) (bindO (atI a.2.2.2 x) fun (y : Int × Int × Int) => bindO (F_rainbookref_in y.1 0 3) fun (y_1 : Bool) => ifB (notB y_1) (mapO Sum.inr (some 3)) (bindO (F_rainbookref_CheckPoint (y.2.1, y.2.2)) fun (y : Int) => ifB (neI y 0) (mapO Sum.inr (some 3)) (some (Sum.inl (wadd .i64 x 1))))) (mapO Sum.inr (some 0))) 0)))))))
theorem F_rainbookref_CheckRec_eq (x : PI is_rainbookref_CheckRec) : F_rainbookref_CheckRec x = fnE T G_rainbookref_CheckRec H_rainbookref_CheckRec C_rainbookref_CheckRec (resOf Try.f119) is_rainbookref_CheckRec os_rainbookref_CheckRec x := by kernel_rfl
noncomputable abbrev R_rainbookref_CheckRec : GS := mkSpec false is_rainbookref_CheckRec os_rainbookref_CheckRec fun x => F_rainbookref_CheckRec x
theorem R_rainbookref_CheckRec_ok : GSOK Try.prog 119 R_rainbookref_CheckRec := spec_ok tok g_rainbookref_CheckRec fmo (Ht := H_rainbookref_CheckRec) (fn := Try.f119) (Try.func119) (c := C_rainbookref_CheckRec) (by kernel_rfl) (by kernel_rfl) (by kernel_rfl) (by decide +kernel) (by decide) F_rainbookref_CheckRec_eq
end Go.Proofs.Y
namespace Go.Proofs.Y
open Go.Rb Go.Kx
noncomputable def C_rainbookref_nexted : Code := bodyOf Try.f120
noncomputable def G_rainbookref_nexted : FuncId → Option GS := tabG [(80, R_rainbookref_PutAll), (81, R_rainbookref_Sealed), (82, R_rainbookref_MergedRow), (83, R_rainbookref_Dropped)]
theorem g_rainbookref_nexted : ΓOK Try.prog G_rainbookref_nexted := ΓOK_cons (R_rainbookref_PutAll_ok) (ΓOK_cons (R_rainbookref_Sealed_ok) (ΓOK_cons (R_rainbookref_MergedRow_ok) (ΓOK_cons (R_rainbookref_Dropped_ok) (ΓOK_nil))))
def H_rainbookref_nexted : HT := ⟨tabL [], tabH []⟩
abbrev is_rainbookref_nexted : List IT := [.v (.one (.sl 78 (.cons (.sl 58 (.cons (.int .i64) (.cons (.int .i64) (.cons (.int .i64) (.one (.sl 4 (.one .bool))))))) (.one (.sl 34 (.cons (.int .i64) (.one (.int .i64)))))))) true, .v (.cons (.int .i64) (.cons (.int .i64) (.cons (.int .i64) (.one (.sl 97 (.cons (.int .i64) (.cons (.int .i64) (.one (.int .i64))))))))) true]
abbrev os_rainbookref_nexted : List OT := [⟨.one (.sl 78 (.cons (.sl 58 (.cons (.int .i64) (.cons (.int .i64) (.cons (.int .i64) (.one (.sl 4 (.one .bool))))))) (.one (.sl 34 (.cons (.int .i64) (.one (.int .i64))))))), true, []⟩, ⟨.one (.int .i64), false, []⟩]
set_option maxRecDepth 100000
noncomputable def F_rainbookref_nexted : List (List (Int × Int × Int × List Bool) × List (Int × Int)) → Int × Int × Int × List (Int × Int × Int) → Option (List (List (Int × Int × Int × List Bool) × List (Int × Int)) × Int) := fun (a : List (List (Int × Int × Int × List Bool) × List (Int × Int))) (b : Int × Int × Int × List (Int × Int × Int)) => ifB (eqI b.1 1) (bindO (F_rainbookref_PutAll a b.2.2.2) fun (y : List (List (Int × Int × Int × List Bool) × List (Int × Int)) × Int) => some (y.1, y.2)) (ifB (eqI b.1 2) (bindO (F_rainbookref_Sealed a b.2.1 b.2.2.1) fun (y : List (List (Int × Int × Int × List Bool) × List (Int × Int)) × Int) => some (y.1, y.2)) (ifB (eqI b.1 3) (bindO (F_rainbookref_MergedRow a b.2.1 b.2.2.1) fun (y : List (List (Int × Int × Int × List Bool) × List (Int × Int)) × Int) => some (y.1, y.2)) (bindO (F_rainbookref_Dropped a b.2.2.1) fun (y : List (List (Int × Int × Int × List Bool) × List (Int × Int)) × Int) => some (y.1, y.2))))
theorem F_rainbookref_nexted_eq (x : PI is_rainbookref_nexted) : F_rainbookref_nexted (x.1) (x.2) = fnE T G_rainbookref_nexted H_rainbookref_nexted C_rainbookref_nexted (resOf Try.f120) is_rainbookref_nexted os_rainbookref_nexted x := by kernel_rfl
noncomputable abbrev R_rainbookref_nexted : GS := mkSpec false is_rainbookref_nexted os_rainbookref_nexted fun x => F_rainbookref_nexted (x.1) (x.2)
theorem R_rainbookref_nexted_ok : GSOK Try.prog 120 R_rainbookref_nexted := spec_ok tok g_rainbookref_nexted fmo (Ht := H_rainbookref_nexted) (fn := Try.f120) (Try.func120) (c := C_rainbookref_nexted) (by kernel_rfl) (by kernel_rfl) (by kernel_rfl) (by decide +kernel) (by decide) F_rainbookref_nexted_eq
end Go.Proofs.Y
namespace Go.Proofs.Y
open Go.Rb Go.Kx
noncomputable def C_rainbookref_Nexted : Code := bodyOf Try.f88
noncomputable def G_rainbookref_Nexted : FuncId → Option GS := tabG [(63, R_rainbookref_CheckShelf), (119, R_rainbookref_CheckRec), (120, R_rainbookref_nexted)]
theorem g_rainbookref_Nexted : ΓOK Try.prog G_rainbookref_Nexted := ΓOK_cons (R_rainbookref_CheckShelf_ok) (ΓOK_cons (R_rainbookref_CheckRec_ok) (ΓOK_cons (R_rainbookref_nexted_ok) (ΓOK_nil)))
def H_rainbookref_Nexted : HT := ⟨tabL [], tabH []⟩
abbrev is_rainbookref_Nexted : List IT := [.v (.one (.sl 78 (.cons (.sl 58 (.cons (.int .i64) (.cons (.int .i64) (.cons (.int .i64) (.one (.sl 4 (.one .bool))))))) (.one (.sl 34 (.cons (.int .i64) (.one (.int .i64)))))))) true, .v (.cons (.int .i64) (.cons (.int .i64) (.cons (.int .i64) (.one (.sl 97 (.cons (.int .i64) (.cons (.int .i64) (.one (.int .i64))))))))) true]
abbrev os_rainbookref_Nexted : List OT := [⟨.one (.sl 78 (.cons (.sl 58 (.cons (.int .i64) (.cons (.int .i64) (.cons (.int .i64) (.one (.sl 4 (.one .bool))))))) (.one (.sl 34 (.cons (.int .i64) (.one (.int .i64))))))), true, []⟩, ⟨.one (.int .i64), false, []⟩]
set_option maxRecDepth 100000
noncomputable def F_rainbookref_Nexted : List (List (Int × Int × Int × List Bool) × List (Int × Int)) → Int × Int × Int × List (Int × Int × Int) → Option (List (List (Int × Int × Int × List Bool) × List (Int × Int)) × Int) := fun (a : List (List (Int × Int × Int × List Bool) × List (Int × Int))) (b : Int × Int × Int × List (Int × Int × Int)) => bindO (F_rainbookref_CheckShelf a) fun (y : Int) => ifB (neI y 0) (some ([], y)) (bindO (F_rainbookref_CheckRec (b.1, b.2.1, b.2.2.1, b.2.2.2)) fun (y : Int) => ifB (neI y 0) (some ([], y)) (bindO (F_rainbookref_nexted a (b.1, b.2.1, b.2.2.1, b.2.2.2)) fun (y : List (List (Int × Int × Int × List Bool) × List (Int × Int)) × Int) => some (y.1, y.2)))
theorem F_rainbookref_Nexted_eq (x : PI is_rainbookref_Nexted) : F_rainbookref_Nexted (x.1) (x.2) = fnE T G_rainbookref_Nexted H_rainbookref_Nexted C_rainbookref_Nexted (resOf Try.f88) is_rainbookref_Nexted os_rainbookref_Nexted x := by kernel_rfl
noncomputable abbrev R_rainbookref_Nexted : GS := mkSpec false is_rainbookref_Nexted os_rainbookref_Nexted fun x => F_rainbookref_Nexted (x.1) (x.2)
theorem R_rainbookref_Nexted_ok : GSOK Try.prog 88 R_rainbookref_Nexted := spec_ok tok g_rainbookref_Nexted fmo (Ht := H_rainbookref_Nexted) (fn := Try.f88) (Try.func88) (c := C_rainbookref_Nexted) (by kernel_rfl) (by kernel_rfl) (by kernel_rfl) (by decide +kernel) (by decide) F_rainbookref_Nexted_eq
end Go.Proofs.Y
namespace Go.Proofs.Y
open Go.Rb Go.Kx
noncomputable def C_freshD : Code := bodyOf Try.f79
noncomputable def G_freshD : FuncId → Option GS := tabG []
theorem g_freshD : ΓOK Try.prog G_freshD := ΓOK_nil
def H_freshD : HT := ⟨tabL [], tabH []⟩
abbrev is_freshD : List IT := []
abbrev os_freshD : List OT := [⟨.one (.sl 78 (.cons (.sl 58 (.cons (.int .i64) (.cons (.int .i64) (.cons (.int .i64) (.one (.sl 4 (.one .bool))))))) (.one (.sl 34 (.cons (.int .i64) (.one (.int .i64))))))), true, []⟩]
set_option maxRecDepth 100000
noncomputable def F_freshD : Option (List (List (Int × Int × Int × List Bool) × List (Int × Int))) := ifB (roomI 48 4) (some (repI 4 ([], []))) none
theorem F_freshD_eq (x : PI is_freshD) : F_freshD  = fnE T G_freshD H_freshD C_freshD (resOf Try.f79) is_freshD os_freshD x := by kernel_rfl
noncomputable abbrev R_freshD : GS := mkSpec false is_freshD os_freshD fun x => F_freshD 
theorem R_freshD_ok : GSOK Try.prog 79 R_freshD := spec_ok tok g_freshD fmo (Ht := H_freshD) (fn := Try.f79) (Try.func79) (c := C_freshD) (by kernel_rfl) (by kernel_rfl) (by kernel_rfl) (by decide +kernel) (by decide) F_freshD_eq
end Go.Proofs.Y
namespace Go.Proofs.Y
open Go.Rb Go.Kx
noncomputable def C_rainbookref_ShelfOf : Code := bodyOf Try.f89
noncomputable def G_rainbookref_ShelfOf : FuncId → Option GS := tabG [(79, R_freshD), (119, R_rainbookref_CheckRec), (120, R_rainbookref_nexted)]
theorem g_rainbookref_ShelfOf : ΓOK Try.prog G_rainbookref_ShelfOf := ΓOK_cons (R_freshD_ok) (ΓOK_cons (R_rainbookref_CheckRec_ok) (ΓOK_cons (R_rainbookref_nexted_ok) (ΓOK_nil)))
def H_rainbookref_ShelfOf : HT := ⟨tabL [(5, .it [] (dyn [.t 17 (.int .i64), .c 2 0 (.sl 78 (.cons (.sl 58 (.cons (.int .i64) (.cons (.int .i64) (.cons (.int .i64) (.one (.sl 4 (.one .bool))))))) (.one (.sl 34 (.cons (.int .i64) (.one (.int .i64))))))), .c 4 0 (.sl 78 (.cons (.sl 58 (.cons (.int .i64) (.cons (.int .i64) (.cons (.int .i64) (.one (.sl 4 (.one .bool))))))) (.one (.sl 34 (.cons (.int .i64) (.one (.int .i64)))))))]))], tabH []⟩
abbrev is_rainbookref_ShelfOf : List IT := [.v (.one (.sl 104 (.cons (.int .i64) (.cons (.int .i64) (.cons (.int .i64) (.one (.sl 97 (.cons (.int .i64) (.cons (.int .i64) (.one (.int .i64))))))))))) false]
abbrev os_rainbookref_ShelfOf : List OT := [⟨.one (.sl 78 (.cons (.sl 58 (.cons (.int .i64) (.cons (.int .i64) (.cons (.int .i64) (.one (.sl 4 (.one .bool))))))) (.one (.sl 34 (.cons (.int .i64) (.one (.int .i64))))))), true, []⟩, ⟨.one (.int .i64), false, []⟩]
set_option maxRecDepth 100000
noncomputable def F_rainbookref_ShelfOf : List (Int × Int × Int × List (Int × Int × Int)) → Option (List (List (Int × Int × Int × List Bool) × List (Int × Int)) × Int) := fun (a : List (Int × Int × Int × List (Int × Int × Int))) => ifB (gtI (lenI a) 60) (some ([], 2)) (bindO F_freshD fun (y : List (List (Int × Int × Int × List Bool) × List (Int × Int))) => loopN maxR (fun (x : Int × List (List (Int × Int × Int × List Bool) × List (Int × Int)) × List (List (Int × Int × Int × List Bool) × List (Int × Int))) => ifB (ltI x.1 (lenI a)) (bindO (atI a x.1) fun (y : Int × Int × Int × List (Int × Int × Int)) => bindO (F_rainbookref_CheckRec (y.1, y.2.1, y.2.2.1, y.2.2.2)) fun (y_1 : Int) => ifB (neI y_1 0) (mapO Sum.inr (some ([], y_1))) (bindO (F_rainbookref_nexted x.2.2 (y.1, y.2.1, y.2.2.1, y.2.2.2)) fun (y : List (List (Int × Int × Int × List Bool) × List (Int × Int)) × Int) => ifB (neI y.2 0) (mapO Sum.inr (some ([], y.2))) (some (Sum.inl (wadd .i64 x.1 1, x.2.1, y.1))))) (mapO Sum.inr (some (x.2.2, 0)))) (0, [], y))
theorem F_rainbookref_ShelfOf_eq (x : PI is_rainbookref_ShelfOf) : F_rainbookref_ShelfOf x = fnE T G_rainbookref_ShelfOf H_rainbookref_ShelfOf C_rainbookref_ShelfOf (resOf Try.f89) is_rainbookref_ShelfOf os_rainbookref_ShelfOf x := by kernel_rfl
noncomputable abbrev R_rainbookref_ShelfOf : GS := mkSpec false is_rainbookref_ShelfOf os_rainbookref_ShelfOf fun x => F_rainbookref_ShelfOf x
theorem R_rainbookref_ShelfOf_ok : GSOK Try.prog 89 R_rainbookref_ShelfOf := spec_ok tok g_rainbookref_ShelfOf fmo (Ht := H_rainbookref_ShelfOf) (fn := Try.f89) (Try.func89) (c := C_rainbookref_ShelfOf) (by kernel_rfl) (by kernel_rfl) (by kernel_rfl) (by decide +kernel) (by decide) F_rainbookref_ShelfOf_eq
end Go.Proofs.Y
namespace Go.Proofs.Y
open Go.Rb Go.Kx
theorem noteCheck_eq (r : Rc) (hl : r.2.2.2.length < 4611686018427387904) : F_note_Check r = some (chkRec r) := by
  unfold F_note_Check chkRec
  have hloop : loopN maxR (fun (x : Int) => ifB (ltI x (lenI (Prod.snd (Prod.snd (Prod.snd r))))) (bindO (atI (Prod.snd (Prod.snd (Prod.snd r))) x) fun (y : Int × Int × Int) =>
      ifB (ltI (Prod.fst y) 0) (mapO Sum.inr (some 3)) (ifB (geI (Prod.fst y) 4) (mapO Sum.inr (some 3)) (ifB (ltI (Prod.fst (Prod.snd y)) 0) (mapO Sum.inr (some 3)) (ifB (gtI (Prod.fst (Prod.snd y)) 100000) (mapO Sum.inr (some 3))
        (ifB (ltI (Prod.snd (Prod.snd y)) (-1000000)) (mapO Sum.inr (some 3)) (ifB (gtI (Prod.snd (Prod.snd y)) 1000000) (mapO Sum.inr (some 3)) (some (Sum.inl (wadd IntKind.i64 x 1))))))))) (mapO Sum.inr (some 0))) 0 = some (entE r.2.2.2) := by
    generalize r.2.2.2 = l at *
    refine loop_range l (fun j (_ : Unit) => (j : Int)) (G := fun rest _ => some (entE rest)) (P := fun _ _ => True) ?_ ?_ (s0 := ()) trivial (by omega)
    · rintro j _ hj _ k hk
      have hat := atI_nat hj
      generalize l.getD j default = x at *
      simp only [stepK_ifB, stepK_bind, stepK_map, stepK_inl]
      rw [ifB_ltI, lenI_eq, if_pos (by omega), hat, bindO_some, ifB_ltI, ifB_geI, ifB_ltI, ifB_gtI, ifB_ltI, ifB_gtI, wadd_nat (by omega), hk () trivial, entE]
      by_cases hb : badEnt x
      · rw [if_pos hb]
        unfold badEnt at hb
        repeat' split
        all_goals first | rfl | (exfalso; omega)
      · rw [if_neg hb]
        unfold badEnt at hb
        repeat' split
        all_goals first | rfl | (exfalso; omega)
    · rintro _ _ k
      simp only [stepK_ifB, stepK_map]
      rw [ifB_ltI, lenI_eq, if_neg (by omega)]; rfl
  rw [hloop]
  simp only [ifB_ltI, ifB_gtI, ifB_eqI, ifB_neI, ifB_geI, lenI_eq]
  repeat' split
  all_goals first | rfl | (exfalso; omega)
theorem checkRec_eq (r : Rc) (hl : r.2.2.2.length < 4611686018427387904) : F_rainbookref_CheckRec r = some (chkRec r) := by
  unfold F_rainbookref_CheckRec chkRec
  have hloop : loopN maxR (fun (x : Int) => ifB (ltI x (lenI (Prod.snd (Prod.snd (Prod.snd r))))) (bindO (atI (Prod.snd (Prod.snd (Prod.snd r))) x) fun (y : Int × Int × Int) =>
      bindO (F_rainbookref_in (Prod.fst y) 0 3) fun (y_1 : Bool) => ifB (notB y_1) (mapO Sum.inr (some 3)) (bindO (F_rainbookref_CheckPoint (Prod.fst (Prod.snd y), Prod.snd (Prod.snd y))) fun (y : Int) => ifB (neI y 0) (mapO Sum.inr (some 3)) (some (Sum.inl (wadd IntKind.i64 x 1)))))
      (mapO Sum.inr (some 0))) 0 = some (entE r.2.2.2) := by
    generalize r.2.2.2 = l at *
    refine loop_range l (fun j (_ : Unit) => (j : Int)) (G := fun rest _ => some (entE rest)) (P := fun _ _ => True) ?_ ?_ (s0 := ()) trivial (by omega)
    · rintro j _ hj _ k hk
      have hat := atI_nat hj
      generalize l.getD j default = x at *
      simp only [stepK_ifB, stepK_bind, stepK_map, stepK_inl, in_eq, chkPoint_eq, bindO_some]
      rw [ifB_ltI, lenI_eq, if_pos (by omega), hat, bindO_some, ifB_not, ifB_dec, ifB_neI, wadd_nat (by omega), hk () trivial, entE]
      rcases chkP_or ((x.2.1, x.2.2) : Pt) with ⟨hb, hp⟩ | ⟨hb, hp⟩
      · rw [hp, if_neg (show ¬ (3 : Int) = 0 by decide)]
        have : badEnt x := by unfold badP at hb; unfold badEnt; simp only at hb; omega
        rw [if_pos this]; split <;> rfl
      · rw [hp, if_pos rfl]
        unfold PtIn at hb
        simp only at hb
        by_cases h : 0 ≤ x.1 ∧ x.1 ≤ 3
        · rw [if_pos h, if_neg (by unfold badEnt; omega)]
        · rw [if_neg h, if_pos (by unfold badEnt; omega)]
    · rintro _ _ k
      simp only [stepK_ifB, stepK_map]
      rw [ifB_ltI, lenI_eq, if_neg (by omega)]; rfl
  rw [hloop]
  simp only [in_eq, bindO_some, ifB_ltI, ifB_gtI, ifB_eqI, ifB_neI, ifB_geI, lenI_eq, ifB_not, ifB_dec]
  have hnil : ∀ l : List Ent, l.length = 0 → entE l = 0 := fun l h => by rw [List.eq_nil_of_length_eq_zero h]; rfl
  clear hloop
  obtain ⟨a, b, c, l⟩ := r
  simp only at hl ⊢
  by_cases k : 1 ≤ a ∧ a ≤ 4
  · rw [if_pos k, if_neg (show ¬ (a < 1 ∨ 4 < a) by omega)]
    by_cases k1 : a = 1
    · subst k1
      by_cases z1 : b = 0
      · by_cases z2 : c = 0
        · subst z1; subst z2
          by_cases h10 : 10 < l.length
          · have : (10 : Int) < l.length := by omega
            simp [this, h10]
          · have : ¬ (10 : Int) < l.length := by omega
            simp [this, h10]
        · simp [z1, z2]
      · simp [z1]
    · have h10 : 0 < l.length ∨ l.length = 0 := by omega
      rcases h10 with h0 | h0
      · have : (0 : Int) < l.length := by omega
        simp only [if_neg k1, if_pos this, if_pos (show 0 < l.length ∨ (a = 4 ∧ ¬ b = 0) from .inl h0)]
      · have e0 : ¬ (0 : Int) < l.length := by omega
        have e1 : ¬ (10 : Int) < l.length := by omega
        simp only [if_neg k1, if_neg e0, if_neg e1, hnil l h0]
        by_cases k4 : a = 4
        · by_cases z : b = 0
          · rw [if_pos k4, if_pos z, if_neg (show ¬ (0 < l.length ∨ (a = 4 ∧ ¬ b = 0)) by omega)]
            by_cases g : 0 ≤ c ∧ c ≤ 100001
            · rw [if_pos (show 0 ≤ b ∧ b ≤ 3 by omega), if_pos g, if_neg (by omega)]
            · rw [if_pos (show 0 ≤ b ∧ b ≤ 3 by omega), if_neg g, if_pos (by omega)]
          · rw [if_pos k4, if_neg z, if_pos (.inr ⟨k4, z⟩)]
        · rw [if_neg k4, if_neg (show ¬ (0 < l.length ∨ (a = 4 ∧ ¬ b = 0)) by omega)]
          by_cases g0 : 0 ≤ b ∧ b ≤ 3
          · by_cases g : 0 ≤ c ∧ c ≤ 100001
            · rw [if_pos g0, if_pos g, if_neg (by omega)]
            · rw [if_pos g0, if_neg g, if_pos (by omega)]
          · rw [if_neg g0, if_pos (by omega)]
  · rw [if_neg k, if_pos (show a < 1 ∨ 4 < a by omega)]
theorem next_eq (s : Shf) (r : Rc) (hs : okS s) (hl : r.2.2.2.length < 4611686018427387904) : F_store_Next s r = some (nextS s r) := by
  unfold F_store_Next nextS doRec
  rw [checkS_eq s hs, bindO_some, show F_note_Check (r.1, r.2.1, r.2.2.1, r.2.2.2) = some (chkRec r) from noteCheck_eq r hl, bindO_some, shelfPut_eq _ _ hs hl, seal_eq _ _ _ hs, mergeS_eq _ _ _ hs, drop_eq _ _ hs]
  simp only [bindO_some, ifB_neI, ifB_eqI]
  split
  · split
    · split
      · rfl
      · split
        · rfl
        · split <;> rfl
    · rfl
  · rfl
theorem nexted0_eq (s : Shf) (r : Rc) (hc : chkS s = 0) (hr : chkRec r = 0) : F_rainbookref_nexted s r = some (doRec s r) := by
  obtain ⟨k1, k2, k3, k4⟩ := chkRec_kind hr
  unfold F_rainbookref_nexted doRec
  have p1 : putS s r.2.2.2 = if 10 < r.2.2.2.length then ([], 2) else putE s r.2.2.2 := by unfold putS; rw [if_pos hc]
  have p2 : sealS s r.2.1 r.2.2.1 = onRow s r.2.1 (sealR r.2.2.1) := by unfold sealS; rw [if_pos hc]
  have p3 : mergeS s r.2.1 r.2.2.1 = onRow s r.2.1 (mergeW r.2.2.1) := by unfold mergeS; rw [if_pos hc]
  have p4 : dropS s r.2.2.1 = if r.2.2.1 < 0 ∨ 100001 < r.2.2.1 then ([], 3) else (s.map (dropR r.2.2.1), 0) := by unfold dropS; rw [if_pos hc]
  rw [ifB_eqI, ifB_eqI, ifB_eqI, p1, p2, p3, p4]
  by_cases c1 : r.1 = 1
  · rw [if_pos c1, if_pos c1, putAll_eq s _ hc (by have := (k3 c1).2.2.1; omega)]; rfl
  · have k5 := k4 c1
    rw [if_neg c1, if_neg c1]
    by_cases c2 : r.1 = 2
    · rw [if_pos c2, if_pos c2, sealed_eq s _ _ hc]; rfl
    · rw [if_neg c2, if_neg c2]
      by_cases c3 : r.1 = 3
      · rw [if_pos c3, if_pos c3, mergedRow_eq s _ _ hc (by omega)]; rfl
      · rw [if_neg c3, if_neg c3, dropped_eq s _ hc]; rfl
theorem nexted_eq (s : Shf) (r : Rc) (hs : okS s) (hl : r.2.2.2.length < 4611686018427387904) : F_rainbookref_Nexted s r = some (nextS s r) := by
  unfold F_rainbookref_Nexted nextS
  rw [checkShelf_eq s hs, bindO_some, show F_rainbookref_CheckRec (r.1, r.2.1, r.2.2.1, r.2.2.2) = some (chkRec r) from checkRec_eq r hl, bindO_some, ifB_neI, ifB_neI]
  by_cases hc : chkS s = 0
  · rw [if_pos hc, if_pos hc]
    by_cases hr : chkRec r = 0
    · rw [if_pos hr, if_pos hr, show F_rainbookref_nexted s (r.1, r.2.1, r.2.2.1, r.2.2.2) = some (doRec s r) from nexted0_eq s r hc hr]; rfl
    · rw [if_neg hr, if_neg hr]
  · rw [if_neg hc, if_neg hc]
theorem replay_eq (l : List Rc) (hl : l.length < 4611686018427387904) (he : ∀ r ∈ l, r.2.2.2.length < 4611686018427387904) : F_store_Replay l = some (replayR l) := by
  unfold F_store_Replay replayR
  rw [ifB_gtI, lenI_eq]
  by_cases h : 60 < l.length
  · rw [if_pos (by omega), if_pos h]
  · rw [if_neg (by omega), if_neg h, new_eq, bindO_some]
    refine loop_range l (fun j (s : Shf) => ((j : Int), ([] : Shf), s)) (G := fun rest s => some (replayS s rest)) (P := fun _ s => chkS s = 0) ?_ ?_ (s0 := freshS) fresh_ok (by omega)
    · rintro j s hj hs k hk
      have hat := atI_nat hj
      have hr := he _ (getD_mem hj)
      generalize l.getD j default = r at *
      simp only
      rw [stepK_ifB, stepK_map, ifB_ltI, if_pos (by omega), hat, stepK_bind, bindO_some, stepK_bind, show F_store_Next s (r.1, r.2.1, r.2.2.1, r.2.2.2) = some (nextS s r) from next_eq s r (okS_of hs) hr, bindO_some, stepK_ifB, stepK_map, stepK_inl, ifB_neI, replayS, wadd_nat (by omega)]
      by_cases hz : (nextS s r).2 = 0
      · rw [if_pos hz, if_pos hz]; exact hk _ (nextS_ok hz).2.2.2
      · rw [if_neg hz, if_neg hz]
    · rintro s _ k
      simp only
      rw [stepK_ifB, stepK_map, ifB_ltI, if_neg (by omega)]; rfl
theorem freshD_eq : F_freshD = some freshS := by
  unfold F_freshD
  rw [ifB_roomI, if_pos (by decide)]; rfl
theorem shelfOf_eq (l : List Rc) (hl : l.length < 4611686018427387904) (he : ∀ r ∈ l, r.2.2.2.length < 4611686018427387904) : F_rainbookref_ShelfOf l = some (replayR l) := by
  unfold F_rainbookref_ShelfOf replayR
  rw [ifB_gtI, lenI_eq]
  by_cases h : 60 < l.length
  · rw [if_pos (by omega), if_pos h]
  · rw [if_neg (by omega), if_neg h, freshD_eq, bindO_some]
    refine loop_range l (fun j (s : Shf) => ((j : Int), ([] : Shf), s)) (G := fun rest s => some (replayS s rest)) (P := fun _ s => chkS s = 0) ?_ ?_ (s0 := freshS) fresh_ok (by omega)
    · rintro j s hj hs k hk
      have hat := atI_nat hj
      have hr := he _ (getD_mem hj)
      generalize l.getD j default = r at *
      simp only
      rw [stepK_ifB, stepK_map, ifB_ltI, if_pos (by omega), hat, stepK_bind, bindO_some, stepK_bind, show F_rainbookref_CheckRec (r.1, r.2.1, r.2.2.1, r.2.2.2) = some (chkRec r) from checkRec_eq r hr, bindO_some, stepK_ifB, stepK_map, ifB_neI, replayS, stepK_bind]
      have hnx : nextS s r = if chkRec r = 0 then doRec s r else ([], chkRec r) := by unfold nextS; rw [if_pos hs]
      by_cases hc : chkRec r = 0
      · rw [if_pos hc] at hnx ⊢
        rw [show F_rainbookref_nexted s (r.1, r.2.1, r.2.2.1, r.2.2.2) = some (doRec s r) from nexted0_eq s r hs hc, bindO_some, stepK_ifB, stepK_map, stepK_inl, ifB_neI, ← hnx, wadd_nat (by omega)]
        by_cases hz : (nextS s r).2 = 0
        · rw [if_pos hz, if_pos hz]; exact hk _ (nextS_ok hz).2.2.2
        · rw [if_neg hz, if_neg hz]
      · rw [if_neg hc] at hnx ⊢
        rw [hnx]
        simp only
        rw [if_neg hc]
    · rintro s _ k
      simp only
      rw [stepK_ifB, stepK_map, ifB_ltI, if_neg (by omega)]; rfl
theorem doRec_okS (s : Shf) (r : Rc) : okS (doRec s r).1 := by
  unfold doRec
  split
  · exact putS_okS _ _
  · split
    · exact sealS_okS _ _ _
    · split
      · exact mergeS_okS _ _ _
      · exact dropS_okS _ _
theorem nextS_okS (s : Shf) (r : Rc) : okS (nextS s r).1 := by
  unfold nextS
  split
  · split
    · exact doRec_okS _ _
    · exact nil_ok
  · exact nil_ok
theorem replayS_okS : ∀ (l : List Rc) (s : Shf), okS s → okS (replayS s l).1
  | [], _, h => h
  | r :: l, s, h => by
    rw [replayS]
    split
    · exact replayS_okS l _ (nextS_okS s r)
    · exact nil_ok
theorem replayR_okS (l : List Rc) : okS (replayR l).1 := by
  unfold replayR
  split
  · exact nil_ok
  · exact replayS_okS _ _ (okS_of fresh_ok)
end Go.Proofs.Y
namespace Go.Proofs.Y
open Go.Rb Go.Kx
noncomputable def C_rainbooklaw_batch : Code := bodyOf Try.f117
noncomputable def G_rainbooklaw_batch : FuncId → Option GS := tabG []
theorem g_rainbooklaw_batch : ΓOK Try.prog G_rainbooklaw_batch := ΓOK_nil
def H_rainbooklaw_batch : HT := ⟨tabL [], tabH []⟩
abbrev is_rainbooklaw_batch : List IT := []
abbrev os_rainbooklaw_batch : List OT := [⟨.cons (.int .i64) (.cons (.int .i64) (.cons (.int .i64) (.one (.sl 97 (.cons (.int .i64) (.cons (.int .i64) (.one (.int .i64)))))))), true, []⟩]
set_option maxRecDepth 100000
noncomputable def F_rainbooklaw_batch : Option (Int × Int × Int × List (Int × Int × Int)) := some (1, 0, 0, [(1, 10, -5), (2, 3, 4)])
theorem F_rainbooklaw_batch_eq (x : PI is_rainbooklaw_batch) : F_rainbooklaw_batch  = fnE T G_rainbooklaw_batch H_rainbooklaw_batch C_rainbooklaw_batch (resOf Try.f117) is_rainbooklaw_batch os_rainbooklaw_batch x := by kernel_rfl
noncomputable abbrev R_rainbooklaw_batch : GS := mkSpec false is_rainbooklaw_batch os_rainbooklaw_batch fun x => F_rainbooklaw_batch 
theorem R_rainbooklaw_batch_ok : GSOK Try.prog 117 R_rainbooklaw_batch := spec_ok tok g_rainbooklaw_batch fmo (Ht := H_rainbooklaw_batch) (fn := Try.f117) (Try.func117) (c := C_rainbooklaw_batch) (by kernel_rfl) (by kernel_rfl) (by kernel_rfl) (by decide +kernel) (by decide) F_rainbooklaw_batch_eq
end Go.Proofs.Y
namespace Go.Proofs.Y
open Go.Rb Go.Kx
noncomputable def C_rainbooklaw_stored : Code := bodyOf Try.f86
noncomputable def G_rainbooklaw_stored : FuncId → Option GS := tabG [(117, R_rainbooklaw_batch), (85, R_store_Replay), (87, R_store_Next), (69, R_shelf_All)]
theorem g_rainbooklaw_stored : ΓOK Try.prog G_rainbooklaw_stored := ΓOK_cons (R_rainbooklaw_batch_ok) (ΓOK_cons (R_store_Replay_ok) (ΓOK_cons (R_store_Next_ok) (ΓOK_cons (R_shelf_All_ok) (ΓOK_nil))))
def H_rainbooklaw_stored : HT := ⟨tabL [], tabH []⟩
abbrev is_rainbooklaw_stored : List IT := []
abbrev os_rainbooklaw_stored : List OT := [⟨.one .bool, false, []⟩]
set_option maxRecDepth 100000
noncomputable def F_rainbooklaw_stored : Option Bool :=  bindO F_rainbooklaw_batch fun (y : Int × Int × Int × List (Int × Int × Int)) => bindO (F_store_Replay [(y.1, y.2.1, y.2.2.1, y.2.2.2), (2, 1, 1, [])]) fun (y : List (List (Int × Int × Int × List Bool) × List (Int × Int)) × Int) => bindO (F_store_Next y.1 (4, 0, 11, [])) fun (y_1 : List (List (Int × Int × Int × List Bool) × List (Int × Int)) × Int) => bindO F_rainbooklaw_batch fun (y_2 : Int × Int × Int × List (Int × Int × Int)) => bindO (F_store_Next y.1 (y_2.1, y_2.2.1, y_2.2.2.1, y_2.2.2.2)) fun (y_3 : List (List (Int × Int × Int × List Bool) × List (Int × Int)) × Int) => bindO (F_store_Next y.1 (0, 0, 0, [])) fun (y_4 : List (List (Int × Int × Int × List Bool) × List (Int × Int)) × Int) => bindO (F_shelf_All y.1 1) fun (y_5 : List (Int × Int) × Int) => bindO (F_shelf_All y_1.1 1) fun (y_6 : List (Int × Int) × Int) => bindO (F_shelf_All y_1.1 2) fun (y_7 : List (Int × Int) × Int) => ifB (eqI y.2 0) (ifB (eqI y_1.2 0) (ifB (eqI y_3.2 7) (ifB (eqI y_4.2 4) (ifB (eqI y_5.2 0) (ifB (eqI y_6.2 0) (ifB (eqI y_7.2 0) (ifB (eqI (lenI y_5.1) 1) (ifB (eqI (lenI y_6.1) 0) (some (eqI (lenI y_7.1) 1)) (some false)) (some false)) (some false)) (some false)) (some false)) (some false)) (some false)) (some false)) (some false)
theorem F_rainbooklaw_stored_eq (x : PI is_rainbooklaw_stored) : F_rainbooklaw_stored  = fnE T G_rainbooklaw_stored H_rainbooklaw_stored C_rainbooklaw_stored (resOf Try.f86) is_rainbooklaw_stored os_rainbooklaw_stored x := by kernel_rfl
noncomputable abbrev R_rainbooklaw_stored : GS := mkSpec false is_rainbooklaw_stored os_rainbooklaw_stored fun x => F_rainbooklaw_stored 
theorem R_rainbooklaw_stored_ok : GSOK Try.prog 86 R_rainbooklaw_stored := spec_ok tok g_rainbooklaw_stored fmo (Ht := H_rainbooklaw_stored) (fn := Try.f86) (Try.func86) (c := C_rainbooklaw_stored) (by kernel_rfl) (by kernel_rfl) (by kernel_rfl) (by decide +kernel) (by decide) F_rainbooklaw_stored_eq
end Go.Proofs.Y
namespace Go.Proofs.Y
open Go.Rb Go.Kx
noncomputable def C_rainbooklaw_StoreSays : Code := bodyOf Try.f23
noncomputable def G_rainbooklaw_StoreSays : FuncId → Option GS := tabG [(87, R_store_Next), (85, R_store_Replay), (88, R_rainbookref_Nexted), (89, R_rainbookref_ShelfOf), (86, R_rainbooklaw_stored), (77, R_rainbookref_SameShelf)]
theorem g_rainbooklaw_StoreSays : ΓOK Try.prog G_rainbooklaw_StoreSays := ΓOK_cons (R_store_Next_ok) (ΓOK_cons (R_store_Replay_ok) (ΓOK_cons (R_rainbookref_Nexted_ok) (ΓOK_cons (R_rainbookref_ShelfOf_ok) (ΓOK_cons (R_rainbooklaw_stored_ok) (ΓOK_cons (R_rainbookref_SameShelf_ok) (ΓOK_nil))))))
def H_rainbooklaw_StoreSays : HT := ⟨tabL [], tabH []⟩
abbrev is_rainbooklaw_StoreSays : List IT := [.v (.one (.sl 78 (.cons (.sl 58 (.cons (.int .i64) (.cons (.int .i64) (.cons (.int .i64) (.one (.sl 4 (.one .bool))))))) (.one (.sl 34 (.cons (.int .i64) (.one (.int .i64)))))))) true, .v (.cons (.int .i64) (.cons (.int .i64) (.cons (.int .i64) (.one (.sl 97 (.cons (.int .i64) (.cons (.int .i64) (.one (.int .i64))))))))) true, .v (.one (.sl 104 (.cons (.int .i64) (.cons (.int .i64) (.cons (.int .i64) (.one (.sl 97 (.cons (.int .i64) (.cons (.int .i64) (.one (.int .i64))))))))))) false]
abbrev os_rainbooklaw_StoreSays : List OT := [⟨.one .bool, false, []⟩]
set_option maxRecDepth 100000
noncomputable def F_rainbooklaw_StoreSays : List (List (Int × Int × Int × List Bool) × List (Int × Int)) → Int × Int × Int × List (Int × Int × Int) → List (Int × Int × Int × List (Int × Int × Int)) → Option Bool := fun (a : List (List (Int × Int × Int × List Bool) × List (Int × Int))) (b : Int × Int × Int × List (Int × Int × Int)) (c : List (Int × Int × Int × List (Int × Int × Int))) => bindO (F_store_Next a (b.1, b.2.1, b.2.2.1, b.2.2.2)) fun (y : List (List (Int × Int × Int × List Bool) × List (Int × Int)) × Int) => bindO (F_store_Replay c) fun (y_1 : List (List (Int × Int × Int × List Bool) × List (Int × Int)) × Int) => bindO (F_rainbookref_Nexted a (b.1, b.2.1, b.2.2.1, b.2.2.2)) fun (y_2 : List (List (Int × Int × Int × List Bool) × List (Int × Int)) × Int) => bindO (F_rainbookref_ShelfOf c) fun (y_3 : List (List (Int × Int × Int × List Bool) × List (Int × Int)) × Int) => bindO F_rainbooklaw_stored fun (y_4 : Bool) => ifB y_4 (ifB (eqI y.2 y_2.2) (bindO (F_rainbookref_SameShelf y.1 y_2.1) fun (y : Bool) => ifB y (ifB (eqI y_1.2 y_3.2) (bindO (F_rainbookref_SameShelf y_1.1 y_3.1) fun (y : Bool) => some y) (some false)) (some false)) (some false)) (some false)
theorem F_rainbooklaw_StoreSays_eq (x : PI is_rainbooklaw_StoreSays) : F_rainbooklaw_StoreSays (x.1) (x.2.1) (x.2.2) = fnE T G_rainbooklaw_StoreSays H_rainbooklaw_StoreSays C_rainbooklaw_StoreSays (resOf Try.f23) is_rainbooklaw_StoreSays os_rainbooklaw_StoreSays x := by kernel_rfl
noncomputable abbrev R_rainbooklaw_StoreSays : GS := mkSpec false is_rainbooklaw_StoreSays os_rainbooklaw_StoreSays fun x => F_rainbooklaw_StoreSays (x.1) (x.2.1) (x.2.2)
theorem R_rainbooklaw_StoreSays_ok : GSOK Try.prog 23 R_rainbooklaw_StoreSays := spec_ok tok g_rainbooklaw_StoreSays fmo (Ht := H_rainbooklaw_StoreSays) (fn := Try.f23) (Try.func23) (c := C_rainbooklaw_StoreSays) (by kernel_rfl) (by kernel_rfl) (by kernel_rfl) (by decide +kernel) (by decide) F_rainbooklaw_StoreSays_eq
end Go.Proofs.Y
namespace Go.Proofs.Y
open Go.Rb Go.Kx
noncomputable def C_rainbooklaw_StorePoints : Code := bodyOf Try.f22
noncomputable def G_rainbooklaw_StorePoints : FuncId → Option GS := tabG [(30, R_rainbooklaw_at), (85, R_store_Replay), (86, R_rainbooklaw_stored), (69, R_shelf_All), (50, R_equalP)]
theorem g_rainbooklaw_StorePoints : ΓOK Try.prog G_rainbooklaw_StorePoints := ΓOK_cons (R_rainbooklaw_at_ok) (ΓOK_cons (R_store_Replay_ok) (ΓOK_cons (R_rainbooklaw_stored_ok) (ΓOK_cons (R_shelf_All_ok) (ΓOK_cons (R_equalP_ok) (ΓOK_nil)))))
def H_rainbooklaw_StorePoints : HT := ⟨tabL [(11, .it [] (dyn [.a 8 34 (.cons (.int .i64) (.one (.int .i64))), .t 9 (.int .i64), .t 40 (.int .i64)])), (16, .it [] (dyn [.a 8 34 (.cons (.int .i64) (.one (.int .i64))), .t 54 (.int .i64)])), (25, .it [] (dyn [.t 97 (.int .i64)]))], tabH []⟩
abbrev is_rainbooklaw_StorePoints : List IT := [.v (.one (.sl 104 (.cons (.int .i64) (.cons (.int .i64) (.cons (.int .i64) (.one (.sl 97 (.cons (.int .i64) (.cons (.int .i64) (.one (.int .i64))))))))))) false, .v (.one (.int .i64)) false]
abbrev os_rainbooklaw_StorePoints : List OT := [⟨.one .bool, false, []⟩]
set_option maxRecDepth 100000
noncomputable def F_rainbooklaw_StorePoints : List (Int × Int × Int × List (Int × Int × Int)) → Int → Option Bool := fun (a : List (Int × Int × Int × List (Int × Int × Int))) (b : Int) => bindO (F_rainbooklaw_at b 4) fun (y : Int) => bindO (F_store_Replay a) fun (y_1 : List (List (Int × Int × Int × List Bool) × List (Int × Int)) × Int) => bindO F_rainbooklaw_stored fun (y_2 : Bool) => ifB (notB y_2) (bindO F_rainbooklaw_stored fun (y : Bool) => some y) (ifB (neI y_1.2 0) (bindO F_rainbooklaw_stored fun (y : Bool) => some y) (bindO (F_shelf_All y_1.1 y) fun (y_3 : List (Int × Int) × Int) => ifB (neI y_3.2 0) (some false) (loopN maxR (fun (x : Int × Int × List (Int × Int)) => ifB (ltI x.2.1 (lenI a)) (bindO (atI a x.2.1) fun (y_4 : Int × Int × Int × List (Int × Int × Int)) => ifB (eqI y_4.1 4) (loopN maxR (fun (x_1 : Int × List (Int × Int)) => ifB (ltI x_1.1 (lenI y_4.2.2.2)) (bindO (atI y_4.2.2.2 x_1.1) fun (y_5 : Int × Int × Int) => ifB (eqI y_5.1 y) (ifB (roomA 16 x_1.2 [(y_5.2.1, y_5.2.2)]) (some (Sum.inl (wadd .i64 x_1.1 1, cat x_1.2 [(y_5.2.1, y_5.2.2)]))) none) (some (Sum.inl (wadd .i64 x_1.1 1, x_1.2)))) (mapO Sum.inr (some (Sum.inl (maxI x.1 y_4.2.2.1, wadd .i64 x.2.1 1, x_1.2))))) (0, x.2.2)) (loopN maxR (fun (x_1 : Int × List (Int × Int)) => ifB (ltI x_1.1 (lenI y_4.2.2.2)) (bindO (atI y_4.2.2.2 x_1.1) fun (y_5 : Int × Int × Int) => ifB (eqI y_5.1 y) (ifB (roomA 16 x_1.2 [(y_5.2.1, y_5.2.2)]) (some (Sum.inl (wadd .i64 x_1.1 1, cat x_1.2 [(y_5.2.1, y_5.2.2)]))) none) (some (Sum.inl (wadd .i64 x_1.1 1, x_1.2)))) (mapO Sum.inr (some (Sum.inl (x.1, wadd .i64 x.2.1 1, x_1.2))))) (0, x.2.2))) (mapO Sum.inr (ifB (gtI (lenI y_3.1) (lenI x.2.2)) (some false) (ifB (in1 x.2.2 (wsub .i64 (lenI x.2.2) (lenI y_3.1))) (ifB (inN x.2.2 (addN 0 (natI (wsub .i64 (lenI x.2.2) (lenI y_3.1)))) (subNI (lenN x.2.2) (wsub .i64 (lenI x.2.2) (lenI y_3.1)))) (bindO (F_equalP y_3.1 (subN x.2.2 (addN 0 (natI (wsub .i64 (lenI x.2.2) (lenI y_3.1)))) (subNI (lenN x.2.2) (wsub .i64 (lenI x.2.2) (lenI y_3.1))))) fun (y : Bool) => ifB (notB y) (some false) (ifB (in1 x.2.2 (wsub .i64 (lenI x.2.2) (lenI y_3.1))) (loopN maxR (fun (x_1 : Int) => ifB (ltI x_1 (lenI (takeI x.2.2 (wsub .i64 (lenI x.2.2) (lenI y_3.1))))) (bindO (atI (takeI x.2.2 (wsub .i64 (lenI x.2.2) (lenI y_3.1))) x_1) fun (y : Int × Int) => ifB (geI y.1 x.1) (mapO Sum.inr (some false)) (some (Sum.inl (wadd .i64 x_1 1)))) (mapO Sum.inr (some true))) 0) none)) none) none)))) (0, 0, []))))
theorem F_rainbooklaw_StorePoints_eq (x : PI is_rainbooklaw_StorePoints) : F_rainbooklaw_StorePoints (x.1) (x.2) = fnE T G_rainbooklaw_StorePoints H_rainbooklaw_StorePoints C_rainbooklaw_StorePoints (resOf Try.f22) is_rainbooklaw_StorePoints os_rainbooklaw_StorePoints x := by kernel_rfl
noncomputable abbrev R_rainbooklaw_StorePoints : GS := mkSpec false is_rainbooklaw_StorePoints os_rainbooklaw_StorePoints fun x => F_rainbooklaw_StorePoints (x.1) (x.2)
theorem R_rainbooklaw_StorePoints_ok : GSOK Try.prog 22 R_rainbooklaw_StorePoints := spec_ok tok g_rainbooklaw_StorePoints fmo (Ht := H_rainbooklaw_StorePoints) (fn := Try.f22) (Try.func22) (c := C_rainbooklaw_StorePoints) (by kernel_rfl) (by kernel_rfl) (by kernel_rfl) (by decide +kernel) (by decide) F_rainbooklaw_StorePoints_eq
end Go.Proofs.Y
namespace Go.Proofs.Y
open Go.Rb Go.Kx
def batch2 : Rc := (1, 0, 0, [(1, 10, -5), (2, 3, 4)])
theorem batch_eq : F_rainbooklaw_batch = some batch2 := rfl
theorem stored_eq : F_rainbooklaw_stored = some true := by
  unfold F_rainbooklaw_stored
  have e1 : (replayR [batch2, (2, 1, 1, [])]).2 = 0 := by decide +kernel
  have c1 := (replayR_len e1).2.1
  have e2 : (nextS (replayR [batch2, (2, 1, 1, [])]).1 (4, 0, 11, [])).2 = 0 := by decide +kernel
  have c2 := (nextS_ok e2).2.2.2
  have e3 : (nextS (replayR [batch2, (2, 1, 1, [])]).1 batch2).2 = 7 := by decide +kernel
  have e4 : (nextS (replayR [batch2, (2, 1, 1, [])]).1 (0, 0, 0, [])).2 = 4 := by decide +kernel
  have e5 : (allS (replayR [batch2, (2, 1, 1, [])]).1 1).2 = 0 ∧ (allS (replayR [batch2, (2, 1, 1, [])]).1 1).1.length = 1 := by decide +kernel
  have e6 : (allS (nextS (replayR [batch2, (2, 1, 1, [])]).1 (4, 0, 11, [])).1 1).2 = 0 ∧ (allS (nextS (replayR [batch2, (2, 1, 1, [])]).1 (4, 0, 11, [])).1 1).1.length = 0 := by decide +kernel
  have e7 : (allS (nextS (replayR [batch2, (2, 1, 1, [])]).1 (4, 0, 11, [])).1 2).2 = 0 ∧ (allS (nextS (replayR [batch2, (2, 1, 1, [])]).1 (4, 0, 11, [])).1 2).1.length = 1 := by decide +kernel
  rw [batch_eq, bindO_some, show F_store_Replay [(batch2.1, batch2.2.1, batch2.2.2.1, batch2.2.2.2), (2, 1, 1, [])] = some (replayR [batch2, (2, 1, 1, [])]) from replay_eq _ (by decide) (by decide), bindO_some, next_eq _ _ (okS_of c1) (by decide), bindO_some, bindO_some,
    show F_store_Next (replayR [batch2, (2, 1, 1, [])]).1 (batch2.1, batch2.2.1, batch2.2.2.1, batch2.2.2.2) = some (nextS (replayR [batch2, (2, 1, 1, [])]).1 batch2) from next_eq _ _ (okS_of c1) (by decide), bindO_some, next_eq _ _ (okS_of c1) (by decide), bindO_some, allS_eq _ _ (okS_of c1), bindO_some, allS_eq _ _ (okS_of c2), bindO_some, allS_eq _ _ (okS_of c2), bindO_some]
  simp only [e1, e2, e3, e4, e5.1, e6.1, e7.1, lenI_eq, e5.2, e6.2, e7.2]
  rfl
theorem storeSays_eq (s : Shf) (r : Rc) (l : List Rc) (hs : okS s) (hr : r.2.2.2.length < 4611686018427387904) (hl : l.length < 4611686018427387904) (he : ∀ r ∈ l, r.2.2.2.length < 4611686018427387904) : F_rainbooklaw_StoreSays s r l = some true := by
  unfold F_rainbooklaw_StoreSays
  have e1 : ∀ r : Rc, ((r.1, r.2.1, r.2.2.1, r.2.2.2) : Rc) = r := fun _ => rfl
  simp only [e1, next_eq s r hs hr, nexted_eq s r hs hr, replay_eq l hl he, shelfOf_eq l hl he, stored_eq, bindO_some, ifB_t, eqI_self, sameShelf_eq _ _ (nextS_okS s r), sameShelf_eq _ _ (replayR_okS l), decide_true]
theorem allP_take (j : Int) {l : List Rc} {i : Nat} (h : i < l.length) : allP j (l.take (i + 1)) = allP j (l.take i) ++ entP j (l.getD i default).2.2.2 := by
  rw [take_next h]; simp [allP]
theorem leastF_take {l : List Rc} {i : Nat} (h : i < l.length) : leastF 0 (l.take (i + 1)) = if (l.getD i default).1 = 4 then max (leastF 0 (l.take i)) (l.getD i default).2.2.1 else leastF 0 (l.take i) := by
  rw [take_next h]; simp [leastF]
theorem entP_len (j : Int) (l : List Ent) : (entP j l).length ≤ l.length := by
  unfold entP
  rw [List.length_map]; exact List.length_filter_le _ _
theorem allP_len (j : Int) : ∀ (l : List Rc), (∀ r ∈ l, r.2.2.2.length ≤ 10) → (allP j l).length ≤ 10 * l.length
  | [], _ => by simp [allP]
  | r :: l, h => by
    have h1 := allP_len j l fun q hq => h q (List.mem_cons_of_mem _ hq)
    have h2 := entP_len j r.2.2.2
    have h3 := h r List.mem_cons_self
    have : allP j (r :: l) = entP j r.2.2.2 ++ allP j l := by simp [allP]
    rw [this, List.length_append, List.length_cons]; omega
/-- A batch's points of a series are put behind what is there. -/
theorem entLoop {α : Type} (l : List Ent) (j : Int) (acc : List Pt) (ha : acc.length ≤ 1000) (hl : l.length ≤ 10) (K : Int × List Pt → Option α) :
    loopN maxR (fun (x_1 : Int × List (Int × Int)) => ifB (ltI (Prod.fst x_1) (lenI l)) (bindO (atI l (Prod.fst x_1)) fun (y_5 : Int × Int × Int) => ifB (eqI (Prod.fst y_5) j)
      (ifB (roomA 16 (Prod.snd x_1) [(Prod.fst (Prod.snd y_5), Prod.snd (Prod.snd y_5))]) (some (Sum.inl (wadd IntKind.i64 (Prod.fst x_1) 1, cat (Prod.snd x_1) [(Prod.fst (Prod.snd y_5), Prod.snd (Prod.snd y_5))]))) none)
      (some (Sum.inl (wadd IntKind.i64 (Prod.fst x_1) 1, Prod.snd x_1)))) (mapO Sum.inr (K x_1))) (0, acc) = K ((l.length : Int), acc ++ entP j l) := by
  refine loop_range l (fun i (t : List Pt) => ((i : Int), t)) (G := fun rest t => K ((l.length : Int), t ++ entP j rest)) (P := fun i t => t.length ≤ 1000 + i) ?_ ?_ (s0 := acc) (by omega) (by omega)
  · rintro i t hi ht k hk
    have hat := atI_nat hi
    generalize l.getD i default = x at *
    simp only
    rw [stepK_ifB, stepK_map, ifB_ltI, lenI_eq, if_pos (by omega), hat, stepK_bind, bindO_some, stepK_ifB, stepK_ifB, stepK_inl, stepK_inl, stepK_none, ifB_eqI, wadd_nat (by omega)]
    by_cases hx : x.1 = j
    · rw [if_pos hx, ifB_roomA, if_pos (by simp only [List.length_cons, List.length_nil]; omega), cat_eq]
      refine (hk _ (by rw [List.length_append, List.length_singleton]; omega)).trans ?_
      rw [List.append_assoc]
      unfold entP
      rw [List.filter_cons, if_pos (by simpa using hx)]; rfl
    · rw [if_neg hx]
      refine (hk _ (by omega)).trans ?_
      unfold entP
      rw [List.filter_cons, if_neg (by simpa using hx)]
  · rintro t ht k
    simp only
    rw [stepK_ifB, stepK_map, ifB_ltI, lenI_eq, if_neg (by omega)]
    simp [entP]
theorem dropTail3 (w l : List Pt) (n : Int) (k : Nat) (hl : l = w.drop k) (hk : k ≤ w.length) (hw : w.length ≤ 1000) (hp : ∀ p ∈ w.take k, p.1 < n) :
    ifB (gtI (lenI l) (lenI w)) (some false) (ifB (in1 w (wsub IntKind.i64 (lenI w) (lenI l))) (ifB (inN w (addN 0 (natI (wsub IntKind.i64 (lenI w) (lenI l)))) (subNI (lenN w) (wsub IntKind.i64 (lenI w) (lenI l)))) (bindO (F_equalP l (subN w (addN 0 (natI (wsub IntKind.i64 (lenI w) (lenI l)))) (subNI (lenN w) (wsub IntKind.i64 (lenI w) (lenI l))))) fun (y_8 : Bool) => ifB (notB y_8) (some false)
      (ifB (in1 w (wsub IntKind.i64 (lenI w) (lenI l))) (loopN maxR (fun (x : Int) => ifB (ltI x (lenI (takeI w (wsub IntKind.i64 (lenI w) (lenI l))))) (bindO (atI (takeI w (wsub IntKind.i64 (lenI w) (lenI l))) x)
        fun (y : Int × Int) => ifB (geI (Prod.fst y) n) (mapO Sum.inr (some false)) (some (Sum.inl (wadd IntKind.i64 x 1)))) (mapO Sum.inr (some true))) 0) none)) none) none) = some true := by
  have hll : l.length = w.length - k := by rw [hl, List.length_drop]
  have hs : wsub .i64 (lenI w) (lenI l) = (k : Int) := by rw [lenI_eq, lenI_eq, wsub_in ⟨by omega, by omega⟩]; omega
  have e1 : addN 0 (natI (k : Int)) = k := by simp [addN, natI]
  have e2 : subNI (lenN w) (k : Int) = w.length - k := by simp [subNI, lenN]
  have e3 : subN w k (w.length - k) = w.drop k := by unfold subN; rw [List.take_of_length_le (by simp)]
  rw [hs, e1, e2, e3, ifB_gtI, lenI_eq, lenI_eq, if_neg (by omega), ifB_in1, if_pos ⟨by omega, by omega⟩, ifB_inN, if_pos (by omega), takeI_eq, Int.toNat_natCast, equalP_eq (by omega), bindO_some, ifB_not, ifB_dec, if_pos hl, ifB_in1, if_pos ⟨by omega, by omega⟩]
  refine loop_range (w.take k) (fun j (_ : Unit) => (j : Int)) (G := fun _ _ => some true) (P := fun _ _ => True) ?_ ?_ (s0 := ()) trivial (by rw [List.length_take]; omega)
  · rintro j _ hj _ k2 hk2
    have hat := atI_nat hj
    have := hp _ (getD_mem hj)
    have hjl : j < 1000 := by rw [List.length_take] at hj; omega
    rw [stepK_ifB, stepK_map, ifB_ltI, lenI_eq, if_pos (by omega), hat, stepK_bind, bindO_some, stepK_ifB, ifB_geI, if_neg (by omega), stepK_inl, wadd_nat (by omega)]
    exact hk2 () trivial
  · rintro _ _ k2
    rw [stepK_ifB, stepK_map, ifB_ltI, lenI_eq, if_neg (by omega)]
theorem storePoints_eq (l : List Rc) (j : Int) (hl : l.length < 4611686018427387904) (he : ∀ r ∈ l, r.2.2.2.length < 4611686018427387904) : F_rainbooklaw_StorePoints l j = some true := by
  unfold F_rainbooklaw_StorePoints
  rw [at_eq _ _ (by omega) (by omega), bindO_some]
  have j0 := Int.emod_nonneg j (show (4 : Int) ≠ 0 by omega)
  have j1 := Int.emod_lt_of_pos j (show (0 : Int) < 4 by omega)
  generalize j % 4 = j at *
  simp only [replay_eq l hl he, stored_eq, bindO_some, ifB_not, ifB_t]
  rw [ifB_neI]
  by_cases h0 : (replayR l).2 = 0
  · obtain ⟨h60, hc, hrec⟩ := replayR_len h0
    have hE : ∀ r ∈ l, r.2.2.2.length ≤ 10 := fun r hr => by
      obtain ⟨k1, k2, k3, k4⟩ := chkRec_kind (hrec r hr)
      by_cases c1 : r.1 = 1
      · exact (k3 c1).2.2.1
      · rw [(k4 c1).1]; simp
    have hz := allS_of hc j0 j1
    obtain ⟨k, t1, t2, t3⟩ := store_points h0 j0 j1
    have hal := allP_len j l hE
    rw [if_pos h0, allS_eq _ _ (replayR_okS l), bindO_some, ifB_neI, if_pos hz]
    refine loop_range l (fun i (t : Int × List Pt) => (t.1, (i : Int), t.2)) (G := fun _ _ => some true) (P := fun i t => t.1 = leastF 0 (l.take i) ∧ t.2 = allP j (l.take i)) ?_ ?_ (s0 := (0, [])) ⟨rfl, rfl⟩ (by omega)
    · rintro i ⟨m, t⟩ hi ⟨hm, ht⟩ k2 hk2
      have hat := atI_nat hi
      have hEr := hE _ (getD_mem hi)
      have hta := allP_take j hi
      have hlt := leastF_take hi
      have htl : t.length ≤ 600 := by
        simp only at ht
        rw [ht]
        have := allP_len j (l.take i) fun r hr => hE r (List.mem_of_mem_take hr)
        rw [List.length_take] at this; omega
      generalize l.getD i default = r at *
      simp only at hm ht
      simp only
      rw [stepK_ifB, stepK_map, ifB_ltI, lenI_eq, if_pos (by omega), hat, stepK_bind, bindO_some, stepK_ifB, ifB_eqI]
      by_cases c4 : r.1 = 4
      · rw [if_pos c4]
        refine (congrArg (fun z => stepK z k2) (entLoop r.2.2.2 j t (by omega) hEr _)).trans ?_
        rw [if_pos c4] at hlt
        simp only [stepK_inl]
        rw [wadd_nat (by omega)]
        exact hk2 (max m r.2.2.1, t ++ entP j r.2.2.2) ⟨by rw [hlt, hm], by rw [hta, ht]⟩
      · rw [if_neg c4]
        refine (congrArg (fun z => stepK z k2) (entLoop r.2.2.2 j t (by omega) hEr _)).trans ?_
        rw [if_neg c4] at hlt
        simp only [stepK_inl]
        rw [wadd_nat (by omega)]
        exact hk2 (m, t ++ entP j r.2.2.2) ⟨by rw [hlt, hm], by rw [hta, ht]⟩
    · rintro ⟨m, t⟩ ⟨hm, ht⟩ k2
      simp only at hm ht
      rw [List.take_length] at hm ht
      rw [← ht] at t1 t2 t3 hal
      rw [← hm] at t3
      simp only
      rw [stepK_ifB, stepK_map, ifB_ltI, lenI_eq, if_neg (by omega)]
      have h9 := dropTail3 t _ m k t1 t2 (by omega) t3
      simp only [ifB_not] at h9
      exact h9
  · rw [if_neg h0]
end Go.Proofs.Y
