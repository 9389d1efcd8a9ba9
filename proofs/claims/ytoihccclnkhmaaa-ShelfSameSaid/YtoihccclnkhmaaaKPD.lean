/-
  What is proved, part by part: what rainbooklaw.ShelfSame comes to. what rainbooklaw.ShelfAll comes to. what slices.Grow[[]api.Entry,api.Entry] comes to. what slices.Concat[[]api.Entry,api.Entry] comes to. what rainbooklaw.ShelfLast comes to. ShelfSays, ShelfSame, ShelfAll, ShelfLast: what the laws' bodies come to is true. Conditions: none.
-/
import Derived.Test.YtoihccclnkhmaaaKPA
import Derived.Test.YtoihccclnkhmaaaKPB
import Derived.Test.YtoihccclnkhmaaaKPC
set_option linter.unusedVariables false
set_option linter.unusedSimpArgs false
set_option linter.unnecessarySimpa false
set_option maxRecDepth 4000
namespace Go.Proofs.Y
open Go.Rb Go.Kx
noncomputable def C_rainbooklaw_ShelfSame : Code := bodyOf Try.f19
noncomputable def G_rainbooklaw_ShelfSame : FuncId → Option GS := tabG [(30, R_rainbooklaw_at), (69, R_shelf_All), (74, R_rainbooklaw_shelved), (71, R_shelf_Seal), (50, R_equalP), (72, R_shelf_Merge), (73, R_shelf_Drop)]
theorem g_rainbooklaw_ShelfSame : ΓOK Try.prog G_rainbooklaw_ShelfSame := ΓOK_cons (R_rainbooklaw_at_ok) (ΓOK_cons (R_shelf_All_ok) (ΓOK_cons (R_rainbooklaw_shelved_ok) (ΓOK_cons (R_shelf_Seal_ok) (ΓOK_cons (R_equalP_ok) (ΓOK_cons (R_shelf_Merge_ok) (ΓOK_cons (R_shelf_Drop_ok) (ΓOK_nil)))))))
def H_rainbooklaw_ShelfSame : HT := ⟨tabL [(22, .it [] (dyn [.t 127 (.int .i64)]))], tabH []⟩
abbrev is_rainbooklaw_ShelfSame : List IT := [.v (.one (.sl 78 (.cons (.sl 58 (.cons (.int .i64) (.cons (.int .i64) (.cons (.int .i64) (.one (.sl 4 (.one .bool))))))) (.one (.sl 34 (.cons (.int .i64) (.one (.int .i64)))))))) true, .v (.one (.int .i64)) false, .v (.one (.int .i64)) false, .v (.one (.int .i64)) false]
abbrev os_rainbooklaw_ShelfSame : List OT := [⟨.one .bool, false, []⟩]
set_option maxRecDepth 100000
noncomputable def F_rainbooklaw_ShelfSame : List (List (Int × Int × Int × List Bool) × List (Int × Int)) → Int → Int → Int → Option Bool := fun (a : List (List (Int × Int × Int × List Bool) × List (Int × Int))) (b c d : Int) => bindO (F_rainbooklaw_at d 4) fun (y : Int) => bindO (F_shelf_All a y) fun (y_1 : List (Int × Int) × Int) => bindO F_rainbooklaw_shelved fun (y_2 : Bool) => ifB (notB y_2) (bindO F_rainbooklaw_shelved fun (y : Bool) => some y) (ifB (neI (Prod.snd y_1) 0) (bindO F_rainbooklaw_shelved fun (y : Bool) => some y) (bindO (F_shelf_Seal a b c) fun (y_3 : List (List (Int × Int × Int × List Bool) × List (Int × Int)) × Int) => ifB (eqI (Prod.snd y_3) 0) (bindO (F_shelf_All (Prod.fst y_3) y) fun (y_4 : List (Int × Int) × Int) => ifB (neI (Prod.snd y_4) 0) (some false) (bindO (F_equalP (Prod.fst y_4) (Prod.fst y_1)) fun (y_5 : Bool) => ifB (notB y_5) (some false) (bindO (F_shelf_Merge a b c) fun (y_6 : List (List (Int × Int × Int × List Bool) × List (Int × Int)) × Int) => ifB (eqI (Prod.snd y_6) 0) (bindO (F_shelf_All (Prod.fst y_6) y) fun (y_7 : List (Int × Int) × Int) => ifB (neI (Prod.snd y_7) 0) (some false) (bindO (F_equalP (Prod.fst y_7) (Prod.fst y_1)) fun (y_8 : Bool) => ifB (notB y_8) (some false) (bindO (F_shelf_Drop a c) fun (y_9 : List (List (Int × Int × Int × List Bool) × List (Int × Int)) × Int) => ifB (neI (Prod.snd y_9) 0) (some true) (bindO (F_shelf_All (Prod.fst y_9) y) fun (y : List (Int × Int) × Int) => ifB (neI (Prod.snd y) 0) (some false) (ifB (gtI (lenI (Prod.fst y)) (lenI (Prod.fst y_1))) (some false) (ifB (in1 (Prod.fst y_1) (wsub IntKind.i64 (lenI (Prod.fst y_1)) (lenI (Prod.fst y)))) (bindO (F_equalP (Prod.fst y) (dropI (Prod.fst y_1) (wsub IntKind.i64 (lenI (Prod.fst y_1)) (lenI (Prod.fst y))))) fun (y_10 : Bool) => ifB (notB y_10) (some false) (ifB (in1 (Prod.fst y_1) (wsub IntKind.i64 (lenI (Prod.fst y_1)) (lenI (Prod.fst y)))) (loopN maxR (fun (x : Int) => ifB (ltI x (lenI (takeI (Prod.fst y_1) (wsub IntKind.i64 (lenI (Prod.fst y_1)) (lenI (Prod.fst y)))))) (bindO (atI (takeI (Prod.fst y_1) (wsub IntKind.i64 (lenI (Prod.fst y_1)) (lenI (Prod.fst y)))) x) fun (y : Int × Int) => ifB (geI (Prod.fst y) c) (mapO Sum.inr (some false)) (some (Sum.inl (wadd IntKind.i64 x 1)))) (mapO Sum.inr (some true))) 0) none)) none)))))) (bindO (F_shelf_Drop a c) fun (y_7 : List (List (Int × Int × Int × List Bool) × List (Int × Int)) × Int) => ifB (neI (Prod.snd y_7) 0) (some true) (bindO (F_shelf_All (Prod.fst y_7) y) fun (y : List (Int × Int) × Int) => ifB (neI (Prod.snd y) 0) (some false) (ifB (gtI (lenI (Prod.fst y)) (lenI (Prod.fst y_1))) (some false) (ifB (in1 (Prod.fst y_1) (wsub IntKind.i64 (lenI (Prod.fst y_1)) (lenI (Prod.fst y)))) (bindO (F_equalP (Prod.fst y) (dropI (Prod.fst y_1) (wsub IntKind.i64 (lenI (Prod.fst y_1)) (lenI (Prod.fst y))))) fun (y_8 : Bool) => ifB (notB y_8) (some false) (ifB (in1 (Prod.fst y_1) (wsub IntKind.i64 (lenI (Prod.fst y_1)) (lenI (Prod.fst y)))) (loopN maxR (fun (x : Int) => ifB (ltI x (lenI (takeI (Prod.fst y_1) (wsub IntKind.i64 (lenI (Prod.fst y_1)) (lenI (Prod.fst y)))))) (bindO (atI (takeI (Prod.fst y_1) (wsub IntKind.i64 (lenI (Prod.fst y_1)) (lenI (Prod.fst y)))) x) fun (y : Int × Int) => ifB (geI (Prod.fst y) c) (mapO Sum.inr (some false)) (some (Sum.inl (wadd IntKind.i64 x 1)))) (mapO Sum.inr (some true))) 0) none)) none))))))) (bindO (F_shelf_Merge a b c) fun (y_4 : List (List (Int × Int × Int × List Bool) × List (Int × Int)) × Int) => ifB (eqI (Prod.snd y_4) 0) (bindO (F_shelf_All (Prod.fst y_4) y) fun (y_5 : List (Int × Int) × Int) => ifB (neI (Prod.snd y_5) 0) (some false) (bindO (F_equalP (Prod.fst y_5) (Prod.fst y_1)) fun (y_6 : Bool) => ifB (notB y_6) (some false) (bindO (F_shelf_Drop a c) fun (y_7 : List (List (Int × Int × Int × List Bool) × List (Int × Int)) × Int) => ifB (neI (Prod.snd y_7) 0) (some true) (bindO (F_shelf_All (Prod.fst y_7) y) fun (y : List (Int × Int) × Int) => ifB (neI (Prod.snd y) 0) (some false) (ifB (gtI (lenI (Prod.fst y)) (lenI (Prod.fst y_1))) (some false) (ifB (in1 (Prod.fst y_1) (wsub IntKind.i64 (lenI (Prod.fst y_1)) (lenI (Prod.fst y)))) (bindO (F_equalP (Prod.fst y) (dropI (Prod.fst y_1) (wsub IntKind.i64 (lenI (Prod.fst y_1)) (lenI (Prod.fst y))))) fun (y_8 : Bool) => ifB (notB y_8) (some false) (ifB (in1 (Prod.fst y_1) (wsub IntKind.i64 (lenI (Prod.fst y_1)) (lenI (Prod.fst y)))) (loopN maxR (fun (x : Int) => ifB (ltI x (lenI (takeI (Prod.fst y_1) (wsub IntKind.i64 (lenI (Prod.fst y_1)) (lenI (Prod.fst y)))))) (bindO (atI (takeI (Prod.fst y_1) (wsub IntKind.i64 (lenI (Prod.fst y_1)) (lenI (Prod.fst y)))) x) fun (y : Int × Int) => ifB (geI (Prod.fst y) c) (mapO Sum.inr (some false)) (some (Sum.inl (wadd IntKind.i64 x 1)))) (mapO Sum.inr (some true))) 0) none)) none)))))) (bindO (F_shelf_Drop a c) fun (y_5 : List (List (Int × Int × Int × List Bool) × List (Int × Int)) × Int) => ifB (neI (Prod.snd y_5) 0) (some true) (bindO (F_shelf_All (Prod.fst y_5) y) fun (y : List (Int × Int) × Int) => ifB (neI (Prod.snd y) 0) (some false) (ifB (gtI (lenI (Prod.fst y)) (lenI (Prod.fst y_1))) (some false) (ifB (in1 (Prod.fst y_1) (wsub IntKind.i64 (lenI (Prod.fst y_1)) (lenI (Prod.fst y)))) (ifB (inN (Prod.fst y_1) (addN 0 (natI (wsub IntKind.i64 (lenI (Prod.fst y_1)) (lenI (Prod.fst y))))) (subNI (lenN (Prod.fst y_1)) (wsub IntKind.i64 (lenI (Prod.fst y_1)) (lenI (Prod.fst y))))) (bindO (F_equalP (Prod.fst y) (subN (Prod.fst y_1) (addN 0 (natI (wsub IntKind.i64 (lenI (Prod.fst y_1)) (lenI (Prod.fst y))))) (subNI (lenN (Prod.fst y_1)) (wsub IntKind.i64 (lenI (Prod.fst y_1)) (lenI (Prod.fst y)))))) fun (y_6 : Bool) => ifB (notB y_6) (some false) (ifB (in1 (Prod.fst y_1) (wsub IntKind.i64 (lenI (Prod.fst y_1)) (lenI (Prod.fst y)))) (loopN maxR (fun (x : Int) => ifB (ltI x (lenI (takeI (Prod.fst y_1) (wsub IntKind.i64 (lenI (Prod.fst y_1)) (lenI (Prod.fst y)))))) (bindO (atI (takeI (Prod.fst y_1) (wsub IntKind.i64 (lenI (Prod.fst y_1)) (lenI (Prod.fst y)))) x) fun (y : Int × Int) => ifB (geI (Prod.fst y) c) (mapO Sum.inr (some false)) (some (Sum.inl (wadd IntKind.i64 x 1)))) (mapO Sum.inr (some true))) 0) none)) none) none)))))))
theorem F_rainbooklaw_ShelfSame_eq (x : PI is_rainbooklaw_ShelfSame) : F_rainbooklaw_ShelfSame (x.1) (x.2.1) (x.2.2.1) (x.2.2.2) = fnE T G_rainbooklaw_ShelfSame H_rainbooklaw_ShelfSame C_rainbooklaw_ShelfSame (resOf Try.f19) is_rainbooklaw_ShelfSame os_rainbooklaw_ShelfSame x := by kernel_rfl
noncomputable abbrev R_rainbooklaw_ShelfSame : GS := mkSpec false is_rainbooklaw_ShelfSame os_rainbooklaw_ShelfSame fun x => F_rainbooklaw_ShelfSame (x.1) (x.2.1) (x.2.2.1) (x.2.2.2)
theorem R_rainbooklaw_ShelfSame_ok : GSOK Try.prog 19 R_rainbooklaw_ShelfSame := spec_ok tok g_rainbooklaw_ShelfSame fmo (Ht := H_rainbooklaw_ShelfSame) (fn := Try.f19) (Try.func19) (c := C_rainbooklaw_ShelfSame) (by kernel_rfl) (by kernel_rfl) (by kernel_rfl) (by decide +kernel) (by decide) F_rainbooklaw_ShelfSame_eq
noncomputable abbrev B_rainbooklaw_ShelfSame : GS := mkSpec true is_rainbooklaw_ShelfSame os_rainbooklaw_ShelfSame fun x => F_rainbooklaw_ShelfSame (x.1) (x.2.1) (x.2.2.1) (x.2.2.2)
theorem B_rainbooklaw_ShelfSame_ok : GSOK Try.prog 19 B_rainbooklaw_ShelfSame := spec_ok tok g_rainbooklaw_ShelfSame fmo (Ht := H_rainbooklaw_ShelfSame) (fn := Try.f19) (Try.func19) (c := C_rainbooklaw_ShelfSame) (by kernel_rfl) (by kernel_rfl) (by kernel_rfl) (by decide +kernel) (by decide) F_rainbooklaw_ShelfSame_eq
end Go.Proofs.Y
namespace Go.Proofs.Y
open Go.Rb Go.Kx
noncomputable def C_rainbooklaw_ShelfAll : Code := bodyOf Try.f20
noncomputable def G_rainbooklaw_ShelfAll : FuncId → Option GS := tabG [(30, R_rainbooklaw_at), (69, R_shelf_All), (74, R_rainbooklaw_shelved), (70, R_shelf_Put), (50, R_equalP)]
theorem g_rainbooklaw_ShelfAll : ΓOK Try.prog G_rainbooklaw_ShelfAll := ΓOK_cons (R_rainbooklaw_at_ok) (ΓOK_cons (R_shelf_All_ok) (ΓOK_cons (R_rainbooklaw_shelved_ok) (ΓOK_cons (R_shelf_Put_ok) (ΓOK_cons (R_equalP_ok) (ΓOK_nil)))))
def H_rainbooklaw_ShelfAll : HT := ⟨tabL [(10, .it [] (dyn [.a 7 34 (.cons (.int .i64) (.one (.int .i64))), .t 44 (.int .i64)]))], tabH []⟩
abbrev is_rainbooklaw_ShelfAll : List IT := [.v (.one (.sl 78 (.cons (.sl 58 (.cons (.int .i64) (.cons (.int .i64) (.cons (.int .i64) (.one (.sl 4 (.one .bool))))))) (.one (.sl 34 (.cons (.int .i64) (.one (.int .i64)))))))) true, .v (.one (.sl 97 (.cons (.int .i64) (.cons (.int .i64) (.one (.int .i64)))))) false, .v (.one (.int .i64)) false]
abbrev os_rainbooklaw_ShelfAll : List OT := [⟨.one .bool, false, []⟩]
set_option maxRecDepth 100000
noncomputable def F_rainbooklaw_ShelfAll : List (List (Int × Int × Int × List Bool) × List (Int × Int)) → List (Int × Int × Int) → Int → Option Bool := fun (a : List (List (Int × Int × Int × List Bool) × List (Int × Int))) (b : List (Int × Int × Int)) (c : Int) => bindO (F_rainbooklaw_at c 4) fun (y : Int) => bindO (F_shelf_All a y) fun (y_1 : List (Int × Int) × Int) => bindO F_rainbooklaw_shelved fun (y_2 : Bool) => ifB (notB y_2) (bindO F_rainbooklaw_shelved fun (y : Bool) => some y) (ifB (neI (Prod.snd y_1) 0) (bindO F_rainbooklaw_shelved fun (y : Bool) => some y) (bindO (F_shelf_Put a b) fun (y_3 : List (List (Int × Int × Int × List Bool) × List (Int × Int)) × Int) => ifB (neI (Prod.snd y_3) 0) (some true) (bindO (F_shelf_All (Prod.fst y_3) y) fun (y_4 : List (Int × Int) × Int) => loopN maxR (fun (x : Int × List (Int × Int)) => ifB (ltI (Prod.fst x) (lenI b)) (bindO (atI b (Prod.fst x)) fun (y_5 : Int × Int × Int) => ifB (eqI (Prod.fst y_5) y) (ifB (roomA 16 (Prod.snd x) [(Prod.fst (Prod.snd y_5), Prod.snd (Prod.snd y_5))]) (some (Sum.inl (wadd IntKind.i64 (Prod.fst x) 1, cat (Prod.snd x) [(Prod.fst (Prod.snd y_5), Prod.snd (Prod.snd y_5))]))) none) (some (Sum.inl (wadd IntKind.i64 (Prod.fst x) 1, Prod.snd x)))) (mapO Sum.inr (ifB (eqI (Prod.snd y_4) 0) (bindO (F_equalP (Prod.fst y_4) (Prod.snd x)) fun (y : Bool) => some y) (some false)))) (0, Prod.fst y_1))))
theorem F_rainbooklaw_ShelfAll_eq (x : PI is_rainbooklaw_ShelfAll) : F_rainbooklaw_ShelfAll (x.1) (x.2.1) (x.2.2) = fnE T G_rainbooklaw_ShelfAll H_rainbooklaw_ShelfAll C_rainbooklaw_ShelfAll (resOf Try.f20) is_rainbooklaw_ShelfAll os_rainbooklaw_ShelfAll x := by kernel_rfl
noncomputable abbrev R_rainbooklaw_ShelfAll : GS := mkSpec false is_rainbooklaw_ShelfAll os_rainbooklaw_ShelfAll fun x => F_rainbooklaw_ShelfAll (x.1) (x.2.1) (x.2.2)
theorem R_rainbooklaw_ShelfAll_ok : GSOK Try.prog 20 R_rainbooklaw_ShelfAll := spec_ok tok g_rainbooklaw_ShelfAll fmo (Ht := H_rainbooklaw_ShelfAll) (fn := Try.f20) (Try.func20) (c := C_rainbooklaw_ShelfAll) (by kernel_rfl) (by kernel_rfl) (by kernel_rfl) (by decide +kernel) (by decide) F_rainbooklaw_ShelfAll_eq
noncomputable abbrev B_rainbooklaw_ShelfAll : GS := mkSpec true is_rainbooklaw_ShelfAll os_rainbooklaw_ShelfAll fun x => F_rainbooklaw_ShelfAll (x.1) (x.2.1) (x.2.2)
theorem B_rainbooklaw_ShelfAll_ok : GSOK Try.prog 20 B_rainbooklaw_ShelfAll := spec_ok tok g_rainbooklaw_ShelfAll fmo (Ht := H_rainbooklaw_ShelfAll) (fn := Try.f20) (Try.func20) (c := C_rainbooklaw_ShelfAll) (by kernel_rfl) (by kernel_rfl) (by kernel_rfl) (by decide +kernel) (by decide) F_rainbooklaw_ShelfAll_eq
end Go.Proofs.Y
namespace Go.Proofs.Y
open Go.Rb Go.Kx
noncomputable def C_growE : Code := bodyOf Try.f116
noncomputable def G_growE : FuncId → Option GS := tabG []
theorem g_growE : ΓOK Try.prog G_growE := ΓOK_nil
def H_growE : HT := ⟨tabL [], tabH []⟩
noncomputable def I_growE : GS := inl T G_growE H_growE C_growE (resOf Try.f116) (Try.f116.ntmps)
theorem I_growE_ok : GSOK Try.prog 116 I_growE := inl_ok tok g_growE fmo (Ht := H_growE) (fn := Try.f116) (Try.func116) (c := C_growE) (by kernel_rfl) (by kernel_rfl) (by kernel_rfl)
end Go.Proofs.Y
namespace Go.Proofs.Y
open Go.Rb Go.Kx
noncomputable def C_concatE : Code := bodyOf Try.f84
noncomputable def G_concatE : FuncId → Option GS := tabG [(116, I_growE)]
theorem g_concatE : ΓOK Try.prog G_concatE := ΓOK_cons (I_growE_ok) (ΓOK_nil)
def H_concatE : HT := ⟨tabL [(3, .it [] (dyn [.t 3 (.int .i64), .t 11 (.int .i64)])), (11, .it [] (dyn [.a 6 97 (.cons (.int .i64) (.cons (.int .i64) (.one (.int .i64)))), .t 27 (.int .i64)]))], tabH [(10, [.trim 6])]⟩
abbrev is_concatE : List IT := [.v (.one (.sl 86 (.one (.sl 97 (.cons (.int .i64) (.cons (.int .i64) (.one (.int .i64)))))))) false]
abbrev os_concatE : List OT := [⟨.one (.sl 97 (.cons (.int .i64) (.cons (.int .i64) (.one (.int .i64))))), false, []⟩]
set_option maxRecDepth 100000
noncomputable def F_concatE : List (List (Int × Int × Int)) → Option (List (Int × Int × Int)) := fun (a : List (List (Int × Int × Int))) => loopN maxR (fun (x : Int × Int) => ifB (ltI (Prod.snd x) (lenI a)) (bindO (atI a (Prod.snd x)) fun (y : List (Int × Int × Int)) => ifB (ltI (wadd IntKind.i64 (Prod.fst x) (lenI y)) 0) none (some (Sum.inl (wadd IntKind.i64 (Prod.fst x) (lenI y), wadd IntKind.i64 (Prod.snd x) 1)))) (mapO Sum.inr (ifB (ltI (Prod.fst x) 0) none (ifB (gtI (wsub IntKind.i64 (Prod.fst x) (wsub IntKind.i64 0 0)) 0) (ifB (roomZ 24 (wsub IntKind.i64 (Prod.fst x) (wsub IntKind.i64 0 0))) (ifB (in1 (repI (wsub IntKind.i64 (Prod.fst x) (wsub IntKind.i64 0 0)) (0, 0, 0)) 0) (ifB (inN (repI (wsub IntKind.i64 (Prod.fst x) (wsub IntKind.i64 0 0)) (0, 0, 0)) 0 (natI 0)) (loopN maxR (fun (x : Int × List (Int × Int × Int)) => ifB (ltI (Prod.fst x) (lenI a)) (bindO (atI a (Prod.fst x)) fun (y : List (Int × Int × Int)) => ifB (roomA 24 (Prod.snd x) y) (some (Sum.inl (wadd IntKind.i64 (Prod.fst x) 1, cat (Prod.snd x) y))) none) (mapO Sum.inr (some (Prod.snd x)))) (0, subN (repI (wsub IntKind.i64 (Prod.fst x) (wsub IntKind.i64 0 0)) (0, 0, 0)) 0 (natI 0))) none) none) none) (loopN maxR (fun (x : Int × List (Int × Int × Int)) => ifB (ltI (Prod.fst x) (lenI a)) (bindO (atI a (Prod.fst x)) fun (y : List (Int × Int × Int)) => ifB (roomA 24 (Prod.snd x) y) (some (Sum.inl (wadd IntKind.i64 (Prod.fst x) 1, cat (Prod.snd x) y))) none) (mapO Sum.inr (some (Prod.snd x)))) (0, [])))))) (0, 0)
theorem F_concatE_eq (x : PI is_concatE) : F_concatE x = fnE T G_concatE H_concatE C_concatE (resOf Try.f84) is_concatE os_concatE x := by kernel_rfl
noncomputable abbrev R_concatE : GS := mkSpec false is_concatE os_concatE fun x => F_concatE x
theorem R_concatE_ok : GSOK Try.prog 84 R_concatE := spec_ok tok g_concatE fmo (Ht := H_concatE) (fn := Try.f84) (Try.func84) (c := C_concatE) (by kernel_rfl) (by kernel_rfl) (by kernel_rfl) (by decide +kernel) (by decide) F_concatE_eq
noncomputable abbrev B_concatE : GS := mkSpec true is_concatE os_concatE fun x => F_concatE x
theorem B_concatE_ok : GSOK Try.prog 84 B_concatE := spec_ok tok g_concatE fmo (Ht := H_concatE) (fn := Try.f84) (Try.func84) (c := C_concatE) (by kernel_rfl) (by kernel_rfl) (by kernel_rfl) (by decide +kernel) (by decide) F_concatE_eq
end Go.Proofs.Y
namespace Go.Proofs.Y
open Go.Rb Go.Kx
noncomputable def C_rainbooklaw_ShelfLast : Code := bodyOf Try.f21
noncomputable def G_rainbooklaw_ShelfLast : FuncId → Option GS := tabG [(30, R_rainbooklaw_at), (62, R_query_Last), (74, R_rainbooklaw_shelved), (70, R_shelf_Put), (84, R_concatE)]
theorem g_rainbooklaw_ShelfLast : ΓOK Try.prog G_rainbooklaw_ShelfLast := ΓOK_cons (R_rainbooklaw_at_ok) (ΓOK_cons (R_query_Last_ok) (ΓOK_cons (R_rainbooklaw_shelved_ok) (ΓOK_cons (R_shelf_Put_ok) (ΓOK_cons (R_concatE_ok) (ΓOK_nil)))))
def H_rainbooklaw_ShelfLast : HT := ⟨tabL [], tabH []⟩
abbrev is_rainbooklaw_ShelfLast : List IT := [.v (.one (.sl 78 (.cons (.sl 58 (.cons (.int .i64) (.cons (.int .i64) (.cons (.int .i64) (.one (.sl 4 (.one .bool))))))) (.one (.sl 34 (.cons (.int .i64) (.one (.int .i64)))))))) true, .v (.one (.int .i64)) false, .v (.one (.int .i64)) false, .v (.one (.int .i64)) false, .v (.one (.sl 97 (.cons (.int .i64) (.cons (.int .i64) (.one (.int .i64)))))) false]
abbrev os_rainbooklaw_ShelfLast : List OT := [⟨.one .bool, false, []⟩]
set_option maxRecDepth 100000
noncomputable def F_rainbooklaw_ShelfLast : List (List (Int × Int × Int × List Bool) × List (Int × Int)) → Int → Int → Int → List (Int × Int × Int) → Option Bool := fun (a : List (List (Int × Int × Int × List Bool) × List (Int × Int))) (b c d : Int) (e : List (Int × Int × Int)) => bindO (F_rainbooklaw_at b 4) fun (y : Int) => bindO (F_query_Last a y) fun (y_1 : (Int × Int) × Bool × Int) => bindO F_rainbooklaw_shelved fun (y_2 : Bool) => ifB (notB y_2) (bindO F_rainbooklaw_shelved fun (y : Bool) => some y) (ifB (neI (Prod.snd (Prod.snd y_1)) 0) (bindO F_rainbooklaw_shelved fun (y : Bool) => some y) (bindO (F_shelf_Put a [(y, c, d)]) fun (y_3 : List (List (Int × Int × Int × List Bool) × List (Int × Int)) × Int) => ifB (Prod.fst (Prod.snd y_1)) (ifB (leI c (Prod.fst (Prod.fst y_1))) (ifB (eqI (Prod.snd y_3) 0) (some false) (ifB (neI (Prod.snd y_3) 0) (bindO (F_concatE [[(y, c, d)], e]) fun (y : List (Int × Int × Int)) => bindO (F_shelf_Put a y) fun (y : List (List (Int × Int × Int × List Bool) × List (Int × Int)) × Int) => some (neI (Prod.snd y) 0)) (bindO (F_query_Last (Prod.fst y_3) y) fun (y_4 : (Int × Int) × Bool × Int) => ifB (neI (Prod.snd (Prod.snd y_4)) 0) (some false) (ifB (notB (Prod.fst (Prod.snd y_4))) (some false) (ifB (notB (eqL [Prod.fst (Prod.fst y_4), Prod.snd (Prod.fst y_4)] [c, d])) (some false) (bindO (F_shelf_Put (Prod.fst y_3) [(y, c, d)]) fun (y : List (List (Int × Int × Int × List Bool) × List (Int × Int)) × Int) => ifB (eqI (Prod.snd y) 7) (some true) (some (eqI (Prod.snd y) 2)))))))) (ifB (neI (Prod.snd y_3) 0) (bindO (F_concatE [[(y, c, d)], e]) fun (y : List (Int × Int × Int)) => bindO (F_shelf_Put a y) fun (y : List (List (Int × Int × Int × List Bool) × List (Int × Int)) × Int) => some (neI (Prod.snd y) 0)) (bindO (F_query_Last (Prod.fst y_3) y) fun (y_4 : (Int × Int) × Bool × Int) => ifB (neI (Prod.snd (Prod.snd y_4)) 0) (some false) (ifB (notB (Prod.fst (Prod.snd y_4))) (some false) (ifB (notB (eqL [Prod.fst (Prod.fst y_4), Prod.snd (Prod.fst y_4)] [c, d])) (some false) (bindO (F_shelf_Put (Prod.fst y_3) [(y, c, d)]) fun (y : List (List (Int × Int × Int × List Bool) × List (Int × Int)) × Int) => ifB (eqI (Prod.snd y) 7) (some true) (some (eqI (Prod.snd y) 2)))))))) (ifB (neI (Prod.snd y_3) 0) (bindO (F_concatE [[(y, c, d)], e]) fun (y : List (Int × Int × Int)) => bindO (F_shelf_Put a y) fun (y : List (List (Int × Int × Int × List Bool) × List (Int × Int)) × Int) => some (neI (Prod.snd y) 0)) (bindO (F_query_Last (Prod.fst y_3) y) fun (y_4 : (Int × Int) × Bool × Int) => ifB (neI (Prod.snd (Prod.snd y_4)) 0) (some false) (ifB (notB (Prod.fst (Prod.snd y_4))) (some false) (ifB (notB (eqL [Prod.fst (Prod.fst y_4), Prod.snd (Prod.fst y_4)] [c, d])) (some false) (bindO (F_shelf_Put (Prod.fst y_3) [(y, c, d)]) fun (y : List (List (Int × Int × Int × List Bool) × List (Int × Int)) × Int) => ifB (eqI (Prod.snd y) 7) (some true) (some (eqI (Prod.snd y) 2)))))))))
theorem F_rainbooklaw_ShelfLast_eq (x : PI is_rainbooklaw_ShelfLast) : F_rainbooklaw_ShelfLast (x.1) (x.2.1) (x.2.2.1) (x.2.2.2.1) (x.2.2.2.2) = fnE T G_rainbooklaw_ShelfLast H_rainbooklaw_ShelfLast C_rainbooklaw_ShelfLast (resOf Try.f21) is_rainbooklaw_ShelfLast os_rainbooklaw_ShelfLast x := by kernel_rfl
noncomputable abbrev R_rainbooklaw_ShelfLast : GS := mkSpec false is_rainbooklaw_ShelfLast os_rainbooklaw_ShelfLast fun x => F_rainbooklaw_ShelfLast (x.1) (x.2.1) (x.2.2.1) (x.2.2.2.1) (x.2.2.2.2)
theorem R_rainbooklaw_ShelfLast_ok : GSOK Try.prog 21 R_rainbooklaw_ShelfLast := spec_ok tok g_rainbooklaw_ShelfLast fmo (Ht := H_rainbooklaw_ShelfLast) (fn := Try.f21) (Try.func21) (c := C_rainbooklaw_ShelfLast) (by kernel_rfl) (by kernel_rfl) (by kernel_rfl) (by decide +kernel) (by decide) F_rainbooklaw_ShelfLast_eq
noncomputable abbrev B_rainbooklaw_ShelfLast : GS := mkSpec true is_rainbooklaw_ShelfLast os_rainbooklaw_ShelfLast fun x => F_rainbooklaw_ShelfLast (x.1) (x.2.1) (x.2.2.1) (x.2.2.2.1) (x.2.2.2.2)
theorem B_rainbooklaw_ShelfLast_ok : GSOK Try.prog 21 B_rainbooklaw_ShelfLast := spec_ok tok g_rainbooklaw_ShelfLast fmo (Ht := H_rainbooklaw_ShelfLast) (fn := Try.f21) (Try.func21) (c := C_rainbooklaw_ShelfLast) (by kernel_rfl) (by kernel_rfl) (by kernel_rfl) (by decide +kernel) (by decide) F_rainbooklaw_ShelfLast_eq
end Go.Proofs.Y
namespace Go.Proofs.Y
open Go.Rb Go.Kx
def freshS : Shf := [([], []), ([], []), ([], []), ([], [])]
theorem new_eq : F_shelf_New = some freshS := by
  unfold F_shelf_New
  rw [ifB_roomI, if_pos (by decide)]; rfl
theorem fresh_ok : chkS freshS = 0 := by decide +kernel
def sh1 : Shf := [([], []), ([], [(10, 5), (20, 5), (30, 7)]), ([], []), ([], [])]
theorem nil_ok : okS ([] : Shf) := ⟨by decide, fun r hr => by cases hr⟩
theorem shelved_eq : F_rainbooklaw_shelved = some true := by
  unfold F_rainbooklaw_shelved
  have e1 : putS freshS [(1, 10, 5), (1, 20, 5), (1, 30, 7)] = (sh1, 0) := by decide +kernel
  have c1 : chkS sh1 = 0 := by decide +kernel
  have e2 : (putS sh1 [(0, 1, 0), (1, 30, 0)]).2 = 7 := by decide +kernel
  have e3 : sealS sh1 1 2 = (smallS, 0) := by decide +kernel
  have c3 : chkS smallS = 0 := by decide +kernel
  have e4 : (sealS smallS 1 1).2 = 0 := by decide +kernel
  have c4 : chkS (sealS smallS 1 1).1 = 0 := (sealS_ok e4).2.1
  have e5 : (mergeS (sealS smallS 1 1).1 1 0).2 = 0 := by decide +kernel
  have c5 : chkS (mergeS (sealS smallS 1 1).1 1 0).1 = 0 := (mergeS_ok e5).2.1
  have e6 : (dropS (sealS smallS 1 1).1 30).2 = 0 := by decide +kernel
  have c6 : chkS (dropS (sealS smallS 1 1).1 30).1 = 0 := (dropS_ok e6).2.2.1
  have e7 : allS (dropS (sealS smallS 1 1).1 30).1 1 = ([(30, 7)], 0) := by decide +kernel
  have l4 := (chkS_zero.1 c4).1
  have l5 := (chkS_zero.1 c5).1
  have e8 : ((sealS smallS 1 1).1.getD 1 default).1.length = 2 := by decide +kernel
  have e9 : ((mergeS (sealS smallS 1 1).1 1 0).1.getD 1 default).1.length = 1 := by decide +kernel
  have a1 : ∀ {l : Shf}, l.length = 4 → atI l 1 = some (l.getD 1 default) := fun h => atI_nat (j := 1) (by omega)
  rw [new_eq, bindO_some, shelfPut_eq _ _ (okS_of fresh_ok) (by decide), bindO_some, e1, shelfPut_eq _ _ (okS_of c1) (by decide), bindO_some, seal_eq _ _ _ (okS_of c1), bindO_some, e3, seal_eq _ _ _ (okS_of c3), bindO_some, mergeS_eq _ _ _ (okS_of c4), bindO_some, drop_eq _ _ (okS_of c4), bindO_some, allS_eq _ _ (okS_of c6), bindO_some, e2, e4, e5, e6, e7, small_eq, bindO_some, shelfSame_eq _ _ (okS_of c3), bindO_some, a1 l4, bindO_some, a1 l5, bindO_some, pts_eq, bindO_some, equalP_eq (by decide), bindO_some, checkS_eq _ (okS_of c5), bindO_some, c5, lenI_eq, lenI_eq, e8, e9]
  rfl
theorem eqI_self (a : Int) : eqI a a = true := by simp [eqI]
theorem neI_self (a : Int) : neI a a = false := by simp [neI]
theorem okS_nil_or {s : Shf} {e : Int} {q : Shf × Int} (h : q = (s, e)) (hs : okS s) : okS q.1 := by rw [h]; exact hs
/-- What comes back is right. -/
theorem putS_okS (s : Shf) (l : List Ent) : okS (putS s l).1 := by
  by_cases h : (putS s l).2 = 0
  · exact okS_of (putS_ok h).2.2.1
  · have hE : ∀ (l : List Ent) (s : Shf), ¬ (putE s l).2 = 0 → (putE s l).1 = [] := by
      intro l
      induction l with
      | nil => intro s h; exact absurd rfl h
      | cons x l ih =>
        intro s h
        rw [putE] at h ⊢
        split
        · rfl
        · rename_i hx
          rw [if_neg hx] at h
          split
          · rename_i hz; rw [if_pos hz] at h; exact ih _ h
          · rfl
    have : (putS s l).1 = [] := by
      unfold putS at h ⊢
      split
      · rename_i hc
        rw [if_pos hc] at h
        split
        · rfl
        · rename_i hl; rw [if_neg hl] at h; exact hE _ _ h
      · rfl
    rw [this]; exact nil_ok
theorem onRow_nil {s : Shf} {i : Int} {q : Rowd → Rowd × Int} (h : ¬ (onRow s i q).2 = 0) : (onRow s i q).1 = [] := by
  unfold onRow at h ⊢
  split
  · rfl
  · rename_i hi
    rw [if_neg hi] at h
    split
    · rename_i hz; rw [if_pos hz] at h; exact absurd rfl h
    · rfl
theorem sealS_okS (s : Shf) (i n : Int) : okS (sealS s i n).1 := by
  by_cases h : (sealS s i n).2 = 0
  · exact okS_of (sealS_ok h).2.1
  · have : (sealS s i n).1 = [] := by
      unfold sealS at h ⊢
      split
      · rename_i hc; rw [if_pos hc] at h; exact onRow_nil h
      · rfl
    rw [this]; exact nil_ok
theorem mergeS_okS (s : Shf) (i n : Int) : okS (mergeS s i n).1 := by
  by_cases h : (mergeS s i n).2 = 0
  · exact okS_of (mergeS_ok h).2.1
  · have : (mergeS s i n).1 = [] := by
      unfold mergeS at h ⊢
      split
      · rename_i hc; rw [if_pos hc] at h; exact onRow_nil h
      · rfl
    rw [this]; exact nil_ok
theorem dropS_okS (s : Shf) (n : Int) : okS (dropS s n).1 := by
  by_cases h : (dropS s n).2 = 0
  · exact okS_of (dropS_ok h).2.2.1
  · have : (dropS s n).1 = [] := by
      unfold dropS at h ⊢
      split
      · rename_i hc
        rw [if_pos hc] at h
        split
        · rfl
        · rename_i hn; rw [if_neg hn] at h; exact absurd rfl h
      · rfl
    rw [this]; exact nil_ok
theorem shelfSays_eq (s : Shf) (l : List Ent) (i n : Int) (t : Shf) (hs : okS s) (hl : l.length < 4611686018427387904) (hn : n ≤ 9223372036854775807) : F_rainbooklaw_ShelfSays s l i n t = some true := by
  unfold F_rainbooklaw_ShelfSays
  have hf : okS freshS := okS_of fresh_ok
  simp only [allS_eq _ _ hs, shelfPut_eq _ _ hs hl, seal_eq _ _ _ hs, mergeS_eq _ _ _ hs, drop_eq _ _ hs, checkShelf_eq _ hs, checkS_eq _ hs, shelved_eq, shelfSame_eq _ _ hs, sameShelf_eq _ _ hs, new_eq, show F_rainbookref_FreshShelf = some freshS from fresh_eq, sameShelf_eq _ _ hf,
    sameShelf_eq _ _ (putS_okS s l), sameShelf_eq _ _ (sealS_okS s i n), sameShelf_eq _ _ (mergeS_okS s i n), sameShelf_eq _ _ (dropS_okS s n), bindO_some, ifB_not, ifB_t, neI_self, ifB_f, eqB, beq_self_eq_true, decide_true]
  by_cases hc : chkS s = 0
  · rw [ifB_neI, if_pos hc, putAll_eq s l hc hl, bindO_some, sealed_eq s i n hc, bindO_some, mergedRow_eq s i n hc hn, bindO_some, dropped_eq s n hc, bindO_some]
    have p1 : putS s l = if 10 < l.length then ([], 2) else putE s l := by unfold putS; rw [if_pos hc]
    have p2 : sealS s i n = onRow s i (sealR n) := by unfold sealS; rw [if_pos hc]
    have p3 : mergeS s i n = onRow s i (mergeW n) := by unfold mergeS; rw [if_pos hc]
    have p4 : dropS s n = if n < 0 ∨ 100001 < n then ([], 3) else (s.map (dropR n), 0) := by unfold dropS; rw [if_pos hc]
    rw [← p1, ← p2, ← p3, ← p4]
    simp only [neI_self, ifB_f, sameShelf_eq _ _ (putS_okS s l), sameShelf_eq _ _ (sealS_okS s i n), sameShelf_eq _ _ (mergeS_okS s i n), sameShelf_eq _ _ (dropS_okS s n), bindO_some, decide_true, ifB_t]
    have h4 := (chkS_zero.1 hc).1
    rw [ifB_ltI, ifB_gtI]
    by_cases hi : 0 ≤ i ∧ i ≤ 3
    · have h0 := allS_of hc hi.1 (by omega)
      have hl := allS_len h0
      obtain ⟨_, _, _, ha, hk⟩ := allS_ok h0
      have hr := hs.2 _ (getD_mem (l := s) (i := i.toNat) (by omega))
      have hsafe : safeQ (allR (s.getD i.toNat default)) = allS s i := by
        unfold safeQ; rw [← ha, if_pos h0]
      rw [if_neg (by omega), if_neg (by omega), atI_int (by omega) (by omega), bindO_some]
      simp only [show ∀ r : Rowd, ((r.1, r.2) : Rowd) = r from fun _ => rfl]
      rw [rowPoints_eq _ hr, hsafe, bindO_some, ifB_eqI, if_pos h0, equalP_eq (by omega), bindO_some]
      simp
    · have ha : allS s i = ([], 5) := by unfold allS; rw [if_pos hc, if_pos (by omega)]
      rw [ha]
      by_cases h0 : i < 0
      · rw [if_pos h0]; rfl
      · rw [if_neg h0, if_pos (by omega)]; rfl
  · have p0 : allS s i = ([], chkS s) := by unfold allS; rw [if_neg hc]
    have p1 : putS s l = ([], chkS s) := by unfold putS; rw [if_neg hc]
    have p2 : sealS s i n = ([], chkS s) := by unfold sealS; rw [if_neg hc]
    have p3 : mergeS s i n = ([], chkS s) := by unfold mergeS; rw [if_neg hc]
    have p4 : dropS s n = ([], chkS s) := by unfold dropS; rw [if_neg hc]
    rw [ifB_neI, if_neg hc, p0, p1, p2, p3, p4]
    simp only [eqI_self, ifB_t, sameShelf_eq _ _ nil_ok, bindO_some, decide_true]
    rfl
theorem dropLoop (w : List Pt) (n : Int) (hw : w.length ≤ 40) (hp : ∀ p ∈ w, p.1 < n) :
    loopN maxR (fun (x : Int) => ifB (ltI x (lenI w)) (bindO (atI w x) fun (y : Int × Int) => ifB (geI (Prod.fst y) n) (mapO Sum.inr (some false)) (some (Sum.inl (wadd IntKind.i64 x 1)))) (mapO Sum.inr (some true))) 0 = some true := by
  refine loop_range w (fun j (_ : Unit) => (j : Int)) (G := fun _ _ => some true) (P := fun _ _ => True) ?_ ?_ (s0 := ()) trivial (by omega)
  · rintro j _ hj _ k hk
    have hat := atI_nat hj
    have := hp _ (getD_mem hj)
    rw [stepK_ifB, stepK_map, ifB_ltI, lenI_eq, if_pos (by omega), hat, stepK_bind, bindO_some, stepK_ifB, ifB_geI, if_neg (by omega), stepK_inl, wadd_nat (by omega)]
    exact hk () trivial
  · rintro _ _ k
    rw [stepK_ifB, stepK_map, ifB_ltI, lenI_eq, if_neg (by omega)]
theorem dropTail1 (w l : List Pt) (n : Int) (k : Nat) (hl : l = w.drop k) (hk : k ≤ w.length) (hw : w.length ≤ 40) (hp : ∀ p ∈ w.take k, p.1 < n) :
    ifB (gtI (lenI l) (lenI w)) (some false) (ifB (in1 w (wsub IntKind.i64 (lenI w) (lenI l))) (bindO (F_equalP l (dropI w (wsub IntKind.i64 (lenI w) (lenI l)))) fun (y_8 : Bool) => ifB y_8
      (ifB (in1 w (wsub IntKind.i64 (lenI w) (lenI l))) (loopN maxR (fun (x : Int) => ifB (ltI x (lenI (takeI w (wsub IntKind.i64 (lenI w) (lenI l))))) (bindO (atI (takeI w (wsub IntKind.i64 (lenI w) (lenI l))) x)
        fun (y : Int × Int) => ifB (geI (Prod.fst y) n) (mapO Sum.inr (some false)) (some (Sum.inl (wadd IntKind.i64 x 1)))) (mapO Sum.inr (some true))) 0) none) (some false)) none) = some true := by
  have hll : l.length = w.length - k := by rw [hl, List.length_drop]
  have hs : wsub .i64 (lenI w) (lenI l) = (k : Int) := by rw [lenI_eq, lenI_eq, wsub_in ⟨by omega, by omega⟩]; omega
  rw [hs, ifB_gtI, lenI_eq, lenI_eq, if_neg (by omega), ifB_in1, if_pos ⟨by omega, by omega⟩, dropI_eq, takeI_eq, Int.toNat_natCast, equalP_eq (by omega), bindO_some, ifB_dec, if_pos hl, ifB_in1, if_pos ⟨by omega, by omega⟩]
  exact dropLoop (w.take k) n (by rw [List.length_take]; omega) hp
theorem dropTail2 (w l : List Pt) (n : Int) (k : Nat) (hl : l = w.drop k) (hk : k ≤ w.length) (hw : w.length ≤ 40) (hp : ∀ p ∈ w.take k, p.1 < n) :
    ifB (gtI (lenI l) (lenI w)) (some false) (ifB (in1 w (wsub IntKind.i64 (lenI w) (lenI l))) (ifB (inN w (addN 0 (natI (wsub IntKind.i64 (lenI w) (lenI l)))) (subNI (lenN w) (wsub IntKind.i64 (lenI w) (lenI l)))) (bindO (F_equalP l (subN w (addN 0 (natI (wsub IntKind.i64 (lenI w) (lenI l)))) (subNI (lenN w) (wsub IntKind.i64 (lenI w) (lenI l))))) fun (y_8 : Bool) => ifB y_8
      (ifB (in1 w (wsub IntKind.i64 (lenI w) (lenI l))) (loopN maxR (fun (x : Int) => ifB (ltI x (lenI (takeI w (wsub IntKind.i64 (lenI w) (lenI l))))) (bindO (atI (takeI w (wsub IntKind.i64 (lenI w) (lenI l))) x)
        fun (y : Int × Int) => ifB (geI (Prod.fst y) n) (mapO Sum.inr (some false)) (some (Sum.inl (wadd IntKind.i64 x 1)))) (mapO Sum.inr (some true))) 0) none) (some false)) none) none) = some true := by
  have hll : l.length = w.length - k := by rw [hl, List.length_drop]
  have hs : wsub .i64 (lenI w) (lenI l) = (k : Int) := by rw [lenI_eq, lenI_eq, wsub_in ⟨by omega, by omega⟩]; omega
  have e1 : addN 0 (natI (k : Int)) = k := by simp [addN, natI]
  have e2 : subNI (lenN w) (k : Int) = w.length - k := by simp [subNI, lenN]
  have e3 : subN w k (w.length - k) = w.drop k := by unfold subN; rw [List.take_of_length_le (by simp)]
  rw [hs, e1, e2, e3, ifB_gtI, lenI_eq, lenI_eq, if_neg (by omega), ifB_in1, if_pos ⟨by omega, by omega⟩, ifB_inN, if_pos (by omega), takeI_eq, Int.toNat_natCast, equalP_eq (by omega), bindO_some, ifB_dec, if_pos hl, ifB_in1, if_pos ⟨by omega, by omega⟩]
  exact dropLoop (w.take k) n (by rw [List.length_take]; omega) hp
theorem shelfSame_law (s : Shf) (i n j : Int) (hs : okS s) : F_rainbooklaw_ShelfSame s i n j = some true := by
  unfold F_rainbooklaw_ShelfSame
  rw [at_eq _ _ (by omega) (by omega), bindO_some]
  have j0 := Int.emod_nonneg j (show (4 : Int) ≠ 0 by omega)
  have j1 := Int.emod_lt_of_pos j (show (0 : Int) < 4 by omega)
  generalize j % 4 = j at *
  simp only [allS_eq _ _ hs, shelved_eq, seal_eq _ _ _ hs, mergeS_eq _ _ _ hs, drop_eq _ _ hs, allS_eq _ _ (sealS_okS s i n), allS_eq _ _ (mergeS_okS s i n), allS_eq _ _ (dropS_okS s n), bindO_some, ifB_not, ifB_t]
  rw [ifB_neI]
  by_cases h0 : (allS s j).2 = 0
  · have hw := allS_len h0
    obtain ⟨hc, _, _, _, _⟩ := allS_ok h0
    rw [if_pos h0]
    -- what comes behind the drop
    have tail : ∀ T : List Pt → Option Bool, (∀ (l : List Pt) (k : Nat), l = (allS s j).1.drop k → k ≤ (allS s j).1.length → (∀ p ∈ (allS s j).1.take k, p.1 < n) → T l = some true) →
        ifB (neI (dropS s n).2 0) (some true) (ifB (neI (allS (dropS s n).1 j).2 0) (some false) (T (allS (dropS s n).1 j).1)) = some true := by
      intro T hT
      rw [ifB_neI]
      by_cases hd : (dropS s n).2 = 0
      · obtain ⟨_, _, d3, d4⟩ := dropS_ok hd
        obtain ⟨k, g1, g2, g3⟩ := d4 j j0 j1
        rw [if_pos hd, ifB_neI, if_pos (allS_of d3 j0 j1)]
        exact hT _ k g1 g2 g3
      · rw [if_neg hd]
    have t1 := tail _ (fun l k h1 h2 h3 => dropTail1 (allS s j).1 l n k h1 h2 hw h3)
    have t2 := tail _ (fun l k h1 h2 h3 => dropTail2 (allS s j).1 l n k h1 h2 hw h3)
    have m1 : ∀ X Y : Option Bool, X = some true → Y = some true → ifB (eqI (mergeS s i n).2 0) (ifB (neI (allS (mergeS s i n).1 j).2 0) (some false) (bindO (F_equalP (allS (mergeS s i n).1 j).1 (allS s j).1) fun (y : Bool) => ifB y X (some false))) Y = some true := by
      intro X Y hX hY
      rw [ifB_eqI]
      by_cases hm : (mergeS s i n).2 = 0
      · obtain ⟨_, _, m3⟩ := mergeS_ok hm
        rw [if_pos hm, m3 j, ifB_neI, if_pos h0, equalP_eq (by omega), bindO_some, ifB_dec, if_pos rfl, hX]
      · rw [if_neg hm, hY]
    rw [ifB_eqI]
    by_cases hz : (sealS s i n).2 = 0
    · obtain ⟨_, _, m3⟩ := sealS_ok hz
      rw [if_pos hz, m3 j, ifB_neI, if_pos h0, equalP_eq (by omega), bindO_some, ifB_dec, if_pos rfl]
      exact m1 _ _ t1 t1
    · rw [if_neg hz]
      exact m1 _ _ t1 t2
  · rw [if_neg h0]
theorem shelfAll_law (s : Shf) (l : List Ent) (j : Int) (hs : okS s) (hl : l.length ≤ 5864062014700) : F_rainbooklaw_ShelfAll s l j = some true := by
  unfold F_rainbooklaw_ShelfAll
  rw [at_eq _ _ (by omega) (by omega), bindO_some]
  have j0 := Int.emod_nonneg j (show (4 : Int) ≠ 0 by omega)
  have j1 := Int.emod_lt_of_pos j (show (0 : Int) < 4 by omega)
  generalize j % 4 = j at *
  simp only [allS_eq _ _ hs, shelved_eq, shelfPut_eq _ _ hs (show l.length < 4611686018427387904 by omega), allS_eq _ _ (putS_okS s l), bindO_some, ifB_not, ifB_t]
  rw [ifB_neI]
  by_cases h0 : (allS s j).2 = 0
  · have hw := allS_len h0
    rw [if_pos h0, ifB_neI]
    by_cases hp : (putS s l).2 = 0
    · obtain ⟨_, h10, p3, p4⟩ := putS_ok hp
      rw [if_pos hp]
      have hq := p4 j j0 j1
      have hz := allS_of p3 j0 j1
      have hql := allS_len hz
      refine loop_range l (fun i (t : List Pt) => ((i : Int), t)) (G := fun rest t => some (decide ((allS (putS s l).1 j).1 = t ++ entP j rest))) (P := fun i t => t.length ≤ 40 + i) ?_ ?_ (s0 := (allS s j).1) (by omega) (by omega) |>.trans ?_
      · rintro i t hi ht k hk
        have hat := atI_nat hi
        generalize l.getD i default = x at *
        simp only
        rw [stepK_ifB, stepK_map, ifB_ltI, lenI_eq, if_pos (by omega), hat, stepK_bind, bindO_some, stepK_ifB, stepK_ifB, stepK_inl, stepK_inl, stepK_none, ifB_eqI, wadd_nat (by omega)]
        by_cases hx : x.1 = j
        · rw [if_pos hx, ifB_roomA, if_pos (by simp only [List.length_cons, List.length_nil]; omega), cat_eq]
          refine (hk _ (by rw [List.length_append, List.length_singleton]; omega)).trans ?_
          rw [List.append_assoc]
          unfold entP
          rw [List.filter_cons, if_pos (by simpa using hx)]; rfl
        · rw [if_neg hx]
          refine (hk _ (by omega)).trans ?_
          unfold entP
          rw [List.filter_cons, if_neg (by simpa using hx)]
      · rintro t ht k
        simp only
        rw [stepK_ifB, stepK_map, ifB_ltI, lenI_eq, if_neg (by omega), ifB_eqI, if_pos hz, equalP_eq (by omega), bindO_some]
        simp [entP]
      · simp [hq]
    · rw [if_neg hp]
  · rw [if_neg h0]
theorem chk_twice : ∀ {l : List Pt} {L : Int} {p : Pt}, chk L (l ++ [p]) = 0 → chk L (l ++ [p] ++ [p]) = 7
  | [], L, p, h => by
    obtain ⟨h1, h2, _⟩ := chk_cons (r := []) h
    unfold PtIn at h1
    show chk L [p, p] = 7
    rw [chk, if_neg (by omega), if_neg (by omega), chk, if_neg (by omega), if_pos (by omega)]
  | q :: l, L, p, h => by
    obtain ⟨h1, h2, h3⟩ := chk_cons (r := l ++ [p]) h
    have := chk_twice h3
    unfold PtIn at h1
    show chk L (q :: (l ++ [p] ++ [p])) = 7
    rw [chk, if_neg (by omega), if_neg (by omega), this]
theorem allR_2 {r : Rowd} (h1 : r.1.length ≤ 8) (h2 : okBs r.1) : (allR r).2 = checkL (ptsBs r.1 ++ r.2) := by
  unfold allR
  rw [if_neg (by omega), rp_ok h2, if_pos rfl, List.nil_append]
theorem put_one {s : Shf} {x : Ent} (hc : chkS s = 0) (h0 : 0 ≤ x.1) (h1 : x.1 < 4) (l : List Ent) (hl : (x :: l).length ≤ 10) : putS s (x :: l) = if (allR (putW x (s.getD x.1.toNat default))).2 = 0 then putE (s.set x.1.toNat (putW x (s.getD x.1.toNat default))) l else ([], (allR (putW x (s.getD x.1.toNat default))).2) := by
  unfold putS
  rw [if_pos hc, if_neg (by omega), putE, if_neg (by omega)]
theorem concatE_eq {a : List (List Ent)} (h : a.length < 4611686018427387904) (h2 : a.flatten.length ≤ 5864062014805) : F_concatE a = some a.flatten := by
  have h3 : a.flatten.length * 24 ≤ 140737488355328 := by omega
  have h9 := concat_gen (α := Ent) 24 (0, 0, 0) a h (by decide) h3 (by decide)
  exact h9
theorem shelfLast_law (s : Shf) (i t v : Int) (more : List Ent) (hs : okS s) (hl : more.length ≤ 5864062014700) : F_rainbooklaw_ShelfLast s i t v more = some true := by
  unfold F_rainbooklaw_ShelfLast
  rw [at_eq _ _ (by omega) (by omega), bindO_some]
  have j0 := Int.emod_nonneg i (show (4 : Int) ≠ 0 by omega)
  have j1 := Int.emod_lt_of_pos i (show (0 : Int) < 4 by omega)
  generalize i % 4 = i at *
  have hf2 : [[((i, t, v) : Ent)], more].flatten = (i, t, v) :: more := by simp
  simp only [last_eq _ _ hs, shelved_eq, bindO_some, ifB_not, ifB_t, shelfPut_eq _ [((i, t, v) : Ent)] hs (by simp), concatE_eq (a := [[((i, t, v) : Ent)], more]) (by simp) (by rw [hf2, List.length_cons]; omega), hf2, shelfPut_eq _ ((i, t, v) :: more) hs (by rw [List.length_cons]; omega), shelfPut_eq _ [((i, t, v) : Ent)] (putS_okS _ _) (by simp), last_eq _ _ (putS_okS s [((i, t, v) : Ent)])]
  by_cases h0 : (allS s i).2 = 0
  · obtain ⟨hc, _, _, _, hk⟩ := allS_ok h0
    have h4 := (chkS_zero.1 hc).1
    simp only [if_pos h0]
    rw [ifB_neI, if_pos rfl]
    have bad : ¬ (putS s [((i, t, v) : Ent)]).2 = 0 → some (neI (putS s ((i, t, v) :: more)).2 0) = some true := by
      intro hq
      have h1 := put_one (x := (i, t, v)) hc j0 j1 [] (by simp)
      have hz : ¬ (allR (putW (i, t, v) (s.getD i.toNat default))).2 = 0 := by
        intro hz
        rw [h1] at hq
        simp only at hq
        rw [if_pos hz] at hq
        exact hq rfl
      have : ¬ (putS s ((i, t, v) :: more)).2 = 0 := by
        by_cases hlen : ((i, t, v) :: more).length ≤ 10
        · rw [put_one (x := (i, t, v)) hc j0 j1 more hlen]
          simp only
          rw [if_neg hz]
          exact hz
        · unfold putS
          rw [if_pos hc, if_pos (by omega)]
          decide
      simp [neI, this]
    have good : (putS s [((i, t, v) : Ent)]).2 = 0 → chkS (putS s [((i, t, v) : Ent)]).1 = 0 ∧ allS (putS s [((i, t, v) : Ent)]).1 i = ((allS s i).1 ++ [(t, v)], 0) ∧ ((putS (putS s [((i, t, v) : Ent)]).1 [((i, t, v) : Ent)]).2 = 7 ∨ (putS (putS s [((i, t, v) : Ent)]).1 [((i, t, v) : Ent)]).2 = 2) := by
      intro hq
      obtain ⟨_, _, g1, g2⟩ := putS_ok hq
      have g3 := g2 i j0 j1
      have g4 := allS_of g1 j0 j1
      have g5 : entP i [((i, t, v) : Ent)] = [(t, v)] := by simp [entP]
      rw [g5] at g3
      refine ⟨g1, Prod.ext g3 g4, ?_⟩
      generalize (putS s [((i, t, v) : Ent)]).1 = s' at *
      rw [put_one (x := (i, t, v)) g1 j0 j1 [] (by simp)]
      obtain ⟨e1, e2, e3, e4⟩ := allR_is (chkS_row g1 (i := i.toNat) (by omega))
      have e5 := allS_is g1 j0 j1
      simp only
      generalize s'.getD i.toNat default = r at *
      rw [e5] at g3
      simp only at g3
      have e6 : (allR (putW (i, t, v) r)).2 = checkL ((allS s i).1 ++ [(t, v)] ++ [(t, v)]) := by
        rw [allR_2 (r := putW (i, t, v) r) e1 e2]
        show checkL (ptsBs r.1 ++ (r.2 ++ [(t, v)])) = _
        rw [← List.append_assoc, g3]
      rw [g3] at e3
      have e7 := chk_twice (checkL_chk e3)
      have e8 : checkL ((allS s i).1 ++ [(t, v)] ++ [(t, v)]) = 7 ∨ checkL ((allS s i).1 ++ [(t, v)] ++ [(t, v)]) = 2 := by
        unfold checkL
        split
        · exact .inr rfl
        · exact .inl e7
      rw [e6]
      rcases e8 with e8 | e8
      · rw [e8, if_neg (by decide)]; exact .inl rfl
      · rw [e8, if_neg (by decide)]; exact .inr rfl
    have last' : lastR ((allS s i).1 ++ [(t, v)]) = ((t, v), true) := by
      unfold lastR
      rw [if_neg (by simp)]
      simp [List.getD]
    have fin : (putS s [((i, t, v) : Ent)]).2 = 0 → ∀ X : Option Bool, X = ifB (eqI (putS (putS s [((i, t, v) : Ent)]).1 [((i, t, v) : Ent)]).2 7) (some true) (some (eqI (putS (putS s [((i, t, v) : Ent)]).1 [((i, t, v) : Ent)]).2 2)) → X = some true := by
      rintro hq X rfl
      obtain ⟨_, _, g⟩ := good hq
      rw [ifB_eqI]
      rcases g with g | g
      · rw [if_pos g]
      · rw [g]; rfl
    have rest : ifB (neI (putS s [((i, t, v) : Ent)]).2 0) (some (neI (putS s ((i, t, v) :: more)).2 0)) (ifB (neI (if (allS (putS s [((i, t, v) : Ent)]).1 i).2 = 0 then ((lastR (allS (putS s [((i, t, v) : Ent)]).1 i).1).1, (lastR (allS (putS s [((i, t, v) : Ent)]).1 i).1).2, (0 : Int)) else ((0, 0), false, (allS (putS s [((i, t, v) : Ent)]).1 i).2)).2.2 0) (some false)
        (ifB (if (allS (putS s [((i, t, v) : Ent)]).1 i).2 = 0 then ((lastR (allS (putS s [((i, t, v) : Ent)]).1 i).1).1, (lastR (allS (putS s [((i, t, v) : Ent)]).1 i).1).2, (0 : Int)) else ((0, 0), false, (allS (putS s [((i, t, v) : Ent)]).1 i).2)).2.1
          (ifB (eqL [(if (allS (putS s [((i, t, v) : Ent)]).1 i).2 = 0 then ((lastR (allS (putS s [((i, t, v) : Ent)]).1 i).1).1, (lastR (allS (putS s [((i, t, v) : Ent)]).1 i).1).2, (0 : Int)) else ((0, 0), false, (allS (putS s [((i, t, v) : Ent)]).1 i).2)).1.1, (if (allS (putS s [((i, t, v) : Ent)]).1 i).2 = 0 then ((lastR (allS (putS s [((i, t, v) : Ent)]).1 i).1).1, (lastR (allS (putS s [((i, t, v) : Ent)]).1 i).1).2, (0 : Int)) else ((0, 0), false, (allS (putS s [((i, t, v) : Ent)]).1 i).2)).1.2] [t, v])
            (ifB (eqI (putS (putS s [((i, t, v) : Ent)]).1 [((i, t, v) : Ent)]).2 7) (some true) (some (eqI (putS (putS s [((i, t, v) : Ent)]).1 [((i, t, v) : Ent)]).2 2))) (some false)) (some false))) = some true := by
      rw [ifB_neI]
      by_cases hq : (putS s [((i, t, v) : Ent)]).2 = 0
      · rw [if_pos hq]
        refine fin hq _ ?_
        rw [(good hq).2.1]
        simp only [if_true, last', ifB_neI, ifB_t]
        rw [ifB_eqL, if_pos rfl]
      · rw [if_neg hq]; exact bad hq
    refine Eq.trans ?_ rest
    by_cases hb : (lastR (allS s i).1).2 = true
    · rw [hb, ifB_t, ifB_leI]
      by_cases hle : t ≤ (lastR (allS s i).1).1.1
      · have hq : ¬ (putS s [((i, t, v) : Ent)]).2 = 0 := by
          intro hq
          obtain ⟨g1, g2, _⟩ := good hq
          have g3 := allS_of g1 j0 j1
          have g4 := (allS_ok g3).2.2.2.2
          rw [g2] at g4
          have g5 := checkL_rise g4
          unfold Rise at g5
          rw [List.pairwise_append] at g5
          unfold lastR at hb hle
          split at hb
          · cases hb
          · rename_i hz
            rw [if_neg hz] at hle
            have := g5.2.2 _ (getD_mem (l := (allS s i).1) (i := (allS s i).1.length - 1) (by omega)) (t, v) (List.mem_singleton.2 rfl)
            simp only at this hle
            omega
        rw [if_pos hle, ifB_eqI, if_neg hq]
      · rw [if_neg hle]
    · have hb' : (lastR (allS s i).1).2 = false := by revert hb; cases (lastR (allS s i).1).2 <;> simp
      rw [hb', ifB_f]
  · simp only [if_neg h0]
    rw [ifB_neI, if_neg h0]
end Go.Proofs.Y
