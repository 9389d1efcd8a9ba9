/-
  What is proved, part by part: what slices.insertionSortOrdered[int] comes to. what slices.pdqsortOrdered[int] comes to. what slices.Sort[[]int,int] comes to. what rainbooklaw.QueryParts comes to. three numbers sorted by the program's sort, in plain words. QueryParts: what the law's body comes to is true. Conditions: none.
-/
import Derived.Test.YtoihccclnkhmaaaKPA
import Derived.Test.YtoihccclnkhmaaaKPB
set_option linter.unusedVariables false
set_option linter.unusedSimpArgs false
set_option linter.unnecessarySimpa false
set_option maxRecDepth 4000
namespace Go.Proofs.Y
open Go.Rb Go.Kx
noncomputable def C_isort : Code := bodyOf Try.f128
noncomputable def G_isort : FuncId → Option GS := tabG [(134, R_cmp_Less_int)]
theorem g_isort : ΓOK Try.prog G_isort := ΓOK_cons (R_cmp_Less_int_ok) (ΓOK_nil)
def H_isort : HT := ⟨tabL [(1, .it [] (dyn [.t 6 (.int .i64), .k 0 3 (.one (.int .i64))])), (4, .it [] (dyn [.t 7 (.int .i64), .k 0 3 (.one (.int .i64))]))], tabH []⟩
noncomputable def I_isort : GS := inl T G_isort H_isort C_isort (resOf Try.f128) (Try.f128.ntmps)
theorem I_isort_ok : GSOK Try.prog 128 I_isort := inl_ok tok g_isort fmo (Ht := H_isort) (fn := Try.f128) (Try.func128) (c := C_isort) (by kernel_rfl) (by kernel_rfl) (by kernel_rfl)
end Go.Proofs.Y
namespace Go.Proofs.Y
open Go.Rb Go.Kx
noncomputable def C_pdq : Code := bodyOf Try.f121
noncomputable def G_pdq : FuncId → Option GS := tabG [(128, I_isort), (134, R_cmp_Less_int)]
theorem g_pdq : ΓOK Try.prog G_pdq := ΓOK_cons (I_isort_ok) (ΓOK_cons (R_cmp_Less_int_ok) (ΓOK_nil))
def H_pdq : HT := ⟨tabL [(2, .unroll 2)], tabH []⟩
noncomputable def I_pdq : GS := inl T G_pdq H_pdq C_pdq (resOf Try.f121) (Try.f121.ntmps)
theorem I_pdq_ok : GSOK Try.prog 121 I_pdq := inl_ok tok g_pdq fmo (Ht := H_pdq) (fn := Try.f121) (Try.func121) (c := C_pdq) (by kernel_rfl) (by kernel_rfl) (by kernel_rfl)
end Go.Proofs.Y
namespace Go.Proofs.Y
open Go.Rb Go.Kx
noncomputable def C_sort : Code := bodyOf Try.f90
noncomputable def G_sort : FuncId → Option GS := tabG [(122, R_math_bits_Len), (121, I_pdq)]
theorem g_sort : ΓOK Try.prog G_sort := ΓOK_cons (R_math_bits_Len_ok) (ΓOK_cons (I_pdq_ok) (ΓOK_nil))
def H_sort : HT := ⟨tabL [], tabH []⟩
noncomputable def I_sort : GS := inl T G_sort H_sort C_sort (resOf Try.f90) (Try.f90.ntmps)
theorem I_sort_ok : GSOK Try.prog 90 I_sort := inl_ok tok g_sort fmo (Ht := H_sort) (fn := Try.f90) (Try.func90) (c := C_sort) (by kernel_rfl) (by kernel_rfl) (by kernel_rfl)
end Go.Proofs.Y
namespace Go.Proofs.Y
open Go.Rb Go.Kx
noncomputable def C_rainbooklaw_QueryParts : Code := bodyOf Try.f24
noncomputable def G_rainbooklaw_QueryParts : FuncId → Option GS := tabG [(30, R_rainbooklaw_at), (90, I_sort), (60, R_query_Range), (64, R_rainbooklaw_asked), (91, R_concatP), (50, R_equalP), (61, R_query_Buckets), (28, R_sum_Join), (26, R_sum_Of), (68, R_equalBu)]
theorem g_rainbooklaw_QueryParts : ΓOK Try.prog G_rainbooklaw_QueryParts := ΓOK_cons (R_rainbooklaw_at_ok) (ΓOK_cons (I_sort_ok) (ΓOK_cons (R_query_Range_ok) (ΓOK_cons (R_rainbooklaw_asked_ok) (ΓOK_cons (R_concatP_ok) (ΓOK_cons (R_equalP_ok) (ΓOK_cons (R_query_Buckets_ok) (ΓOK_cons (R_sum_Join_ok) (ΓOK_cons (R_sum_Of_ok) (ΓOK_cons (R_equalBu_ok) (ΓOK_nil))))))))))
def H_rainbooklaw_QueryParts : HT := ⟨tabL [(18, .it [] (dyn [.t 117 (.int .i64), .c 21 0 (.int .i64), .c 21 1 (.int .i64), .c 21 2 (.int .i64), .c 21 3 (.int .i64)])), (33, .it [] (dyn [.a 25 83 (.cons (.int .i64) (.cons (.int .i64) (.cons (.int .i64) (.cons (.int .i64) (.one (.int .i64)))))), .t 176 (.int .i64)]))], tabH []⟩
abbrev is_rainbooklaw_QueryParts : List IT := [.v (.one (.sl 78 (.cons (.sl 58 (.cons (.int .i64) (.cons (.int .i64) (.cons (.int .i64) (.one (.sl 4 (.one .bool))))))) (.one (.sl 34 (.cons (.int .i64) (.one (.int .i64)))))))) true, .v (.one (.int .i64)) false, .v (.one (.int .i64)) false, .v (.one (.int .i64)) false, .v (.one (.int .i64)) false, .v (.one (.int .i64)) false]
abbrev os_rainbooklaw_QueryParts : List OT := [⟨.one .bool, false, []⟩]
set_option maxRecDepth 100000
noncomputable def F_rainbooklaw_QueryParts : List (List (Int × Int × Int × List Bool) × List (Int × Int)) → Int → Int → Int → Int → Int → Option Bool := fun (a : List (List (Int × Int × Int × List Bool) × List (Int × Int))) (b c d e f : Int) => bindO (F_rainbooklaw_at b 4) fun (y : Int) => bindO (F_rainbooklaw_at f 100001) fun (y_1 : Int) => bindO (F_rainbooklaw_at c 100002) fun (y_2 : Int) => bindO (F_rainbooklaw_at d 100002) fun (y_3 : Int) => bindO (F_rainbooklaw_at e 100002) fun (y_4 : Int) => bindO (F_math_bits_Len (wconv IntKind.u64 (lenI [y_2, y_3, y_4]))) fun (y_5 : Int) => loopN maxR (fun (x : Int × List Int) => ifB (ltI (Prod.fst x) (lenI [y_2, y_3, y_4])) (loopN maxR (fun (x_1 : Int × List Int) => ifB (gtI (Prod.fst x_1) 0) (ifB (ltL (Prod.fst x_1) (Prod.snd x_1)) (bindO (atN (Prod.snd x_1) (natI (Prod.fst x_1))) fun (y : Int) => ifB (ltL (wsub IntKind.i64 (Prod.fst x_1) 1) (Prod.snd x_1)) (bindO (atN (Prod.snd x_1) (natI (wsub IntKind.i64 (Prod.fst x_1) 1))) fun (y_6 : Int) => bindO (F_cmp_Less_int y y_6) fun (y : Bool) => ifB y (ifB (ltL (wsub IntKind.i64 (Prod.fst x_1) 1) (Prod.snd x_1)) (bindO (atN (Prod.snd x_1) (natI (wsub IntKind.i64 (Prod.fst x_1) 1))) fun (y : Int) => ifB (ltL (Prod.fst x_1) (Prod.snd x_1)) (bindO (atN (Prod.snd x_1) (natI (Prod.fst x_1))) fun (y_7 : Int) => ifB (ltL (Prod.fst x_1) (Prod.snd x_1)) (bindO (atN (Prod.snd x_1) (natI (Prod.fst x_1))) fun (y_8 : Int) => ifB (ltL (wsub IntKind.i64 (Prod.fst x_1) 1) (setN (Prod.snd x_1) (natI (Prod.fst x_1)) y)) (bindO (atN (setN (Prod.snd x_1) (natI (Prod.fst x_1)) y) (natI (wsub IntKind.i64 (Prod.fst x_1) 1))) fun (y_9 : Int) => some (Sum.inl (wsub IntKind.i64 (Prod.fst x_1) 1, setN (setN (Prod.snd x_1) (natI (Prod.fst x_1)) y) (natI (wsub IntKind.i64 (Prod.fst x_1) 1)) y_7))) none) none) none) none) (mapO Sum.inr (some (Sum.inl (wadd IntKind.i64 (Prod.fst x) 1, Prod.snd x_1))))) none) none) (mapO Sum.inr (some (Sum.inl (wadd IntKind.i64 (Prod.fst x) 1, Prod.snd x_1))))) (Prod.fst x, Prod.snd x)) (mapO Sum.inr (ifB (ltL 0 (Prod.snd x)) (bindO (atN (Prod.snd x) (natI 0)) fun (y_6 : Int) => ifB (ltL 1 (Prod.snd x)) (bindO (atN (Prod.snd x) (natI 1)) fun (y_7 : Int) => ifB (ltL 2 (Prod.snd x)) (bindO (atN (Prod.snd x) (natI 2)) fun (y_8 : Int) => bindO (F_query_Range a y y_6 y_7) fun (y_9 : List (Int × Int) × Int) => bindO (F_query_Range a y y_7 y_8) fun (y_10 : List (Int × Int) × Int) => bindO (F_query_Range a y y_6 y_8) fun (y_11 : List (Int × Int) × Int) => bindO F_rainbooklaw_asked fun (y_12 : Bool) => ifB (notB y_12) (bindO F_rainbooklaw_asked fun (y : Bool) => some y) (ifB (neI (Prod.snd y_9) 0) (bindO F_rainbooklaw_asked fun (y : Bool) => some y) (ifB (neI (Prod.snd y_10) 0) (some false) (ifB (neI (Prod.snd y_11) 0) (some false) (bindO (F_concatP [Prod.fst y_9, Prod.fst y_10]) fun (y_13 : List (Int × Int)) => bindO (F_equalP y_13 (Prod.fst y_11)) fun (y_14 : Bool) => ifB (notB y_14) (some false) (bindO (F_query_Buckets a y y_6 y_8 (wadd IntKind.i64 1 y_1)) fun (y_15 : List (Int × Int × Int × Int × Int) × Int) => ifB (neI (Prod.snd y_15) 0) (some (eqI (Prod.snd y_15) 2)) (loopN maxR (fun (x : Int × Int × Int × Int × Int) => ifB (ltI (Prod.fst x) (lenI (Prod.fst y_15))) (bindO (atI (Prod.fst y_15) (Prod.fst x)) fun (y : Int × Int × Int × Int × Int) => ifB (ltI (Prod.fst (Prod.snd y)) 1) (mapO Sum.inr (some false)) (ifB (gtI (Prod.fst x) 0) (bindO (atI (Prod.fst y_15) (wsub IntKind.i64 (Prod.fst x) 1)) fun (y_16 : Int × Int × Int × Int × Int) => ifB (geI (Prod.fst y_16) (Prod.fst y)) (mapO Sum.inr (some false)) (ifB (eqI (wadd IntKind.i64 1 y_1) 0) none (ifB (neI (wrem (wsub IntKind.i64 (Prod.fst y) y_6) (wadd IntKind.i64 1 y_1)) 0) (mapO Sum.inr (some false)) (bindO (F_sum_Join (Prod.fst (Prod.snd x), Prod.fst (Prod.snd (Prod.snd x)), Prod.fst (Prod.snd (Prod.snd (Prod.snd x))), Prod.snd (Prod.snd (Prod.snd (Prod.snd x)))) (Prod.fst (Prod.snd y), Prod.fst (Prod.snd (Prod.snd y)), Prod.fst (Prod.snd (Prod.snd (Prod.snd y))), Prod.snd (Prod.snd (Prod.snd (Prod.snd y))))) fun (y : Int × Int × Int × Int) => some (Sum.inl (wadd IntKind.i64 (Prod.fst x) 1, Prod.fst y, Prod.fst (Prod.snd y), Prod.fst (Prod.snd (Prod.snd y)), Prod.snd (Prod.snd (Prod.snd y)))))))) (ifB (eqI (wadd IntKind.i64 1 y_1) 0) none (ifB (neI (wrem (wsub IntKind.i64 (Prod.fst y) y_6) (wadd IntKind.i64 1 y_1)) 0) (mapO Sum.inr (some false)) (bindO (F_sum_Join (Prod.fst (Prod.snd x), Prod.fst (Prod.snd (Prod.snd x)), Prod.fst (Prod.snd (Prod.snd (Prod.snd x))), Prod.snd (Prod.snd (Prod.snd (Prod.snd x)))) (Prod.fst (Prod.snd y), Prod.fst (Prod.snd (Prod.snd y)), Prod.fst (Prod.snd (Prod.snd (Prod.snd y))), Prod.snd (Prod.snd (Prod.snd (Prod.snd y))))) fun (y : Int × Int × Int × Int) => some (Sum.inl (wadd IntKind.i64 (Prod.fst x) 1, Prod.fst y, Prod.fst (Prod.snd y), Prod.fst (Prod.snd (Prod.snd y)), Prod.snd (Prod.snd (Prod.snd y))))))))) (mapO Sum.inr (bindO (F_sum_Of (Prod.fst y_11)) fun (y_16 : Int × Int × Int × Int) => ifB (notB (eqL [Prod.fst (Prod.snd x), Prod.fst (Prod.snd (Prod.snd x)), Prod.fst (Prod.snd (Prod.snd (Prod.snd x))), Prod.snd (Prod.snd (Prod.snd (Prod.snd x)))] [Prod.fst y_16, Prod.fst (Prod.snd y_16), Prod.fst (Prod.snd (Prod.snd y_16)), Prod.snd (Prod.snd (Prod.snd y_16))])) (some false) (ifB (gtI (wmul IntKind.i64 2 (wadd IntKind.i64 1 y_1)) 100001) (some true) (bindO (F_query_Buckets a y y_6 y_8 (wmul IntKind.i64 2 (wadd IntKind.i64 1 y_1))) fun (y : List (Int × Int × Int × Int × Int) × Int) => ifB (neI (Prod.snd y) 0) (some false) (loopN maxR (fun (x : Int × List (Int × Int × Int × Int × Int)) => ifB (ltI (Prod.fst x) (lenI (Prod.fst y_15))) (bindO (atI (Prod.fst y_15) (Prod.fst x)) fun (y : Int × Int × Int × Int × Int) => ifB (eqI (wmul IntKind.i64 2 (wadd IntKind.i64 1 y_1)) 0) none (ifB (geI (wsub IntKind.i64 (lenI (Prod.snd x)) 1) 0) (ifB (ltL (wsub IntKind.i64 (lenI (Prod.snd x)) 1) (Prod.snd x)) (bindO (atN (Prod.snd x) (natI (wsub IntKind.i64 (lenI (Prod.snd x)) 1))) fun (y_17 : Int × Int × Int × Int × Int) => ifB (eqI (Prod.fst y_17) (wsub IntKind.i64 (Prod.fst y) (wrem (wsub IntKind.i64 (Prod.fst y) y_6) (wmul IntKind.i64 2 (wadd IntKind.i64 1 y_1))))) (ifB (ltL (wsub IntKind.i64 (lenI (Prod.snd x)) 1) (Prod.snd x)) (bindO (atN (Prod.snd x) (natI (wsub IntKind.i64 (lenI (Prod.snd x)) 1))) fun (y_18 : Int × Int × Int × Int × Int) => bindO (F_sum_Join (Prod.fst (Prod.snd y_18), Prod.fst (Prod.snd (Prod.snd y_18)), Prod.fst (Prod.snd (Prod.snd (Prod.snd y_18))), Prod.snd (Prod.snd (Prod.snd (Prod.snd y_18)))) (Prod.fst (Prod.snd y), Prod.fst (Prod.snd (Prod.snd y)), Prod.fst (Prod.snd (Prod.snd (Prod.snd y))), Prod.snd (Prod.snd (Prod.snd (Prod.snd y))))) fun (y : Int × Int × Int × Int) => ifB (ltL (wsub IntKind.i64 (lenI (Prod.snd x)) 1) (Prod.snd x)) (bindO (atN (Prod.snd x) (natI (wsub IntKind.i64 (lenI (Prod.snd x)) 1))) fun (y_19 : Int × Int × Int × Int × Int) => some (Sum.inl (wadd IntKind.i64 (Prod.fst x) 1, setN (Prod.snd x) (natI (wsub IntKind.i64 (lenI (Prod.snd x)) 1)) (Prod.fst y_19, Prod.fst y, Prod.fst (Prod.snd y), Prod.fst (Prod.snd (Prod.snd y)), Prod.snd (Prod.snd (Prod.snd y)))))) none) none) (ifB (roomA 40 (Prod.snd x) [(wsub IntKind.i64 (Prod.fst y) (wrem (wsub IntKind.i64 (Prod.fst y) y_6) (wmul IntKind.i64 2 (wadd IntKind.i64 1 y_1))), Prod.fst (Prod.snd y), Prod.fst (Prod.snd (Prod.snd y)), Prod.fst (Prod.snd (Prod.snd (Prod.snd y))), Prod.snd (Prod.snd (Prod.snd (Prod.snd y))))]) (some (Sum.inl (wadd IntKind.i64 (Prod.fst x) 1, cat (Prod.snd x) [(wsub IntKind.i64 (Prod.fst y) (wrem (wsub IntKind.i64 (Prod.fst y) y_6) (wmul IntKind.i64 2 (wadd IntKind.i64 1 y_1))), Prod.fst (Prod.snd y), Prod.fst (Prod.snd (Prod.snd y)), Prod.fst (Prod.snd (Prod.snd (Prod.snd y))), Prod.snd (Prod.snd (Prod.snd (Prod.snd y))))]))) none)) none) (ifB (roomA 40 (Prod.snd x) [(wsub IntKind.i64 (Prod.fst y) (wrem (wsub IntKind.i64 (Prod.fst y) y_6) (wmul IntKind.i64 2 (wadd IntKind.i64 1 y_1))), Prod.fst (Prod.snd y), Prod.fst (Prod.snd (Prod.snd y)), Prod.fst (Prod.snd (Prod.snd (Prod.snd y))), Prod.snd (Prod.snd (Prod.snd (Prod.snd y))))]) (some (Sum.inl (wadd IntKind.i64 (Prod.fst x) 1, cat (Prod.snd x) [(wsub IntKind.i64 (Prod.fst y) (wrem (wsub IntKind.i64 (Prod.fst y) y_6) (wmul IntKind.i64 2 (wadd IntKind.i64 1 y_1))), Prod.fst (Prod.snd y), Prod.fst (Prod.snd (Prod.snd y)), Prod.fst (Prod.snd (Prod.snd (Prod.snd y))), Prod.snd (Prod.snd (Prod.snd (Prod.snd y))))]))) none))) (mapO Sum.inr (bindO (F_equalBu (Prod.fst y) (Prod.snd x)) fun (y : Bool) => some y))) (0, []))))))) (0, 0, 0, 0, 0)))))))) none) none) none))) (wadd IntKind.i64 0 1, [y_2, y_3, y_4])
theorem F_rainbooklaw_QueryParts_eq (x : PI is_rainbooklaw_QueryParts) : F_rainbooklaw_QueryParts (x.1) (x.2.1) (x.2.2.1) (x.2.2.2.1) (x.2.2.2.2.1) (x.2.2.2.2.2) = fnE T G_rainbooklaw_QueryParts H_rainbooklaw_QueryParts C_rainbooklaw_QueryParts (resOf Try.f24) is_rainbooklaw_QueryParts os_rainbooklaw_QueryParts x := by kernel_rfl
noncomputable abbrev R_rainbooklaw_QueryParts : GS := mkSpec false is_rainbooklaw_QueryParts os_rainbooklaw_QueryParts fun x => F_rainbooklaw_QueryParts (x.1) (x.2.1) (x.2.2.1) (x.2.2.2.1) (x.2.2.2.2.1) (x.2.2.2.2.2)
theorem R_rainbooklaw_QueryParts_ok : GSOK Try.prog 24 R_rainbooklaw_QueryParts := spec_ok tok g_rainbooklaw_QueryParts fmo (Ht := H_rainbooklaw_QueryParts) (fn := Try.f24) (Try.func24) (c := C_rainbooklaw_QueryParts) (by kernel_rfl) (by kernel_rfl) (by kernel_rfl) (by decide +kernel) (by decide) F_rainbooklaw_QueryParts_eq
noncomputable abbrev B_rainbooklaw_QueryParts : GS := mkSpec true is_rainbooklaw_QueryParts os_rainbooklaw_QueryParts fun x => F_rainbooklaw_QueryParts (x.1) (x.2.1) (x.2.2.1) (x.2.2.2.1) (x.2.2.2.2.1) (x.2.2.2.2.2)
theorem B_rainbooklaw_QueryParts_ok : GSOK Try.prog 24 B_rainbooklaw_QueryParts := spec_ok tok g_rainbooklaw_QueryParts fmo (Ht := H_rainbooklaw_QueryParts) (fn := Try.f24) (Try.func24) (c := C_rainbooklaw_QueryParts) (by kernel_rfl) (by kernel_rfl) (by kernel_rfl) (by decide +kernel) (by decide) F_rainbooklaw_QueryParts_eq
end Go.Proofs.Y
namespace Go.Proofs.Y
open Go.Rb Go.Kx
theorem loopS {α β : Type} (n : Nat) (f : β → Option (Sum β α)) (x : β) : loopN (n + 1) f x = stepK (f x) (loopN n f) := by
  rw [loopN_succ]; cases f x with
  | none => rfl
  | some q => cases q <;> rfl
theorem less_eq (a b : Int) : F_cmp_Less_int a b = some (decide (a < b)) := by
  unfold F_cmp_Less_int F_cmp_isNaN_int
  rw [bindO_some, ifB_neI, if_pos rfl]; rfl
noncomputable def insF {α : Type} (i : Int) (x_1 : Int × List Int) : Option (Sum (Int × List Int) (Sum (Int × List Int) α)) :=
  ifB (gtI (Prod.fst x_1) 0)
    (ifB (ltL (Prod.fst x_1) (Prod.snd x_1))
      (bindO (atN (Prod.snd x_1) (natI (Prod.fst x_1))) fun (y : Int) =>
        ifB (ltL (wsub IntKind.i64 (Prod.fst x_1) 1) (Prod.snd x_1))
          (bindO (atN (Prod.snd x_1) (natI (wsub IntKind.i64 (Prod.fst x_1) 1))) fun (y_6 : Int) =>
            bindO (F_cmp_Less_int y y_6) fun (y : Bool) =>
              ifB y
                (ifB (ltL (wsub IntKind.i64 (Prod.fst x_1) 1) (Prod.snd x_1))
                  (bindO (atN (Prod.snd x_1) (natI (wsub IntKind.i64 (Prod.fst x_1) 1))) fun (y : Int) =>
                    ifB (ltL (Prod.fst x_1) (Prod.snd x_1))
                      (bindO (atN (Prod.snd x_1) (natI (Prod.fst x_1))) fun (y_7 : Int) =>
                        ifB (ltL (Prod.fst x_1) (Prod.snd x_1))
                          (bindO (atN (Prod.snd x_1) (natI (Prod.fst x_1))) fun (y_8 : Int) =>
                            ifB (ltL (wsub IntKind.i64 (Prod.fst x_1) 1) (setN (Prod.snd x_1) (natI (Prod.fst x_1)) y))
                              (bindO
                                (atN (setN (Prod.snd x_1) (natI (Prod.fst x_1)) y) (natI (wsub IntKind.i64 (Prod.fst x_1) 1)))
                                fun (y_9 : Int) =>
                                some
                                  (Sum.inl
                                    (wsub IntKind.i64 (Prod.fst x_1) 1,
                                      setN (setN (Prod.snd x_1) (natI (Prod.fst x_1)) y)
                                        (natI (wsub IntKind.i64 (Prod.fst x_1) 1)) y_7)))
                              none)
                          none)
                      none)
                  none)
                (mapO Sum.inr (some (Sum.inl (wadd IntKind.i64 i 1, Prod.snd x_1)))))
          none)
      none)
    (mapO Sum.inr (some (Sum.inl (wadd IntKind.i64 i 1, Prod.snd x_1))))
theorem w21 : wsub .i64 2 1 = 1 := wsub_in ⟨by decide, by decide⟩
theorem w10 : wsub .i64 1 1 = 0 := wsub_in ⟨by decide, by decide⟩
theorem ins_2 {α : Type} (i p q c : Int) : insF (α := α) i (2, [p, q, c]) = if c < q then some (Sum.inl (1, [p, c, q])) else some (Sum.inr (Sum.inl (wadd .i64 i 1, [p, q, c]))) := by
  unfold insF
  simp only [w21]
  show bindO (F_cmp_Less_int c q) (fun y => ifB y (some (Sum.inl (1, [p, c, q]))) (some (Sum.inr (Sum.inl (wadd .i64 i 1, [p, q, c]))))) = _
  rw [less_eq, bindO_some, ifB_dec]
theorem ins_1 {α : Type} (i p q : Int) (c : List Int) : insF (α := α) i (1, p :: q :: c) = if q < p then some (Sum.inl (0, q :: p :: c)) else some (Sum.inr (Sum.inl (wadd .i64 i 1, p :: q :: c))) := by
  have l0 : ∀ p q : Int, ltL 0 (p :: q :: c) = true := fun p q => by simp [ltL]; omega
  have l1 : ∀ p q : Int, ltL 1 (p :: q :: c) = true := fun p q => by simp [ltL]; omega
  have a0 : ∀ p q : Int, atN (p :: q :: c) (natI 0) = some p := fun _ _ => rfl
  have a1 : ∀ p q : Int, atN (p :: q :: c) (natI 1) = some q := fun _ _ => rfl
  have s0 : ∀ p q x : Int, setN (p :: q :: c) (natI 0) x = x :: q :: c := fun _ _ _ => rfl
  have s1 : ∀ p q x : Int, setN (p :: q :: c) (natI 1) x = p :: x :: c := fun _ _ _ => rfl
  have g : gtI 1 0 = true := rfl
  unfold insF
  simp only [w10, l0, l1, a0, a1, s0, s1, g, ifB_t, bindO_some, less_eq, ifB_dec]
  split <;> rfl
theorem ins_0 {α : Type} (i : Int) (l : List Int) : insF (α := α) i (0, l) = some (Sum.inr (Sum.inl (wadd .i64 i 1, l))) := rfl
theorem inner1 {α : Type} (m : Nat) (i p q : Int) (c : List Int) : loopN (m + 2) (insF (α := α) i) (1, p :: q :: c) = if q < p then some (Sum.inl (wadd .i64 i 1, q :: p :: c)) else some (Sum.inl (wadd .i64 i 1, p :: q :: c)) := by
  rw [loopS, ins_1]
  split
  · rw [stepK_inl, loopS, ins_0, stepK_inr]
  · rw [stepK_inr]
theorem inner2 {α : Type} (m : Nat) (i p q c : Int) : loopN (m + 3) (insF (α := α) i) (2, [p, q, c]) = if c < q then (if c < p then some (Sum.inl (wadd .i64 i 1, [c, p, q])) else some (Sum.inl (wadd .i64 i 1, [p, c, q]))) else some (Sum.inl (wadd .i64 i 1, [p, q, c])) := by
  rw [loopS, ins_2]
  split
  · rw [stepK_inl, inner1]
  · rw [stepK_inr]
def sort3 (a b c : Int) : List Int :=
  if b < a then (if c < a then (if c < b then [c, b, a] else [b, c, a]) else [b, a, c])
  else (if c < b then (if c < a then [c, a, b] else [a, c, b]) else [a, b, c])
theorem sort3_gen {α : Type} (n m : Nat) (a b c : Int) (G : Int × List Int → Option α) :
    loopN (n + 3) (fun (x : Int × List Int) => ifB (ltI (Prod.fst x) (lenI [a, b, c])) (loopN (m + 3) (insF (Prod.fst x)) (Prod.fst x, Prod.snd x)) (mapO Sum.inr (G x))) (wadd IntKind.i64 0 1, [a, b, c]) = G (3, sort3 a b c) := by
  have w0 : wadd .i64 0 1 = 1 := wadd_in ⟨by decide, by decide⟩
  have w1 : wadd .i64 1 1 = 2 := wadd_in ⟨by decide, by decide⟩
  have w2 : wadd .i64 2 1 = 3 := wadd_in ⟨by decide, by decide⟩
  have t1 : ltI 1 (lenI [a, b, c]) = true := rfl
  have t2 : ltI 2 (lenI [a, b, c]) = true := rfl
  have t3 : ltI 3 (lenI [a, b, c]) = false := rfl
  have last : ∀ l, loopN (n + 1) (fun (x : Int × List Int) => ifB (ltI (Prod.fst x) (lenI [a, b, c])) (loopN (m + 3) (insF (Prod.fst x)) (Prod.fst x, Prod.snd x)) (mapO Sum.inr (G x))) (3, l) = G (3, l) := fun l => by
    rw [loopS]; simp only [t3, ifB_f, stepK_map]
  have two : ∀ p q, loopN (n + 2) (fun (x : Int × List Int) => ifB (ltI (Prod.fst x) (lenI [a, b, c])) (loopN (m + 3) (insF (Prod.fst x)) (Prod.fst x, Prod.snd x)) (mapO Sum.inr (G x))) (2, [p, q, c]) = if c < q then (if c < p then G (3, [c, p, q]) else G (3, [p, c, q])) else G (3, [p, q, c]) := fun p q => by
    rw [loopS]
    simp only [t2, ifB_t, inner2, w2]
    split
    · split
      · rw [stepK_inl, last]
      · rw [stepK_inl, last]
    · rw [stepK_inl, last]
  rw [w0, loopS]
  simp only [t1, ifB_t, inner1, w1]
  unfold sort3
  by_cases h : b < a
  · rw [if_pos h, if_pos h, stepK_inl, two]
    split
    · split <;> rfl
    · rfl
  · rw [if_neg h, if_neg h, stepK_inl, two]
    split
    · split <;> rfl
    · rfl
theorem sort3_max {α : Type} (a b c : Int) (G : Int × List Int → Option α) :
    loopN maxR (fun (x : Int × List Int) => ifB (ltI (Prod.fst x) (lenI [a, b, c])) (loopN maxR (insF (Prod.fst x)) (Prod.fst x, Prod.snd x)) (mapO Sum.inr (G x))) (wadd IntKind.i64 0 1, [a, b, c]) = G (3, sort3 a b c) :=
  sort3_gen 9223372036854775805 9223372036854775805 a b c G
theorem sort3_spec {a b c : Int} {Q : Int → Prop} (ha : Q a) (hb : Q b) (hc : Q c) : ∃ x y z, sort3 a b c = [x, y, z] ∧ x ≤ y ∧ y ≤ z ∧ Q x ∧ Q y ∧ Q z := by
  unfold sort3
  split
  · split
    · split
      · exact ⟨_, _, _, rfl, by omega, by omega, hc, hb, ha⟩
      · exact ⟨_, _, _, rfl, by omega, by omega, hb, hc, ha⟩
    · exact ⟨_, _, _, rfl, by omega, by omega, hb, ha, hc⟩
  · split
    · split
      · exact ⟨_, _, _, rfl, by omega, by omega, hc, ha, hb⟩
      · exact ⟨_, _, _, rfl, by omega, by omega, ha, hc, hb⟩
    · exact ⟨_, _, _, rfl, by omega, by omega, ha, hb, hc⟩
end Go.Proofs.Y
namespace Go.Proofs.Y
open Go.Rb Go.Kx
theorem len_3 : F_math_bits_Len 3 = some 2 := by decide +kernel
theorem pw_get {α : Type} [Inhabited α] {R : α → α → Prop} {l : List α} (h : l.Pairwise R) {i j : Nat} (hij : i < j) (hj : j < l.length) : R (l.getD i default) (l.getD j default) := by
  have := List.pairwise_iff_getElem.1 h i j (by omega) hj hij
  simpa [List.getD, List.getElem?_eq_getElem hj, List.getElem?_eq_getElem (show i < l.length by omega)] using this
theorem eqSm_dec (x y : Sm) : eqL [x.1, x.2.1, x.2.2.1, x.2.2.2] [y.1, y.2.1, y.2.2.1, y.2.2.2] = decide (x = y) := by
  obtain ⟨a, b, c, d⟩ := x; obtain ⟨a', b', c', d'⟩ := y
  unfold eqL; exact decide_eq_decide.2 (by simp)
theorem lenPredB {l : List Buc} (h : l.length < 4611686018427387904) : wsub .i64 (lenI l) 1 = (l.length : Int) - 1 := by rw [lenI_eq, wsub_in ⟨by omega, by omega⟩]
theorem wholeB_take {out : List Buc} {j : Nat} (h : j < out.length) : wholeB (out.take (j + 1)) = joinF (wholeB (out.take j)) (out.getD j default).2 := by
  rw [take_next h, wholeB_snoc]
theorem jks_take (c e : Int) {out : List Buc} {j : Nat} (h : j < out.length) : jks c e (out.take (j + 1)) = jstep c e (jks c e (out.take j)) (out.getD j default) := by
  rw [take_next h, jks_snoc]
theorem jks_len (c e : Int) : ∀ out : List Buc, (jks c e out).length ≤ out.length := by
  refine snoc_ind (by simp [jks]) fun l x ih => ?_
  rw [jks_snoc, List.length_append, List.length_singleton]
  unfold jstep
  split
  · simp; omega
  · simp; omega
theorem queryParts_eq (s : Shf) (i c d e f : Int) (hs : okS s) : F_rainbooklaw_QueryParts s i c d e f = some true := by
  unfold F_rainbooklaw_QueryParts
  have e1 := Int.emod_nonneg c (show (100002 : Int) ≠ 0 by omega)
  have e2 := Int.emod_lt_of_pos c (show (0 : Int) < 100002 by omega)
  have e3 := Int.emod_nonneg d (show (100002 : Int) ≠ 0 by omega)
  have e4 := Int.emod_lt_of_pos d (show (0 : Int) < 100002 by omega)
  have e5 := Int.emod_nonneg e (show (100002 : Int) ≠ 0 by omega)
  have e6 := Int.emod_lt_of_pos e (show (0 : Int) < 100002 by omega)
  have e7 := Int.emod_nonneg f (show (100001 : Int) ≠ 0 by omega)
  have e8 := Int.emod_lt_of_pos f (show (0 : Int) < 100001 by omega)
  rw [at_eq _ _ (by omega) (by omega), bindO_some, at_eq _ _ (by omega) (by omega), bindO_some, at_eq _ _ (by omega) (by omega), bindO_some, at_eq _ _ (by omega) (by omega), bindO_some, at_eq _ _ (by omega) (by omega), bindO_some]
  generalize i % 4 = i
  generalize c % 100002 = c at *
  generalize d % 100002 = d at *
  generalize e % 100002 = e at *
  generalize f % 100001 = f at *
  rw [show F_math_bits_Len (wconv .u64 (lenI [c, d, e])) = some 2 from len_3, bindO_some]
  refine (sort3_max c d e _).trans ?_
  obtain ⟨x, y, z, hso, hxy, hyz, ⟨hx0, hx1⟩, ⟨hy0, hy1⟩, ⟨hz0, hz1⟩⟩ := sort3_spec (a := c) (b := d) (c := e) (Q := fun n => 0 ≤ n ∧ n < 100002) ⟨e1, e2⟩ ⟨e3, e4⟩ ⟨e5, e6⟩
  simp only [hso]
  rw [show ltL 0 [x, y, z] = true from rfl, ifB_t, show atN [x, y, z] (natI 0) = some x from rfl, bindO_some, show ltL 1 [x, y, z] = true from rfl, ifB_t, show atN [x, y, z] (natI 1) = some y from rfl, bindO_some, show ltL 2 [x, y, z] = true from rfl, ifB_t, show atN [x, y, z] (natI 2) = some z from rfl, bindO_some]
  have hw : wadd .i64 1 f = 1 + f := wadd_in ⟨by omega, by omega⟩
  have hw2 : wmul .i64 2 (1 + f) = 2 * (1 + f) := wmul_in ⟨by omega, by omega⟩
  simp only [range_eq _ _ _ _ hs, buckets_eq _ _ _ _ _ hs, asked_eq, bindO_some, ifB_not, ifB_t, hw, hw2]
  generalize hwf : 1 + f = w at *
  rw [ifB_neI]
  by_cases h0 : (allS s i).2 = 0
  · obtain ⟨_, _, _, _, hk⟩ := allS_ok h0
    have hall := checkL_all hk
    have hrise := checkL_rise hk
    have hlen := checkL_len hk
    simp only [if_pos h0, if_true]
    generalize (allS s i).1 = l at *
    have hl1 := range_len l x y
    have hl2 := range_len l y z
    have hl3 := range_len l x z
    rw [ifB_neI, if_pos rfl, ifB_neI, if_pos rfl, concatP_eq (by simp) (by rw [flatten2, List.length_append]; omega), bindO_some, flatten2, ← rise_split hrise hxy hyz, equalP_eq (by omega), bindO_some, ifB_dec, if_pos rfl]
    have hb1 : buckR l x z w = if 200 < (z - x + w - 1) / w then ([], 2) else (bks x w (rangeR l x z), 0) := by
      unfold buckR; rw [if_neg (by omega)]
    have hb2 : 2 * w ≤ 100001 → buckR l x z (2 * w) = if 200 < (z - x + 2 * w - 1) / (2 * w) then ([], 2) else (bks x (2 * w) (rangeR l x z), 0) := by
      intro h; unfold buckR; rw [if_neg (by omega)]
    rw [hb1, ifB_neI]
    by_cases h200 : 200 < (z - x + w - 1) / w
    · rw [if_pos h200, if_neg (by decide)]; rfl
    · simp only [if_neg h200, if_true]
      have hr : Rise (rangeR l x z) := range_rise hrise x z
      have hrm : ∀ p ∈ rangeR l x z, x ≤ p.1 ∧ p.1 < z := fun p hp => (range_mem hp).2
      generalize rangeR l x z = r at *
      have hpos := bks_pos x w r (by omega)
      have hri := bks_rise (c := x) (e := w) (by omega) r hr
      have hsrc := bks_src x w r
      have hwh := wholeB_bks x w r (by omega)
      have hjj := jks_bks (c := x) (e := w) (by omega) r (by omega)
      have hnl := bks_len x w r []
      rw [show r.foldl (bstep x w) [] = bks x w r from rfl, List.length_nil, Nat.zero_add] at hnl
      generalize bks x w r = out at *
      have hst : ∀ b ∈ out, x ≤ b.1 ∧ b.1 ≤ 100001 ∧ (b.1 - x) % w = 0 := fun b hb => by
        obtain ⟨q, hq, h⟩ := hsrc b hb
        have hq1 := hrm q hq
        have h1 := Int.emod_nonneg (q.1 - x) (show w ≠ 0 by omega)
        have h2 := start_mul x w q
        have h3 : 0 ≤ w * ((q.1 - x) / w) := Int.mul_nonneg (by omega) (Int.ediv_nonneg (by omega) (by omega))
        refine ⟨by rw [h, h2]; omega, by rw [h]; unfold startB; omega, ?_⟩
        rw [h, h2, show x + w * ((q.1 - x) / w) - x = w * ((q.1 - x) / w) by omega]
        exact Int.mul_emod_right _ _
      refine loop_range out (fun j (S : Sm) => ((j : Int), S.1, S.2.1, S.2.2.1, S.2.2.2)) (G := fun _ _ => some true) (P := fun j S => S = wholeB (out.take j)) ?_ ?_ (s0 := (0, 0, 0, 0)) rfl (by omega)
      · rintro j S hj hS k hkk
        have hm := getD_mem hj
        have hb := hst _ hm
        have hp := hpos.1 _ hm
        have hat := atI_nat hj
        have hnx := wholeB_take hj
        have hprev : ∀ (_ : 0 < j), atI out (wsub .i64 (j : Int) 1) = some (out.getD (j - 1) default) ∧ (out.getD (j - 1) default).1 < (out.getD j default).1 := fun h => by
          refine ⟨?_, pw_get hri (by omega) hj⟩
          rw [show wsub .i64 (j : Int) 1 = ((j - 1 : Nat) : Int) by rw [wsub_in ⟨by omega, by omega⟩]; omega]
          exact atI_nat (by omega)
        generalize out.getD j default = b at *
        have hrem : wrem (wsub .i64 b.1 x) w = 0 := by
          rw [wsub_in ⟨by omega, by omega⟩]
          show Int.tmod _ _ = 0
          rw [Int.tmod_eq_emod_of_nonneg (by omega)]; exact hb.2.2
        have hfin : k (wadd .i64 (j : Int) 1, (joinF S b.2).1, (joinF S b.2).2.1, (joinF S b.2).2.2.1, (joinF S b.2).2.2.2) = some true := by
          rw [wadd_nat (by omega)]
          exact hkk (joinF S b.2) (by rw [hnx, hS])
        simp only [stepK_ifB, stepK_bind, stepK_map, stepK_none, stepK_inl, join_eq, bindO_some, hrem]
        rw [ifB_ltI, lenI_eq, if_pos (by omega), hat, bindO_some, ifB_ltI, if_neg (by omega), ifB_gtI]
        have hz0 : ∀ X : Option Bool, ifB (eqI w 0) none X = X := fun X => by rw [ifB_eqI, if_neg (by omega)]
        have hz1 : ∀ X Y : Option Bool, ifB (neI 0 0) X Y = Y := fun X Y => by rw [ifB_neI, if_pos rfl]
        simp only [hrem, hz0, hz1]
        by_cases h0 : 0 < j
        · obtain ⟨g1, g2⟩ := hprev h0
          rw [if_pos (by omega), g1, bindO_some, ifB_geI, if_neg (by omega)]
          exact hfin
        · rw [if_neg (by omega)]
          exact hfin
      · rintro S hS k
        rw [List.take_length] at hS
        subst hS
        have hof := of_eq r (by omega)
        simp only [stepK_ifB, stepK_bind, stepK_map, stepK_none, stepK_inl]
        rw [ifB_ltI, lenI_eq, if_neg (by omega), hof, bindO_some, eqSm_dec, hwh, ifB_dec, if_pos rfl, ifB_gtI]
        by_cases hbig : 100001 < 2 * w
        · rw [if_pos hbig]
        · rw [if_neg hbig, hb2 (by omega), if_neg (by
            intro h
            have h1 : (z - x + 2 * w - 1) / (2 * w) ≤ 200 := ceil_le (n := 200) (by omega) (by
              have h3 : z - x ≤ 200 * w := by
                have h4 := Int.emod_add_mul_ediv (z - x + w - 1) w
                have h5 := Int.emod_lt_of_pos (z - x + w - 1) (show 0 < w by omega)
                have h6 : w * ((z - x + w - 1) / w) ≤ w * 200 := Int.mul_le_mul_of_nonneg_left (by omega) (by omega)
                omega
              show z - x ≤ ((200 : Nat) : Int) * (2 * w)
              omega)
            omega)]
          simp only
          rw [ifB_neI, if_pos rfl]
          refine loop_range out (fun j (o : List Buc) => ((j : Int), o)) (G := fun _ _ => some true) (P := fun j o => o = jks x (2 * w) (out.take j)) ?_ ?_ (s0 := []) rfl (by omega)
          · rintro j o hj ho k hkk
            have hm := getD_mem hj
            have hb := hst _ hm
            have hat := atI_nat hj
            have hnx := jks_take x (2 * w) hj
            have hol := jks_len x (2 * w) (out.take j)
            rw [← ho, List.length_take] at hol
            generalize out.getD j default = b at *
            have hrem : wsub .i64 b.1 (wrem (wsub .i64 b.1 x) (2 * w)) = b.1 - (b.1 - x) % (2 * w) := by
              have h1 := Int.emod_nonneg (b.1 - x) (show 2 * w ≠ 0 by omega)
              have h2 := Int.emod_lt_of_pos (b.1 - x) (show 0 < 2 * w by omega)
              have h3 : wrem (b.1 - x) (2 * w) = (b.1 - x) % (2 * w) := Int.tmod_eq_emod_of_nonneg (by omega)
              rw [wsub_in (a := b.1) (b := x) ⟨by omega, by omega⟩, h3, wsub_in ⟨by omega, by omega⟩]
            have hz0 : ∀ X : Option Bool, ifB (eqI (2 * w) 0) none X = X := fun X => by rw [ifB_eqI, if_neg (by omega)]
            have hlp : wsub .i64 (o.length : Int) 1 = (o.length : Int) - 1 := wsub_in ⟨by omega, by omega⟩
            simp only [stepK_ifB, stepK_bind, stepK_map, stepK_none, stepK_inl, join_eq, bindO_some, lenI_eq, hlp]
            rw [ifB_ltI, if_pos (by omega), hat, bindO_some]
            simp only [hrem, hz0]
            rw [ifB_geI]
            have hfin : ∀ o', o' = jstep x (2 * w) o b → k (wadd .i64 (j : Int) 1, o') = some true := fun o' ho' => by
              rw [wadd_nat (by omega)]
              exact hkk o' (by rw [hnx, ← ho]; exact ho')
            have hroom : ∀ X : Option Bool, ifB (roomA 40 o [(b.1 - (b.1 - x) % (2 * w), b.2.1, b.2.2.1, b.2.2.2.1, b.2.2.2.2)]) X none = X := fun X => by
              rw [ifB_roomA, if_pos]
              simp only [List.length_cons, List.length_nil]; omega
            by_cases ho0 : o.length = 0
            · rw [if_neg (by omega), hroom]
              refine hfin _ ?_
              unfold jstep; rw [if_pos (.inl ho0)]; rfl
            · have hlt : ∀ X : Option Bool, ifB (ltL ((o.length : Int) - 1) o) X none = X := fun X => by rw [ifB_ltL, if_pos ⟨by omega, by omega⟩]
              have hn : natI ((o.length : Int) - 1) = o.length - 1 := by rw [natI_eq]; omega
              rw [if_pos (by omega), hlt, hn, atN_nat (by omega), bindO_some, ifB_eqI, hlt, bindO_some, hlt, bindO_some, hroom]
              by_cases hq : (o.getD (o.length - 1) default).1 = b.1 - (b.1 - x) % (2 * w)
              · rw [if_pos hq]
                refine hfin _ ?_
                unfold jstep; rw [if_neg (by simp only [not_or, Classical.not_not]; exact ⟨ho0, hq⟩)]; rfl
              · rw [if_neg hq]
                refine hfin _ ?_
                unfold jstep; rw [if_pos (.inr hq)]; rfl
          · rintro o ho k
            rw [List.take_length, hjj] at ho
            have hbl := bks_len x (2 * w) r []
            rw [show r.foldl (bstep x (2 * w)) [] = bks x (2 * w) r from rfl, List.length_nil, Nat.zero_add] at hbl
            simp only [stepK_ifB, stepK_bind, stepK_map, stepK_none, stepK_inl]
            rw [ifB_ltI, lenI_eq, if_neg (by omega), equalBu_eq (by omega), bindO_some, ho]
            simp
  · simp only [if_neg h0]
end Go.Proofs.Y
