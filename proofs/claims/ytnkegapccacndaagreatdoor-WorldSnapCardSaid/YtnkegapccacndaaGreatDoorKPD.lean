/-
  What is proved, part by part: what note.Parse comes to. what disk.lines comes to. what disk.Check comes to. what disk.Crash comes to. what note.Print comes to. what disk.Put comes to. what disk.Recover comes to. what slices.Equal[[]byte,byte] comes to. what disk.Same comes to. what disk.Sync comes to. texts as words between one and the same byte; numerals read back. a record as a text, and read back, as plain functions; the one undoes the other. a disk's text as lines of records, as plain functions; whole lines are read back, a torn one is left. records checked, printed, read back by the program: what its functions come to, in plain words. a text read by the program, and the law of notes: what its functions come to, in plain words. disks: what the program's functions come to, in plain words. what a disk keeps: the law's function is always true, in plain words. what world.Check comes to. what shelf.Copy comes to. what slices.Clone[[]int,int] comes to. what world.Copy comes to. what math/bits.Mul32 comes to. what math/bits.Mul64 comes to. what math/bits.Mul comes to. what slices.Repeat[[]int,int] comes to. what world.closed comes to. what world.New comes to. worlds: checked and copied: what the program's functions come to, in plain words. what world.write comes to. what world.happen comes to. what world.Do comes to. Conditions: none.
-/
import Derived.Test.YtnkegapccacndaaGreatDoorKPA
import Derived.Test.YtnkegapccacndaaGreatDoorKPC
import Derived.Test.YtnkegapccacndaaGreatDoorKPB
import Derived.Lib.CountLaws
import Derived.Lib.AtoiAllCases
import Derived.Lib.ParseIntBTie
import Derived.Lib.ItoaMem
import Derived.Lib.ItoaLen
import Derived.Lib.Split
import Derived.Lib.IndexBytes
set_option linter.unusedVariables false
set_option linter.unusedSimpArgs false
set_option linter.unnecessarySimpa false
set_option maxRecDepth 4000
namespace Go.Proofs.Y
open Go.Rb Go.Kx
noncomputable def C_note_Parse : Code := bodyOf Tryz.f123
noncomputable def G_note_Parse : FuncId → Option GS := tabG [(150, R_split), (119, R_note_words), (151, R_indexS), (152, R_atoi), (120, R_itoa), (79, R_note_Check)]
theorem g_note_Parse : ΓOK Tryz.prog G_note_Parse := ΓOK_cons (R_split_ok) (ΓOK_cons (R_note_words_ok) (ΓOK_cons (R_indexS_ok) (ΓOK_cons (R_atoi_ok) (ΓOK_cons (R_itoa_ok) (ΓOK_cons (R_note_Check_ok) (ΓOK_nil))))))
def H_note_Parse : HT := ⟨tabL [(7, .it [] (dyn [.a 6 3 (.one (.int .i64)), .t 28 (.int .i64), .c 2 0 (.int .i64), .c 2 1 (.int .i64), .c 2 2 (.int .i64), .c 2 3 (.sl 77 (.cons (.int .i64) (.cons (.int .i64) (.one (.int .i64)))))])), (17, .it [] (dyn [.t 11 (.int .i64), .b 5 3 77 (.cons (.int .i64) (.cons (.int .i64) (.one (.int .i64))))]))], tabH []⟩
abbrev is_note_Parse : List IT := [.v (.one .str) false]
abbrev os_note_Parse : List OT := [⟨.cons (.int .i64) (.cons (.int .i64) (.cons (.int .i64) (.one (.sl 77 (.cons (.int .i64) (.cons (.int .i64) (.one (.int .i64)))))))), true, []⟩, ⟨.one (.int .i64), false, []⟩]
set_option maxRecDepth 100000
noncomputable def F_note_Parse : List UInt8 → Option ((Int × Int × Int × List (Int × Int × Int)) × Int) := fun (a : List UInt8) => ifB (gtI (lenI a) 60000) (some ((0, 0, 0, []), 2)) (bindO (splitO a [32]) fun (y : List (List UInt8)) => bindO F_note_words fun (y_1 : List (List UInt8)) => bindO (atI y 0) fun (y_2 : List UInt8) => bindO (F_indexS y_1 y_2) fun (y_3 : Int) => ifB (in1 y 1) (loopN maxR (fun (x : Int × Int × Int × Int × List (Int × Int × Int) × List Int) => ifB (ltI x.1 (lenI (dropI y 1))) (bindO (atI (dropI y 1) x.1) fun (y : List UInt8) => bindO (atoiO y) fun (y_4 : Int × Bool) => ifB y_4.2 (mapO Sum.inr (some ((0, 0, 0, []), 1))) (bindO (itoaO y_4.1) fun (y_5 : List UInt8) => ifB (notB (eqS y_5 y)) (mapO Sum.inr (some ((0, 0, 0, []), 1))) (ifB (roomA 8 x.2.2.2.2.2 [y_4.1]) (some (Sum.inl (wadd .i64 x.1 1, x.2.1, x.2.2.1, x.2.2.2.1, x.2.2.2.2.1, cat x.2.2.2.2.2 [y_4.1]))) none))) (mapO Sum.inr (ifB (eqI y_3 1) (ifB (eqI (wrem (lenI x.2.2.2.2.2) 3) 0) (loopN maxR (fun (x_1 : Int × List (Int × Int × Int)) => ifB (ltI x_1.1 (lenI x.2.2.2.2.2)) (ifB (ltL x_1.1 x.2.2.2.2.2) (bindO (atN x.2.2.2.2.2 (natI x_1.1)) fun (y : Int) => ifB (ltL (wadd .i64 x_1.1 1) x.2.2.2.2.2) (bindO (atN x.2.2.2.2.2 (natI (wadd .i64 x_1.1 1))) fun (y_4 : Int) => ifB (ltL (wadd .i64 x_1.1 2) x.2.2.2.2.2) (bindO (atN x.2.2.2.2.2 (natI (wadd .i64 x_1.1 2))) fun (y_5 : Int) => ifB (roomA 24 x_1.2 [(y, y_4, y_5)]) (some (Sum.inl (wadd .i64 x_1.1 3, cat x_1.2 [(y, y_4, y_5)]))) none) none) none) none) (mapO Sum.inr (bindO (F_note_Check (y_3, 0, 0, x_1.2)) fun (y : Int) => ifB (neI y 0) (some ((0, 0, 0, []), y)) (some ((y_3, 0, 0, x_1.2), 0))))) (0, [])) (ifB (eqI y_3 2) (ifB (eqI (lenI x.2.2.2.2.2) 2) (ifB (ltL 0 x.2.2.2.2.2) (bindO (atN x.2.2.2.2.2 (natI 0)) fun (y : Int) => ifB (ltL 1 x.2.2.2.2.2) (bindO (atN x.2.2.2.2.2 (natI 1)) fun (y_4 : Int) => bindO (F_note_Check (y_3, y, y_4, [])) fun (y_5 : Int) => ifB (neI y_5 0) (some ((0, 0, 0, []), y_5)) (some ((y_3, y, y_4, []), 0))) none) none) (ifB (eqI y_3 4) (ifB (eqI (lenI x.2.2.2.2.2) 1) (ifB (ltL 0 x.2.2.2.2.2) (bindO (atN x.2.2.2.2.2 (natI 0)) fun (y : Int) => bindO (F_note_Check (y_3, 0, y, [])) fun (y_4 : Int) => ifB (neI y_4 0) (some ((0, 0, 0, []), y_4)) (some ((y_3, 0, y, []), 0))) none) (some ((0, 0, 0, []), 1))) (some ((0, 0, 0, []), 1)))) (ifB (eqI y_3 3) (ifB (eqI (lenI x.2.2.2.2.2) 2) (ifB (ltL 0 x.2.2.2.2.2) (bindO (atN x.2.2.2.2.2 (natI 0)) fun (y : Int) => ifB (ltL 1 x.2.2.2.2.2) (bindO (atN x.2.2.2.2.2 (natI 1)) fun (y_4 : Int) => bindO (F_note_Check (y_3, y, y_4, [])) fun (y_5 : Int) => ifB (neI y_5 0) (some ((0, 0, 0, []), y_5)) (some ((y_3, y, y_4, []), 0))) none) none) (ifB (eqI y_3 4) (ifB (eqI (lenI x.2.2.2.2.2) 1) (ifB (ltL 0 x.2.2.2.2.2) (bindO (atN x.2.2.2.2.2 (natI 0)) fun (y : Int) => bindO (F_note_Check (y_3, 0, y, [])) fun (y_4 : Int) => ifB (neI y_4 0) (some ((0, 0, 0, []), y_4)) (some ((y_3, 0, y, []), 0))) none) (some ((0, 0, 0, []), 1))) (some ((0, 0, 0, []), 1)))) (ifB (eqI y_3 4) (ifB (eqI (lenI x.2.2.2.2.2) 1) (ifB (ltL 0 x.2.2.2.2.2) (bindO (atN x.2.2.2.2.2 (natI 0)) fun (y : Int) => bindO (F_note_Check (y_3, 0, y, [])) fun (y_4 : Int) => ifB (neI y_4 0) (some ((0, 0, 0, []), y_4)) (some ((y_3, 0, y, []), 0))) none) (some ((0, 0, 0, []), 1))) (some ((0, 0, 0, []), 1)))))) (ifB (eqI y_3 2) (ifB (eqI (lenI x.2.2.2.2.2) 2) (ifB (ltL 0 x.2.2.2.2.2) (bindO (atN x.2.2.2.2.2 (natI 0)) fun (y : Int) => ifB (ltL 1 x.2.2.2.2.2) (bindO (atN x.2.2.2.2.2 (natI 1)) fun (y_4 : Int) => bindO (F_note_Check (y_3, y, y_4, [])) fun (y_5 : Int) => ifB (neI y_5 0) (some ((0, 0, 0, []), y_5)) (some ((y_3, y, y_4, []), 0))) none) none) (ifB (eqI y_3 4) (ifB (eqI (lenI x.2.2.2.2.2) 1) (ifB (ltL 0 x.2.2.2.2.2) (bindO (atN x.2.2.2.2.2 (natI 0)) fun (y : Int) => bindO (F_note_Check (y_3, 0, y, [])) fun (y_4 : Int) => ifB (neI y_4 0) (some ((0, 0, 0, []), y_4)) (some ((y_3, 0, y, []), 0))) none) (some ((0, 0, 0, []), 1))) (some ((0, 0, 0, []), 1)))) (ifB (eqI y_3 3) (ifB (eqI (lenI x.2.2.2.2.2) 2) (ifB (ltL 0 x.2.2.2.2.2) (bindO (atN x.2.2.2.2.2 (natI 0)) fun (y : Int) => ifB (ltL 1 x.2.2.2.2.2) (bindO (atN x.2.2.2.2.2 (natI 1)) fun (y_4 : Int) => bindO (F_note_Check (y_3, y, y_4, [])) fun (y_5 : Int) => ifB (neI y_5 0) (some ((0, 0, 0, []), y_5)) (some ((y_3, y, y_4, []), 0))) none) none) (ifB (eqI y_3 4) (ifB (eqI (lenI x.2.2.2.2.2) 1) (ifB (ltL 0 x.2.2.2.2.2) (bindO (atN x.2.2.2.2.2 (natI 0)) fun (y : Int) => bindO (F_note_Check (y_3, 0, y, [])) fun (y_4 : Int) => ifB (neI y_4 0) (some ((0, 0, 0, []), y_4)) (some ((y_3, 0, y, []), 0))) none) (some ((0, 0, 0, []), 1))) (some ((0, 0, 0, []), 1)))) (ifB (eqI y_3 4) (ifB (eqI (lenI x.2.2.2.2.2) 1) (ifB (ltL 0 x.2.2.2.2.2) (bindO (atN x.2.2.2.2.2 (natI 0)) fun (y : Int) => bindO (F_note_Check (y_3, 0, y, [])) fun (y_4 : Int) => ifB (neI y_4 0) (some ((0, 0, 0, []), y_4)) (some ((y_3, 0, y, []), 0))) none) (some ((0, 0, 0, []), 1))) (some ((0, 0, 0, []), 1)))))))) (0, 0, 0, 0, [], [])) none)
theorem F_note_Parse_eq (x : PI is_note_Parse) : F_note_Parse x = fnE T G_note_Parse H_note_Parse C_note_Parse (resOf Tryz.f123) is_note_Parse os_note_Parse x := by kernel_rfl
noncomputable abbrev R_note_Parse : GS := mkSpec false is_note_Parse os_note_Parse fun x => F_note_Parse x
theorem R_note_Parse_ok : GSOK Tryz.prog 123 R_note_Parse := spec_ok tok g_note_Parse fmo (Ht := H_note_Parse) (fn := Tryz.f123) (Tryz.func123) (c := C_note_Parse) (by kernel_rfl) (by kernel_rfl) (by kernel_rfl) (by decide +kernel) (by decide) F_note_Parse_eq
end Go.Proofs.Y
namespace Go.Proofs.Y
open Go.Rb Go.Kx
noncomputable def C_disk_lines : Code := bodyOf Tryz.f88
noncomputable def G_disk_lines : FuncId → Option GS := tabG [(122, R_cut), (123, R_note_Parse)]
theorem g_disk_lines : ΓOK Tryz.prog G_disk_lines := ΓOK_cons (R_cut_ok) (ΓOK_cons (R_note_Parse_ok) (ΓOK_nil))
def H_disk_lines : HT := ⟨tabL [(3, .it [] (dyn [.t 0 (.str), .a 7 52 (.cons (.int .i64) (.cons (.int .i64) (.cons (.int .i64) (.one (.sl 77 (.cons (.int .i64) (.cons (.int .i64) (.one (.int .i64)))))))))]))], tabH []⟩
abbrev is_disk_lines : List IT := [.v (.one .str) false, .v (.one (.int .i64)) false]
abbrev os_disk_lines : List OT := [⟨.one (.sl 52 (.cons (.int .i64) (.cons (.int .i64) (.cons (.int .i64) (.one (.sl 77 (.cons (.int .i64) (.cons (.int .i64) (.one (.int .i64)))))))))), false, [true]⟩, ⟨.one (.int .i64), false, []⟩, ⟨.one (.int .i64), false, []⟩]
set_option maxRecDepth 100000
noncomputable def F_disk_lines : List UInt8 → Int → Option (List (Int × Int × Int × List (Int × Int × Int)) × Int × Int) := fun (a : List UInt8) (b : Int) => loopN maxR (fun (x : List UInt8 × List (Int × Int × Int × List (Int × Int × Int))) => ifB (notB (eqS x.1 [])) (bindO (cutO x.1 [10]) fun (y : List UInt8 × List UInt8 × Bool) => ifB (notB y.2.2) (mapO Sum.inr (some (x.2, wsub .i64 (lenI a) (lenI x.1), 8))) (bindO (F_note_Parse y.1) fun (y_1 : (Int × Int × Int × List (Int × Int × Int)) × Int) => ifB (neI y_1.2 0) (mapO Sum.inr (some (x.2, wsub .i64 (lenI a) (lenI x.1), y_1.2))) (ifB (eqI (lenI x.2) b) (mapO Sum.inr (some (x.2, wsub .i64 (lenI a) (lenI x.1), 2))) (ifB (roomA 48 x.2 [(y_1.1.1, y_1.1.2.1, y_1.1.2.2.1, y_1.1.2.2.2)]) (some (Sum.inl (y.2.1, cat x.2 [(y_1.1.1, y_1.1.2.1, y_1.1.2.2.1, y_1.1.2.2.2)]))) none)))) (mapO Sum.inr (some (x.2, lenI a, 0)))) (a, [])
theorem F_disk_lines_eq (x : PI is_disk_lines) : F_disk_lines (x.1) (x.2) = fnE T G_disk_lines H_disk_lines C_disk_lines (resOf Tryz.f88) is_disk_lines os_disk_lines x := by kernel_rfl
noncomputable abbrev R_disk_lines : GS := mkSpec false is_disk_lines os_disk_lines fun x => F_disk_lines (x.1) (x.2)
theorem R_disk_lines_ok : GSOK Tryz.prog 88 R_disk_lines := spec_ok tok g_disk_lines fmo (Ht := H_disk_lines) (fn := Tryz.f88) (Tryz.func88) (c := C_disk_lines) (by kernel_rfl) (by kernel_rfl) (by kernel_rfl) (by decide +kernel) (by decide) F_disk_lines_eq
end Go.Proofs.Y
namespace Go.Proofs.Y
open Go.Rb Go.Kx
noncomputable def C_disk_Check : Code := bodyOf Tryz.f84
noncomputable def G_disk_Check : FuncId → Option GS := tabG [(88, R_disk_lines)]
theorem g_disk_Check : ΓOK Tryz.prog G_disk_Check := ΓOK_cons (R_disk_lines_ok) (ΓOK_nil)
def H_disk_Check : HT := ⟨tabL [], tabH []⟩
abbrev is_disk_Check : List IT := [.v (.cons (.sl 5 (.one (.int .u8))) (.one (.sl 5 (.one (.int .u8))))) true]
abbrev os_disk_Check : List OT := [⟨.one (.int .i64), false, []⟩]
set_option maxRecDepth 100000
noncomputable def F_disk_Check : List Int × List Int → Option Int := fun (a : List Int × List Int) => ifB (gtI (lenI a.1) 60000) (some 2) (ifB (gtI (lenI a.2) (wsub .i64 60000 (lenI a.1))) (some 2) (bindO (F_disk_lines (strB a.1) 60) fun (y : List (Int × Int × Int × List (Int × Int × Int)) × Int × Int) => some y.2.2))
theorem F_disk_Check_eq (x : PI is_disk_Check) : F_disk_Check x = fnE T G_disk_Check H_disk_Check C_disk_Check (resOf Tryz.f84) is_disk_Check os_disk_Check x := by kernel_rfl
noncomputable abbrev R_disk_Check : GS := mkSpec false is_disk_Check os_disk_Check fun x => F_disk_Check x
theorem R_disk_Check_ok : GSOK Tryz.prog 84 R_disk_Check := spec_ok tok g_disk_Check fmo (Ht := H_disk_Check) (fn := Tryz.f84) (Tryz.func84) (c := C_disk_Check) (by kernel_rfl) (by kernel_rfl) (by kernel_rfl) (by decide +kernel) (by decide) F_disk_Check_eq
end Go.Proofs.Y
namespace Go.Proofs.Y
open Go.Rb Go.Kx
noncomputable def C_disk_Crash : Code := bodyOf Tryz.f141
noncomputable def G_disk_Crash : FuncId → Option GS := tabG [(84, R_disk_Check), (86, R_cloneBy)]
theorem g_disk_Crash : ΓOK Tryz.prog G_disk_Crash := ΓOK_cons (R_disk_Check_ok) (ΓOK_cons (R_cloneBy_ok) (ΓOK_nil))
def H_disk_Crash : HT := ⟨tabL [], tabH []⟩
abbrev is_disk_Crash : List IT := [.v (.cons (.sl 5 (.one (.int .u8))) (.one (.sl 5 (.one (.int .u8))))) true, .v (.one (.int .i64)) false]
abbrev os_disk_Crash : List OT := [⟨.cons (.sl 5 (.one (.int .u8))) (.one (.sl 5 (.one (.int .u8)))), true, []⟩, ⟨.one (.int .i64), false, []⟩]
set_option maxRecDepth 100000
noncomputable def F_disk_Crash : List Int × List Int → Int → Option ((List Int × List Int) × Int) := fun (a : List Int × List Int) (b : Int) => bindO (F_disk_Check (a.1, a.2)) fun (y : Int) => ifB (neI y 0) (some (([], []), y)) (ifB (ltI b 0) (some (([], []), 3)) (ifB (gtI b (lenI a.2)) (some (([], []), 3)) (bindO (F_cloneBy a.1) fun (y : List Int) => ifB (in1 a.2 b) (bindO (F_cloneBy (takeI a.2 b)) fun (y_1 : List Int) => some ((y, y_1), 0)) none)))
theorem F_disk_Crash_eq (x : PI is_disk_Crash) : F_disk_Crash (x.1) (x.2) = fnE T G_disk_Crash H_disk_Crash C_disk_Crash (resOf Tryz.f141) is_disk_Crash os_disk_Crash x := by kernel_rfl
noncomputable abbrev R_disk_Crash : GS := mkSpec false is_disk_Crash os_disk_Crash fun x => F_disk_Crash (x.1) (x.2)
theorem R_disk_Crash_ok : GSOK Tryz.prog 141 R_disk_Crash := spec_ok tok g_disk_Crash fmo (Ht := H_disk_Crash) (fn := Tryz.f141) (Tryz.func141) (c := C_disk_Crash) (by kernel_rfl) (by kernel_rfl) (by kernel_rfl) (by decide +kernel) (by decide) F_disk_Crash_eq
end Go.Proofs.Y
namespace Go.Proofs.Y
open Go.Rb Go.Kx
noncomputable def C_note_Print : Code := bodyOf Tryz.f85
noncomputable def G_note_Print : FuncId → Option GS := tabG [(79, R_note_Check), (119, R_note_words), (120, R_itoa)]
theorem g_note_Print : ΓOK Tryz.prog G_note_Print := ΓOK_cons (R_note_Check_ok) (ΓOK_cons (R_note_words_ok) (ΓOK_cons (R_itoa_ok) (ΓOK_nil)))
def H_note_Print : HT := ⟨tabL [(9, .it [] (dyn [.a 5 3 (.one (.int .i64)), .t 28 (.int .i64)])), (17, .it [] (dyn [.t 8 (.str), .t 53 (.int .i64)]))], tabH []⟩
abbrev is_note_Print : List IT := [.v (.cons (.int .i64) (.cons (.int .i64) (.cons (.int .i64) (.one (.sl 77 (.cons (.int .i64) (.cons (.int .i64) (.one (.int .i64))))))))) true]
abbrev os_note_Print : List OT := [⟨.one .str, false, []⟩, ⟨.one (.int .i64), false, []⟩]
set_option maxRecDepth 100000
noncomputable def F_note_Print : Int × Int × Int × List (Int × Int × Int) → Option (List UInt8 × Int) := fun (a : Int × Int × Int × List (Int × Int × Int)) => bindO (F_note_Check (a.1, a.2.1, a.2.2.1, a.2.2.2)) fun (y : Int) => ifB (neI y 0) (some ([], y)) (ifB (eqI a.1 1) (loopN maxR (fun (x : Int × List Int) => ifB (ltI x.1 (lenI a.2.2.2)) (bindO (atI a.2.2.2 x.1) fun (y : Int × Int × Int) => ifB (roomA 8 x.2 [y.1, y.2.1, y.2.2]) (some (Sum.inl (wadd .i64 x.1 1, cat x.2 [y.1, y.2.1, y.2.2]))) none) (mapO Sum.inr (bindO F_note_words fun (y : List (List UInt8)) => bindO (atI y a.1) fun (y : List UInt8) => loopN maxR (fun (x_1 : List UInt8 × Int) => ifB (ltI x_1.2 (lenI x.2)) (ifB (ltL x_1.2 x.2) (bindO (atN x.2 (natI x_1.2)) fun (y : Int) => bindO (itoaO y) fun (y : List UInt8) => ifB (roomS [32] y) (ifB (roomS x_1.1 (catS [32] y)) (some (Sum.inl (catS x_1.1 (catS [32] y), wadd .i64 x_1.2 1))) none) none) none) (mapO Sum.inr (some (x_1.1, 0)))) (y, 0)))) (0, [])) (ifB (eqI a.1 4) (ifB (in1 [a.2.1, a.2.2.1] 1) (bindO F_note_words fun (y : List (List UInt8)) => bindO (atI y a.1) fun (y : List UInt8) => loopN maxR (fun (x : List UInt8 × Int) => ifB (ltI x.2 (intN (subNI (lenN [a.2.1, a.2.2.1]) 1))) (ifB (ltN x.2 (subNI (lenN [a.2.1, a.2.2.1]) 1)) (bindO (atN [a.2.1, a.2.2.1] (addN (addN 0 (natI 1)) (natI x.2))) fun (y : Int) => bindO (itoaO y) fun (y : List UInt8) => ifB (roomS [32] y) (ifB (roomS x.1 (catS [32] y)) (some (Sum.inl (catS x.1 (catS [32] y), wadd .i64 x.2 1))) none) none) none) (mapO Sum.inr (some (x.1, 0)))) (y, 0)) none) (bindO F_note_words fun (y : List (List UInt8)) => bindO (atI y a.1) fun (y : List UInt8) => loopN maxR (fun (x : List UInt8 × Int) => ifB (ltI x.2 (lenI [a.2.1, a.2.2.1])) (ifB (ltL x.2 [a.2.1, a.2.2.1]) (bindO (atN [a.2.1, a.2.2.1] (natI x.2)) fun (y : Int) => bindO (itoaO y) fun (y : List UInt8) => ifB (roomS [32] y) (ifB (roomS x.1 (catS [32] y)) (some (Sum.inl (catS x.1 (catS [32] y), wadd .i64 x.2 1))) none) none) none) (mapO Sum.inr (some (x.1, 0)))) (y, 0))))
theorem F_note_Print_eq (x : PI is_note_Print) : F_note_Print x = fnE T G_note_Print H_note_Print C_note_Print (resOf Tryz.f85) is_note_Print os_note_Print x := by kernel_rfl
noncomputable abbrev R_note_Print : GS := mkSpec false is_note_Print os_note_Print fun x => F_note_Print x
theorem R_note_Print_ok : GSOK Tryz.prog 85 R_note_Print := spec_ok tok g_note_Print fmo (Ht := H_note_Print) (fn := Tryz.f85) (Tryz.func85) (c := C_note_Print) (by kernel_rfl) (by kernel_rfl) (by kernel_rfl) (by decide +kernel) (by decide) F_note_Print_eq
end Go.Proofs.Y
namespace Go.Proofs.Y
open Go.Rb Go.Kx
noncomputable def C_disk_Put : Code := bodyOf Tryz.f32
noncomputable def G_disk_Put : FuncId → Option GS := tabG [(84, R_disk_Check), (85, R_note_Print), (86, R_cloneBy)]
theorem g_disk_Put : ΓOK Tryz.prog G_disk_Put := ΓOK_cons (R_disk_Check_ok) (ΓOK_cons (R_note_Print_ok) (ΓOK_cons (R_cloneBy_ok) (ΓOK_nil)))
def H_disk_Put : HT := ⟨tabL [], tabH []⟩
abbrev is_disk_Put : List IT := [.v (.cons (.sl 5 (.one (.int .u8))) (.one (.sl 5 (.one (.int .u8))))) true, .v (.cons (.int .i64) (.cons (.int .i64) (.cons (.int .i64) (.one (.sl 77 (.cons (.int .i64) (.cons (.int .i64) (.one (.int .i64))))))))) true]
abbrev os_disk_Put : List OT := [⟨.cons (.sl 5 (.one (.int .u8))) (.one (.sl 5 (.one (.int .u8)))), true, []⟩, ⟨.one (.int .i64), false, []⟩]
set_option maxRecDepth 100000
noncomputable def F_disk_Put : List Int × List Int → Int × Int × Int × List (Int × Int × Int) → Option ((List Int × List Int) × Int) := fun (a : List Int × List Int) (b : Int × Int × Int × List (Int × Int × Int)) => bindO (F_disk_Check (a.1, a.2)) fun (y : Int) => ifB (neI y 0) (some (([], []), y)) (bindO (F_note_Print (b.1, b.2.1, b.2.2.1, b.2.2.2)) fun (y : List UInt8 × Int) => ifB (neI y.2 0) (some (([], []), y.2)) (ifB (gtI (wadd .i64 (lenI y.1) 1) (wsub .i64 (wsub .i64 60000 (lenI a.1)) (lenI a.2))) (some (([], []), 2)) (bindO (F_cloneBy a.1) fun (y_1 : List Int) => bindO (F_cloneBy a.2) fun (y_2 : List Int) => ifB (roomA 1 y_2 (bytB y.1)) (ifB (roomA 1 (cat y_2 (bytB y.1)) [10]) (some ((y_1, cat (cat y_2 (bytB y.1)) [10]), 0)) none) none)))
theorem F_disk_Put_eq (x : PI is_disk_Put) : F_disk_Put (x.1) (x.2) = fnE T G_disk_Put H_disk_Put C_disk_Put (resOf Tryz.f32) is_disk_Put os_disk_Put x := by kernel_rfl
noncomputable abbrev R_disk_Put : GS := mkSpec false is_disk_Put os_disk_Put fun x => F_disk_Put (x.1) (x.2)
theorem R_disk_Put_ok : GSOK Tryz.prog 32 R_disk_Put := spec_ok tok g_disk_Put fmo (Ht := H_disk_Put) (fn := Tryz.f32) (Tryz.func32) (c := C_disk_Put) (by kernel_rfl) (by kernel_rfl) (by kernel_rfl) (by decide +kernel) (by decide) F_disk_Put_eq
end Go.Proofs.Y
namespace Go.Proofs.Y
open Go.Rb Go.Kx
noncomputable def C_disk_Recover : Code := bodyOf Tryz.f34
noncomputable def G_disk_Recover : FuncId → Option GS := tabG [(84, R_disk_Check), (88, R_disk_lines), (87, R_concatBy)]
theorem g_disk_Recover : ΓOK Tryz.prog G_disk_Recover := ΓOK_cons (R_disk_Check_ok) (ΓOK_cons (R_disk_lines_ok) (ΓOK_cons (R_concatBy_ok) (ΓOK_nil)))
def H_disk_Recover : HT := ⟨tabL [], tabH []⟩
abbrev is_disk_Recover : List IT := [.v (.cons (.sl 5 (.one (.int .u8))) (.one (.sl 5 (.one (.int .u8))))) true]
abbrev os_disk_Recover : List OT := [⟨.cons (.sl 5 (.one (.int .u8))) (.one (.sl 5 (.one (.int .u8)))), true, []⟩, ⟨.one (.sl 52 (.cons (.int .i64) (.cons (.int .i64) (.cons (.int .i64) (.one (.sl 77 (.cons (.int .i64) (.cons (.int .i64) (.one (.int .i64)))))))))), false, []⟩, ⟨.one (.int .i64), false, []⟩]
set_option maxRecDepth 100000
noncomputable def F_disk_Recover : List Int × List Int → Option ((List Int × List Int) × List (Int × Int × Int × List (Int × Int × Int)) × Int) := fun (a : List Int × List Int) => bindO (F_disk_Check (a.1, a.2)) fun (y : Int) => ifB (neI y 0) (some (([], []), [], y)) (bindO (F_disk_lines (strB a.1) 60) fun (y : List (Int × Int × Int × List (Int × Int × Int)) × Int × Int) => bindO (F_disk_lines (strB a.2) (wsub .i64 60 (lenI y.1))) fun (y_1 : List (Int × Int × Int × List (Int × Int × Int)) × Int × Int) => ifB (in1 a.2 y_1.2.1) (bindO (F_concatBy [a.1, takeI a.2 y_1.2.1]) fun (y_2 : List Int) => ifB (roomA 48 y.1 y_1.1) (some ((y_2, []), cat y.1 y_1.1, 0)) none) none)
theorem F_disk_Recover_eq (x : PI is_disk_Recover) : F_disk_Recover x = fnE T G_disk_Recover H_disk_Recover C_disk_Recover (resOf Tryz.f34) is_disk_Recover os_disk_Recover x := by kernel_rfl
noncomputable abbrev R_disk_Recover : GS := mkSpec false is_disk_Recover os_disk_Recover fun x => F_disk_Recover x
theorem R_disk_Recover_ok : GSOK Tryz.prog 34 R_disk_Recover := spec_ok tok g_disk_Recover fmo (Ht := H_disk_Recover) (fn := Tryz.f34) (Tryz.func34) (c := C_disk_Recover) (by kernel_rfl) (by kernel_rfl) (by kernel_rfl) (by decide +kernel) (by decide) F_disk_Recover_eq
end Go.Proofs.Y
namespace Go.Proofs.Y
open Go.Rb Go.Kx
set_option maxRecDepth 100000
end Go.Proofs.Y
namespace Go.Proofs.Y
open Go.Rb Go.Kx
set_option maxRecDepth 100000
end Go.Proofs.Y
namespace Go.Proofs.Y
open Go.Rb Go.Kx
noncomputable def C_disk_Sync : Code := bodyOf Tryz.f33
noncomputable def G_disk_Sync : FuncId → Option GS := tabG [(84, R_disk_Check), (87, R_concatBy)]
theorem g_disk_Sync : ΓOK Tryz.prog G_disk_Sync := ΓOK_cons (R_disk_Check_ok) (ΓOK_cons (R_concatBy_ok) (ΓOK_nil))
def H_disk_Sync : HT := ⟨tabL [], tabH []⟩
abbrev is_disk_Sync : List IT := [.v (.cons (.sl 5 (.one (.int .u8))) (.one (.sl 5 (.one (.int .u8))))) true]
abbrev os_disk_Sync : List OT := [⟨.cons (.sl 5 (.one (.int .u8))) (.one (.sl 5 (.one (.int .u8)))), true, []⟩, ⟨.one (.int .i64), false, []⟩]
set_option maxRecDepth 100000
noncomputable def F_disk_Sync : List Int × List Int → Option ((List Int × List Int) × Int) := fun (a : List Int × List Int) => bindO (F_disk_Check (a.1, a.2)) fun (y : Int) => ifB (neI y 0) (some (([], []), y)) (bindO (F_concatBy [a.1, a.2]) fun (y : List Int) => bindO (F_disk_Check (y, [])) fun (y_1 : Int) => ifB (neI y_1 0) (some (([], []), y_1)) (some ((y, []), 0)))
theorem F_disk_Sync_eq (x : PI is_disk_Sync) : F_disk_Sync x = fnE T G_disk_Sync H_disk_Sync C_disk_Sync (resOf Tryz.f33) is_disk_Sync os_disk_Sync x := by kernel_rfl
noncomputable abbrev R_disk_Sync : GS := mkSpec false is_disk_Sync os_disk_Sync fun x => F_disk_Sync x
theorem R_disk_Sync_ok : GSOK Tryz.prog 33 R_disk_Sync := spec_ok tok g_disk_Sync fmo (Ht := H_disk_Sync) (fn := Tryz.f33) (Tryz.func33) (c := C_disk_Sync) (by kernel_rfl) (by kernel_rfl) (by kernel_rfl) (by decide +kernel) (by decide) F_disk_Sync_eq
end Go.Proofs.Y
namespace Go.Kx
open Go.Rb
def sp (c : UInt8) : List UInt8 → List (List UInt8)
  | [] => [[]]
  | b :: l => if b = c then [] :: sp c l else match sp c l with
    | [] => [[b]]
    | w :: r => (b :: w) :: r
def jn (c : UInt8) : List (List UInt8) → List UInt8
  | [] => []
  | w :: r => w ++ (r.map (c :: ·)).flatten
theorem sp_ne (c : UInt8) : ∀ l, sp c l ≠ []
  | [] => by simp [sp]
  | b :: l => by
    unfold sp
    split
    · simp
    · split <;> simp
theorem jn_cons (c : UInt8) (w : List UInt8) {r : List (List UInt8)} (h : r ≠ []) : jn c (w :: r) = w ++ c :: jn c r := by
  cases r with
  | nil => exact absurd rfl h
  | cons x r => simp [jn]
theorem jn_sp (c : UInt8) : ∀ l, jn c (sp c l) = l
  | [] => rfl
  | b :: l => by
    have ih := jn_sp c l
    have hn := sp_ne c l
    unfold sp
    split
    · rename_i h; subst h
      rw [jn_cons _ _ hn, ih]; rfl
    · split
      · rename_i h1 h2; exact absurd h2 hn
      · rename_i w r h2; rw [h2] at ih; simp only [jn] at ih ⊢; rw [List.cons_append, ih]
theorem sp_word (c : UInt8) : ∀ w : List UInt8, (∀ x ∈ w, x ≠ c) → sp c w = [w]
  | [], _ => rfl
  | b :: l, h => by
    unfold sp
    rw [if_neg (h b (by simp)), sp_word c l fun x hx => h x (by simp [hx])]
theorem sp_app (c : UInt8) : ∀ (w l : List UInt8), (∀ x ∈ w, x ≠ c) → sp c (w ++ c :: l) = w :: sp c l
  | [], l, _ => by simp [sp]
  | b :: w, l, h => by
    have ih := sp_app c w l fun x hx => h x (by simp [hx])
    show sp c (b :: (w ++ c :: l)) = _
    rw [sp, if_neg (h b (by simp)), ih]
theorem sp_jn (c : UInt8) : ∀ ws : List (List UInt8), ws ≠ [] → (∀ w ∈ ws, ∀ x ∈ w, x ≠ c) → sp c (jn c ws) = ws
  | [], h, _ => absurd rfl h
  | [w], _, h => by simp only [jn, List.map_nil, List.flatten_nil, List.append_nil]; exact sp_word c w (h w (by simp))
  | w :: v :: r, _, h => by
    rw [jn_cons _ _ (by simp), sp_app c w _ (h w (by simp)), sp_jn c (v :: r) (by simp) fun w hw => h w (by simp [hw])]
theorem sp_clean (c : UInt8) : ∀ l, ∀ w ∈ sp c l, ∀ x ∈ w, x ≠ c
  | [], w, hw, x, hx => by simp [sp] at hw; subst hw; cases hx
  | b :: l, w, hw, x, hx => by
    have ih := sp_clean c l
    have hn := sp_ne c l
    unfold sp at hw
    split at hw
    · rcases List.mem_cons.1 hw with rfl | hw
      · cases hx
      · exact ih w hw x hx
    · rename_i hb
      split at hw
      · rename_i h2; exact absurd h2 hn
      · rename_i v r h2
        rw [h2] at ih
        rcases List.mem_cons.1 hw with rfl | hw
        · rcases List.mem_cons.1 hx with rfl | hx
          · exact hb
          · exact ih v (by simp) x hx
        · exact ih w (by simp [hw]) x hx
theorem sp_len (c : UInt8) : ∀ l, (sp c l).length ≤ l.length + 1
  | [] => by simp [sp]
  | b :: l => by
    have ih := sp_len c l
    have hn := sp_ne c l
    unfold sp
    split
    · simp; omega
    · split
      · rename_i h2; exact absurd h2 hn
      · rename_i w r h2; rw [h2] at ih; simp at ih ⊢; omega
/-! ### Go's split -/
theorem index_one_none {c : UInt8} {l : List UInt8} (h : ∀ x ∈ l, x ≠ c) : Lib.index l [c] = -1 := by
  induction l with
  | nil => rfl
  | cons b l ih =>
    have ih := ih fun x hx => h x (by simp [hx])
    have hb := h b (by simp)
    have : [c].isPrefixOf (b :: l) = false := by simp [List.isPrefixOf]; exact fun e => hb e.symm
    unfold Lib.index
    rw [this, ih]; rfl
theorem index_one_app {c : UInt8} {w l : List UInt8} (h : ∀ x ∈ w, x ≠ c) : Lib.index (w ++ c :: l) [c] = w.length := by
  induction w with
  | nil => unfold Lib.index; simp [List.isPrefixOf]
  | cons b w ih =>
    have ih := ih fun x hx => h x (by simp [hx])
    have hb := h b (by simp)
    have : [c].isPrefixOf (b :: (w ++ c :: l)) = false := by simp [List.isPrefixOf]; exact fun e => hb e.symm
    rw [List.cons_append]
    unfold Lib.index
    rw [this, ih]
    have e : (((w.length : Nat) : Int) == -1) = false := by rw [beq_eq_false_iff_ne]; omega
    simp [e]
theorem split_words (c : UInt8) : ∀ (l : List UInt8), Lib.split l [c] = sp c l := by
  have key : ∀ (ws : List (List UInt8)), ws ≠ [] → (∀ w ∈ ws, ∀ x ∈ w, x ≠ c) → Lib.split (jn c ws) [c] = ws := by
    intro ws
    induction ws with
    | nil => intro h; exact absurd rfl h
    | cons w r ih =>
      intro _ h
      by_cases hr : r = []
      · subst hr
        simp only [jn, List.map_nil, List.flatten_nil, List.append_nil]
        unfold Lib.split
        rw [Lib.count_miss (index_one_none (h w (by simp)))]; rfl
      · rw [jn_cons _ _ hr]
        have hi : Lib.index (w ++ c :: jn c r) [c] = w.length := index_one_app (h w (by simp))
        have hd : (w ++ c :: jn c r).drop (w.length + [c].length) = jn c r := by
          rw [List.drop_append]; simp
        have hr2 := ih hr fun w hw => h w (by simp [hw])
        unfold Lib.split at hr2 ⊢
        rw [Lib.count_hit (by simp) hi, hd, Nat.add_comm 1, Lib.splitK, if_neg (by rw [hi]; intro e; have := beq_iff_eq.1 e; omega), hi]
        have e : ((w.length : Nat) : Int).toNat = w.length := by omega
        rw [e, hd, hr2]
        congr 1
        rw [List.take_append]; simp
  intro l
  have h := key (sp c l) (sp_ne c l) (sp_clean c l)
  rw [jn_sp] at h
  exact h
/-! ### Numerals -/
theorem digit_ok {n : Nat} (h : n < 10) : (UInt8.ofNat (48 + n)).toNat = 48 + n := by
  rw [UInt8.toNat_ofNat']; omega
theorem decDigits_digit (u : Nat) : ∀ b ∈ Lib.decDigits u, 48 ≤ b.toNat ∧ b.toNat ≤ 57 := by
  induction u using Nat.strongRecOn with
  | _ u ih =>
    intro b hb
    rw [Lib.decDigits] at hb
    split at hb
    · rename_i h
      rw [List.mem_singleton] at hb; subst hb
      rw [digit_ok h]; omega
    · rename_i h
      rcases List.mem_append.1 hb with hb | hb
      · exact ih (u / 10) (by omega) b hb
      · rw [List.mem_singleton] at hb; subst hb
        rw [digit_ok (by omega)]; omega
theorem decDigits_ne (u : Nat) : Lib.decDigits u ≠ [] := by
  rw [Lib.decDigits]; split <;> simp
theorem itoa_byte (n : Int) : ∀ b ∈ Lib.itoa n, b.toNat = 45 ∨ (48 ≤ b.toNat ∧ b.toNat ≤ 57) := by
  intro b hb
  unfold Lib.itoa at hb
  split at hb
  · rcases List.mem_cons.1 hb with rfl | hb
    · exact .inl rfl
    · exact .inr (decDigits_digit _ b hb)
  · exact .inr (decDigits_digit _ b hb)
theorem itoa_space (n : Int) : ∀ b ∈ Lib.itoa n, b ≠ 32 := by
  intro b hb e
  subst e
  rcases itoa_byte n _ hb with h | h
  · revert h; decide
  · revert h; decide
theorem parse_app : ∀ (l r : List UInt8) (a u : Nat), Lib.parseUint10 a l = .ok u → Lib.parseUint10 a (l ++ r) = Lib.parseUint10 u r
  | [], r, a, u, h => by simp only [Lib.parseUint10] at h; cases h; rfl
  | c :: l, r, a, u, h => by
    rw [List.cons_append]
    simp only [Lib.parseUint10] at h ⊢
    split at h
    · rename_i h1
      rw [if_pos h1]
      split at h
      · cases h
      · rename_i h2
        rw [if_neg h2]
        split at h
        · cases h
        · rename_i h3
          rw [if_neg h3]
          exact parse_app l r _ u h
    · cases h
theorem parse_digits (u : Nat) (hu : u < 18446744073709551616) : Lib.parseUint10 0 (Lib.decDigits u) = .ok u := by
  induction u using Nat.strongRecOn with
  | _ u ih =>
    rw [Lib.decDigits]
    split
    · rename_i h
      simp only [Lib.parseUint10, digit_ok h]
      rw [if_pos (by omega), if_neg (by omega), if_neg (by omega)]
      congr 1; omega
    · rename_i h
      rw [parse_app _ _ _ _ (ih (u / 10) (by omega) (by omega))]
      simp only [Lib.parseUint10, digit_ok (show u % 10 < 10 by omega)]
      rw [if_pos (by omega), if_neg (by omega), if_neg (by omega)]
      congr 1; omega
theorem parseMag_digits (u : Nat) (hu : u < 18446744073709551616) : Lib.parseMag (Lib.decDigits u) = .ok u := by
  unfold Lib.parseMag
  rw [if_neg (decDigits_ne u), parse_digits u hu]
theorem atoi_itoa (n : Int) (h0 : -9223372036854775808 ≤ n) (h1 : n ≤ 9223372036854775807) : Lib.atoiAll (Lib.itoa n) = .ok n := by
  unfold Lib.itoa
  split
  · rename_i h
    rw [Lib.atoiAll_minus, parseMag_digits _ (by omega)]
    simp only [Lib.signed]
    rw [if_neg (by omega)]
    congr 1; omega
  · rename_i h
    have hd := decDigits_digit n.toNat
    have hm := parseMag_digits n.toNat (by omega)
    have hne := decDigits_ne n.toNat
    cases hl : Lib.decDigits n.toNat with
    | nil => exact absurd hl hne
    | cons c r =>
      rw [hl] at hd hm
      have := hd c (by simp)
      rw [Lib.atoiAll_plain c r (by omega) (by omega), hm]
      simp only [Lib.signless]
      rw [if_neg (by omega)]
      congr 1; omega
end Go.Kx
namespace Go.Kx
open Go.Rb
def kindW : List (List UInt8) := [[], [98, 97, 116, 99, 104], [115, 101, 97, 108], [109, 101, 114, 103, 101], [100, 114, 111, 112]]
def ixW : List (List UInt8) → List UInt8 → Int → Int
  | [], _, _ => -1
  | x :: r, w, i => if w = x then i else ixW r w (i + 1)
def nums : List (List UInt8) → Option (List Int)
  | [] => some []
  | x :: r => match Lib.atoiAll x with
    | .ok v => if Lib.itoa v = x then (nums r).map (v :: ·) else none
    | _ => none
def trip : List Int → List Ent
  | a :: b :: c :: r => (a, b, c) :: trip r
  | _ => []
def flatE : List Ent → List Int
  | [] => []
  | x :: r => x.1 :: x.2.1 :: x.2.2 :: flatE r
def recOf (k : Int) (ns : List Int) : Option Rc :=
  if k = 1 then (if ns.length % 3 = 0 then some (1, 0, 0, trip ns) else none) else
  if k = 2 ∨ k = 3 then (match ns with | [a, b] => some (k, a, b, []) | _ => none) else
  if k = 4 then (match ns with | [a] => some (4, 0, a, []) | _ => none) else none
def noRec : Rc := (0, 0, 0, [])
def parseW (w : List UInt8) (xs : List (List UInt8)) : Rc × Int := match nums xs with
  | none => (noRec, 1)
  | some ns => match recOf (ixW kindW w 0) ns with
    | none => (noRec, 1)
    | some r => if chkRec r = 0 then (r, 0) else (noRec, chkRec r)
def parseR (s : List UInt8) : Rc × Int := if 60000 < s.length then (noRec, 2) else parseW ((sp 32 s).headD []) (sp 32 s).tail
def rcArgs (r : Rc) : List Int := if r.1 = 1 then flatE r.2.2.2 else if r.1 = 4 then [r.2.2.1] else [r.2.1, r.2.2.1]
def textR (r : Rc) : List UInt8 := jn 32 (kindW.getD r.1.toNat [] :: (rcArgs r).map Lib.itoa)
def printR (r : Rc) : List UInt8 × Int := if chkRec r = 0 then (textR r, 0) else ([], chkRec r)
theorem trip_flat : ∀ l : List Ent, trip (flatE l) = l
  | [] => rfl
  | x :: r => by rw [flatE, trip, trip_flat r]
theorem flat_len : ∀ l : List Ent, (flatE l).length = 3 * l.length
  | [] => rfl
  | x :: r => by rw [flatE]; simp [flat_len r]; omega
theorem flat_trip : ∀ (n : Nat) (l : List Int), l.length = 3 * n → flatE (trip l) = l
  | 0, l, h => by have := List.eq_nil_of_length_eq_zero (show l.length = 0 by omega); subst this; rfl
  | n + 1, l, h => by
    match l, h with
    | a :: b :: c :: r, h => rw [trip, flatE, flat_trip n r (by simp at h; omega)]
    | [], h => simp at h
    | [_], h => simp at h; omega
    | [_, _], h => simp at h; omega
theorem nums_itoa : ∀ ns : List Int, (∀ n ∈ ns, inR64 n) → nums (ns.map Lib.itoa) = some ns
  | [], _ => rfl
  | n :: r, h => by
    rw [List.map_cons, nums, atoi_itoa n (h n (by simp)).1 (h n (by simp)).2]
    simp only [if_pos]
    rw [nums_itoa r fun m hm => h m (by simp [hm])]; rfl
theorem nums_back : ∀ (xs : List (List UInt8)) (ns : List Int), nums xs = some ns → xs = ns.map Lib.itoa ∧ ∀ n ∈ ns, inR64 n
  | [], ns, h => by cases h; exact ⟨rfl, fun _ h => by cases h⟩
  | x :: r, ns, h => by
    rw [nums] at h
    rcases hx : Lib.atoiAll x with v | _ | _
    · rw [hx] at h
      simp only at h
      split at h
      · rename_i he
        cases hr : nums r with
        | none => rw [hr] at h; cases h
        | some ms =>
          rw [hr] at h; cases h
          obtain ⟨h1, h2⟩ := nums_back r ms hr
          refine ⟨by rw [List.map_cons, he, ← h1], fun n hn => ?_⟩
          rcases List.mem_cons.1 hn with rfl | hn
          · exact Lib.atoiAll_bounds hx
          · exact h2 n hn
      · cases h
    · rw [hx] at h; cases h
    · rw [hx] at h; cases h
theorem ent_in {l : List Ent} (h : entE l = 0) : ∀ n ∈ flatE l, -1000000 ≤ n ∧ n ≤ 1000000 := by
  induction l with
  | nil => intro n hn; cases hn
  | cons x r ih =>
    rw [entE] at h
    split at h
    · cases h
    · rename_i hb
      unfold badEnt at hb
      intro n hn
      rw [flatE] at hn
      rcases List.mem_cons.1 hn with rfl | hn
      · omega
      · rcases List.mem_cons.1 hn with rfl | hn
        · omega
        · rcases List.mem_cons.1 hn with rfl | hn
          · omega
          · exact ih h n hn
theorem args_in {r : Rc} (h : chkRec r = 0) : (rcArgs r).length ≤ 30 ∧ ∀ n ∈ rcArgs r, -1000000 ≤ n ∧ n ≤ 1000000 := by
  obtain ⟨k1, k2, k3, k4⟩ := chkRec_kind h
  unfold rcArgs
  split
  · rename_i h1
    obtain ⟨_, _, a3, a4⟩ := k3 h1
    exact ⟨by rw [flat_len]; omega, ent_in a4⟩
  · rename_i h1
    obtain ⟨_, b1, b2, b3, b4, _⟩ := k4 h1
    split
    · exact ⟨by simp, fun n hn => by simp at hn; omega⟩
    · exact ⟨by simp, fun n hn => by simp at hn; omega⟩
theorem recOf_args {r : Rc} (h : chkRec r = 0) : recOf r.1 (rcArgs r) = some r := by
  obtain ⟨k1, k2, k3, k4⟩ := chkRec_kind h
  obtain ⟨k, a, b, l⟩ := r
  simp only at k1 k2 k3 k4
  unfold recOf rcArgs
  by_cases h1 : k = 1
  · obtain ⟨rfl, rfl, a3, a4⟩ := k3 h1
    subst h1
    simp only [if_pos]
    rw [if_pos (by rw [flat_len]; omega), trip_flat]
  · obtain ⟨rfl, b1, b2, b3, b4, b5⟩ := k4 h1
    rw [if_neg h1]
    by_cases h4 : k = 4
    · subst h4
      have := b5 rfl
      subst this
      simp
    · simp only [if_neg h1, if_neg h4]
      rw [if_pos (by omega)]
theorem args_recOf {k : Int} {ns : List Int} {r : Rc} (h : recOf k ns = some r) : r.1 = k ∧ rcArgs r = ns ∧ 1 ≤ k ∧ k ≤ 4 := by
  unfold recOf at h
  split at h
  · rename_i h1
    subst h1
    split at h
    · rename_i h2
      cases h
      refine ⟨rfl, ?_, by omega, by omega⟩
      unfold rcArgs
      simp only [if_pos]
      exact flat_trip (ns.length / 3) ns (by omega)
    · cases h
  · rename_i h1
    split at h
    · rename_i h2
      split at h
      · cases h
        refine ⟨rfl, ?_, by omega, by omega⟩
        unfold rcArgs
        simp only [if_neg h1]
        rw [if_neg (by omega)]
      · cases h
    · split at h
      · rename_i h4
        subst h4
        split at h
        · cases h
          exact ⟨rfl, rfl, by omega, by omega⟩
        · cases h
      · cases h
theorem kind_word {k : Int} (h1 : 1 ≤ k) (h2 : k ≤ 4) : ixW kindW (kindW.getD k.toNat []) 0 = k ∧ (∀ x ∈ kindW.getD k.toNat [], x ≠ 32) ∧ (kindW.getD k.toNat []).length ≤ 5 := by
  have : k = 1 ∨ k = 2 ∨ k = 3 ∨ k = 4 := by omega
  rcases this with rfl | rfl | rfl | rfl <;> decide
theorem ix_word {w : List UInt8} {k : Int} (h : ixW kindW w 0 = k) (h1 : 1 ≤ k) (h2 : k ≤ 4) : kindW.getD k.toNat [] = w := by
  unfold kindW at h
  simp only [ixW] at h
  split at h
  · omega
  · split at h
    · rename_i hw; subst hw; subst h; rfl
    · split at h
      · rename_i hw; subst hw; subst h; rfl
      · split at h
        · rename_i hw; subst hw; subst h; rfl
        · split at h
          · rename_i hw; subst hw; subst h; rfl
          · omega
theorem jn_len (c : UInt8) (w : List UInt8) (xs : List (List UInt8)) (m : Nat) (h : ∀ x ∈ xs, x.length ≤ m) : (jn c (w :: xs)).length ≤ w.length + xs.length * (m + 1) := by
  simp only [jn, List.length_append]
  have : ((xs.map (c :: ·)).flatten).length ≤ xs.length * (m + 1) := by
    induction xs with
    | nil => simp
    | cons x r ih =>
      have := ih fun y hy => h y (by simp [hy])
      have hx := h x (by simp)
      simp only [List.map_cons, List.flatten_cons, List.length_append, List.length_cons, Nat.add_mul]
      omega
  omega
theorem textR_len {r : Rc} (h : chkRec r = 0) : (textR r).length ≤ 700 := by
  obtain ⟨k1, k2, _, _⟩ := chkRec_kind h
  obtain ⟨h1, h2⟩ := args_in h
  obtain ⟨_, _, h3⟩ := kind_word k1 k2
  have := jn_len 32 (kindW.getD r.1.toNat []) ((rcArgs r).map Lib.itoa) 21 fun x hx => by
    obtain ⟨n, hn, rfl⟩ := List.mem_map.1 hx
    have := h2 n hn
    exact Lib.itoa_length_le n (by omega) (by omega)
  rw [List.length_map] at this
  unfold textR
  omega
theorem textR_words {r : Rc} (h : chkRec r = 0) : sp 32 (textR r) = kindW.getD r.1.toNat [] :: (rcArgs r).map Lib.itoa := by
  obtain ⟨k1, k2, _, _⟩ := chkRec_kind h
  unfold textR
  refine sp_jn 32 _ (by simp) fun w hw x hx => ?_
  rcases List.mem_cons.1 hw with rfl | hw
  · exact (kind_word k1 k2).2.1 x hx
  · obtain ⟨n, _, rfl⟩ := List.mem_map.1 hw
    exact itoa_space n x hx
theorem parse_print {r : Rc} (h : chkRec r = 0) : parseR (textR r) = (r, 0) := by
  obtain ⟨k1, k2, _, _⟩ := chkRec_kind h
  obtain ⟨_, h2⟩ := args_in h
  have hl := textR_len h
  unfold parseR parseW
  rw [if_neg (by omega), textR_words h]
  simp only [List.headD_cons, List.tail_cons]
  rw [nums_itoa _ fun n hn => by have := h2 n hn; exact ⟨by omega, by omega⟩]
  simp only
  rw [(kind_word k1 k2).1, recOf_args h]
  simp only [if_pos h]
theorem parseR_ok {s : List UInt8} (h : (parseR s).2 = 0) : chkRec (parseR s).1 = 0 ∧ textR (parseR s).1 = s := by
  unfold parseR at h ⊢
  split at h
  · cases h
  · rename_i hl
    rw [if_neg hl]
    unfold parseW at h ⊢
    have hj := jn_sp 32 s
    have hn := sp_ne 32 s
    cases hs : sp 32 s with
    | nil => exact absurd hs hn
    | cons w xs =>
    rw [hs] at h hj
    simp only [List.headD_cons, List.tail_cons] at h ⊢
    cases hx : nums xs with
    | none => rw [hx] at h; cases h
    | some ns =>
      rw [hx] at h
      simp only at h ⊢
      cases hr : recOf (ixW kindW w 0) ns with
      | none => rw [hr] at h; cases h
      | some r =>
        rw [hr] at h
        simp only at h ⊢
        split at h
        · rename_i hc
          rw [if_pos hc]
          refine ⟨hc, ?_⟩
          obtain ⟨e1, e2, e3, e4⟩ := args_recOf hr
          unfold textR
          rw [e1, e2, ix_word rfl e3 e4, ← (nums_back xs ns hx).1]
          exact hj
        · rename_i hc; exact absurd h hc
end Go.Kx
namespace Go.Kx
open Go.Rb
theorem sp_none (c : UInt8) {s : List UInt8} (h : ∀ x ∈ s, x ≠ c) : sp c s = [s] := sp_word c s h
theorem sp_cases (c : UInt8) : ∀ s : List UInt8, (∀ x ∈ s, x ≠ c) ∨ ∃ w l, s = w ++ c :: l ∧ (∀ x ∈ w, x ≠ c)
  | [] => .inl fun x hx => by cases hx
  | b :: s => by
    by_cases hb : b = c
    · subst hb; exact .inr ⟨[], s, rfl, fun x hx => by cases hx⟩
    · rcases sp_cases c s with h | ⟨w, l, rfl, h⟩
      · exact .inl fun x hx => by rcases List.mem_cons.1 hx with rfl | hx; exact hb; exact h x hx
      · exact .inr ⟨b :: w, l, rfl, fun x hx => by rcases List.mem_cons.1 hx with rfl | hx; exact hb; exact h x hx⟩
theorem cut_none {c : UInt8} {s : List UInt8} (h : ∀ x ∈ s, x ≠ c) : Lib.cut s [c] = (s, [], false) := by
  unfold Lib.cut
  rw [index_one_none h, if_neg (by omega)]
theorem cut_some {c : UInt8} {w l : List UInt8} (h : ∀ x ∈ w, x ≠ c) : Lib.cut (w ++ c :: l) [c] = (w, l, true) := by
  unfold Lib.cut
  rw [index_one_app h, if_pos (by omega)]
  have e : ((w.length : Nat) : Int).toNat = w.length := by omega
  rw [e]
  simp [List.take_append, List.drop_append]
def lnW (most all : Int) : List (List UInt8) → List Rc → List Rc × Int × Int
  | [], acc => (acc, all, 0)
  | w :: r, acc => if r = [] then (if w = [] then (acc, all, 0) else (acc, all - w.length, 8)) else
    if (parseR w).2 = 0 then (if (acc.length : Int) = most then (acc, all - (jn 10 (w :: r)).length, 2) else lnW most all r (acc ++ [(parseR w).1])) else (acc, all - (jn 10 (w :: r)).length, (parseR w).2)
def lnP (most : Int) (s : List UInt8) : List Rc × Int × Int := lnW most s.length (sp 10 s) []
theorem lnW_n (most all : Int) : ∀ (ws : List (List UInt8)) (acc : List Rc), ((jn 10 ws).length : Int) ≤ all → 0 ≤ (lnW most all ws acc).2.1 ∧ (lnW most all ws acc).2.1 ≤ all
  | [], acc, h => by simp only [lnW]; simp [jn] at h; omega
  | w :: r, acc, h => by
    rw [lnW]
    by_cases hr : r = []
    · subst hr
      rw [if_pos rfl]
      simp only [jn, List.map_nil, List.flatten_nil, List.append_nil] at h
      split
      · simp only; omega
      · simp only; omega
    · rw [if_neg hr]
      have hj := jn_cons 10 w hr
      have : (jn 10 r).length ≤ (jn 10 (w :: r)).length := by rw [hj]; simp; omega
      split
      · split
        · simp only; omega
        · exact lnW_n most all r _ (by omega)
      · simp only; omega
theorem lnP_n (most : Int) (s : List UInt8) : 0 ≤ (lnP most s).2.1 ∧ (lnP most s).2.1 ≤ s.length := by
  unfold lnP
  exact lnW_n most _ _ _ (by rw [jn_sp]; omega)
theorem lnW_len (most all : Int) : ∀ (ws : List (List UInt8)) (acc : List Rc), (lnW most all ws acc).1.length ≤ acc.length + ws.length
  | [], acc => by simp [lnW]
  | w :: r, acc => by
    rw [lnW]
    split
    · split <;> simp
    · split
      · split
        · simp
        · have := lnW_len most all r (acc ++ [(parseR w).1])
          simp only [List.length_append, List.length_cons, List.length_nil] at this ⊢; omega
      · simp
theorem lnP_len (most : Int) (s : List UInt8) : (lnP most s).1.length ≤ s.length + 1 := by
  have := lnW_len most s.length (sp 10 s) []
  have := sp_len 10 s
  unfold lnP
  simp only [List.length_nil] at *
  omega
/-! ### Records as lines -/
def lineT (r : Rc) : List UInt8 := textR r ++ [10]
def textL (rs : List Rc) : List UInt8 := (rs.map lineT).flatten
theorem itoa_line (n : Int) : ∀ b ∈ Lib.itoa n, b ≠ 10 := by
  intro b hb e
  subst e
  rcases itoa_byte n _ hb with h | h
  · revert h; decide
  · revert h; decide
theorem kind_line {k : Int} (h1 : 1 ≤ k) (h2 : k ≤ 4) : ∀ x ∈ kindW.getD k.toNat [], x ≠ 10 := by
  have : k = 1 ∨ k = 2 ∨ k = 3 ∨ k = 4 := by omega
  rcases this with rfl | rfl | rfl | rfl <;> decide
theorem textR_line {r : Rc} (h : chkRec r = 0) : ∀ x ∈ textR r, x ≠ 10 := by
  obtain ⟨k1, k2, _, _⟩ := chkRec_kind h
  intro x hx
  unfold textR at hx
  simp only [jn] at hx
  rcases List.mem_append.1 hx with hx | hx
  · exact kind_line k1 k2 x hx
  · rw [List.mem_flatten] at hx
    obtain ⟨l, hl, hx⟩ := hx
    rw [List.map_map, List.mem_map] at hl
    obtain ⟨n, _, rfl⟩ := hl
    rcases List.mem_cons.1 hx with rfl | hx
    · decide
    · exact itoa_line n x hx
theorem textL_cons (r : Rc) (rs : List Rc) (t : List UInt8) : textL (r :: rs) ++ t = textR r ++ 10 :: (textL rs ++ t) := by
  simp [textL, lineT]
theorem textL_app (a b : List Rc) : textL (a ++ b) = textL a ++ textL b := by simp [textL]
theorem lnW_text (most all : Int) : ∀ (rs : List Rc) (t : List UInt8) (acc : List Rc), (∀ r ∈ rs, chkRec r = 0) → ((acc.length + rs.length : Nat) : Int) ≤ most → lnW most all (sp 10 (textL rs ++ t)) acc = lnW most all (sp 10 t) (acc ++ rs)
  | [], t, acc, _, _ => by simp [textL]
  | r :: rs, t, acc, h, hl => by
    have hr := h r (by simp)
    simp only [List.length_cons] at hl
    rw [textL_cons, sp_app 10 _ _ (textR_line hr), lnW, if_neg (sp_ne 10 _), parse_print hr, if_pos rfl, if_neg (by omega), lnW_text most all rs t (acc ++ [r]) (fun q hq => h q (by simp [hq])) (by simp; omega)]
    simp
theorem lnP_text {most : Int} {rs : List Rc} {t : List UInt8} (h : ∀ r ∈ rs, chkRec r = 0) (hl : (rs.length : Int) ≤ most) (ht : ∀ x ∈ t, x ≠ 10) : lnP most (textL rs ++ t) = (rs, ((textL rs).length : Int), if t = [] then 0 else 8) := by
  unfold lnP
  rw [lnW_text most _ rs t [] h (by simpa using hl), sp_none 10 ht, lnW, if_pos rfl, List.nil_append, List.length_append]
  by_cases e : t = []
  · subst e; simp
  · rw [if_neg e, if_neg e]; simp only [Prod.mk.injEq, true_and, and_true]; omega
theorem lnP_whole {most : Int} {rs : List Rc} (h : ∀ r ∈ rs, chkRec r = 0) (hl : (rs.length : Int) ≤ most) : lnP most (textL rs) = (rs, ((textL rs).length : Int), 0) := by
  have := lnP_text (t := []) h hl (by simp)
  simpa using this
/-! ### Disks -/
def dCheck (d : List UInt8 × List UInt8) : Int := if 60000 < d.1.length then 2 else if 60000 - d.1.length < d.2.length then 2 else (lnP 60 d.1).2.2
def dPut (d : List UInt8 × List UInt8) (r : Rc) : (List UInt8 × List UInt8) × Int :=
  if dCheck d = 0 then (if chkRec r = 0 then (if 60000 - (d.1.length : Int) - d.2.length < (textR r).length + 1 then (([], []), 2) else ((d.1, d.2 ++ lineT r), 0)) else (([], []), chkRec r)) else (([], []), dCheck d)
def dSync (d : List UInt8 × List UInt8) : (List UInt8 × List UInt8) × Int :=
  if dCheck d = 0 then (if dCheck (d.1 ++ d.2, []) = 0 then ((d.1 ++ d.2, []), 0) else (([], []), dCheck (d.1 ++ d.2, []))) else (([], []), dCheck d)
def dCrash (d : List UInt8 × List UInt8) (n : Int) : (List UInt8 × List UInt8) × Int :=
  if dCheck d = 0 then (if n < 0 ∨ (d.2.length : Int) < n then (([], []), 3) else ((d.1, d.2.take n.toNat), 0)) else (([], []), dCheck d)
def dMore (d : List UInt8 × List UInt8) : List Rc × Int × Int := lnP (60 - ((lnP 60 d.1).1.length : Int)) d.2
def dRecover (d : List UInt8 × List UInt8) : (List UInt8 × List UInt8) × List Rc × Int :=
  if dCheck d = 0 then ((d.1 ++ d.2.take (dMore d).2.1.toNat, []), (lnP 60 d.1).1 ++ (dMore d).1, 0) else (([], []), [], dCheck d)
theorem dCheck_len {d : List UInt8 × List UInt8} (h : dCheck d = 0) : d.1.length + d.2.length ≤ 60000 := by
  unfold dCheck at h
  split at h
  · cases h
  · split at h
    · cases h
    · omega
theorem dCheck_text {a : List Rc} {w : List UInt8} (h : ∀ r ∈ a, chkRec r = 0) (ha : a.length ≤ 60) (hl : (textL a).length + w.length ≤ 60000) : dCheck (textL a, w) = 0 := by
  unfold dCheck
  rw [if_neg (by simp only; omega), if_neg (by simp only; omega), lnP_whole h (by omega)]
end Go.Kx
namespace Go.Proofs.Y
open Go.Rb Go.Kx
theorem words_eq : F_note_words = some kindW := rfl
theorem index_eq (a : List (List UInt8)) (b : List UInt8) (h : a.length < 4611686018427387904) : F_indexS a b = some (ixW a b 0) := by
  unfold F_indexS
  refine loop_range a (fun j (_ : Int) => (j : Int)) (G := fun rest s => some (ixW rest b s)) (P := fun j s => s = (j : Int)) (s0 := (0 : Int)) ?_ ?_ rfl (by omega)
  · rintro j s hj rfl k hk
    have hat := atI_nat hj
    generalize a.getD j default = x at *
    rw [stepK_ifB, stepK_map, ifB_ltI, lenI_eq, if_pos (by omega), hat, stepK_bind, bindO_some, stepK_ifB, stepK_map, stepK_inl, ifB_eqS, wadd_nat (by omega), hk _ rfl, ixW]
    split
    · rfl
    · rfl
  · rintro s rfl k
    rw [stepK_ifB, stepK_map, ifB_ltI, lenI_eq, if_neg (by omega)]; rfl
theorem print_loop (f : List UInt8 × Int → Option (Sum (List UInt8 × Int) (List UInt8 × Int))) (l : List Int) (w : List UInt8) (hl : l.length ≤ 30) (hb : ∀ n ∈ l, -1000000 ≤ n ∧ n ≤ 1000000) (hw : w.length ≤ 5)
    (hs : ∀ (j : Nat) (s : List UInt8), j < l.length → f (s, (j : Int)) = bindO (itoaO (l.getD j default)) fun (y : List UInt8) => ifB (roomS [32] y) (ifB (roomS s (catS [32] y)) (some (Sum.inl (catS s (catS [32] y), wadd IntKind.i64 (j : Int) 1))) none) none)
    (he : ∀ s, f (s, (l.length : Int)) = some (Sum.inr (s, 0))) : loopN maxR f (w, 0) = some (jn 32 (w :: l.map Lib.itoa), 0) := by
  have hh : ∀ n ∈ l, itoaO n = some (Lib.itoa n) ∧ (Lib.itoa n).length ≤ 21 := fun n hn => by
    have := hb n hn
    exact ⟨by unfold itoaO; rw [if_pos (by omega)], Lib.itoa_length_le n (by omega) (by omega)⟩
  have := loop_range l (fun j (s : List UInt8) => (s, (j : Int))) (f := f) (G := fun rest s => some (s ++ (rest.map fun n => 32 :: Lib.itoa n).flatten, 0)) (P := fun j s => s.length ≤ 5 + 22 * j) (s0 := w) ?_ ?_ (by omega) (by omega)
  · rw [show ((0 : Nat) : Int) = 0 from rfl] at this
    rw [this]
    simp only [jn, List.map_map]; rfl
  · intro j s hj hp k hk
    have hm : l.getD j default ∈ l := by simp [List.getD, List.getElem?_eq_getElem hj]
    obtain ⟨h1, h2⟩ := hh _ hm
    rw [hs j s hj, h1, bindO_some]
    generalize l.getD j default = x at *
    rw [ifB_roomS, if_pos (by simp; omega), ifB_roomS, if_pos (by simp [catS]; omega), stepK_inl, wadd_nat (by omega), hk _ (by simp [catS]; omega)]
    simp [catS]
  · intro s _ k
    rw [he, stepK_inr]; simp
theorem print_eq (r : Rc) (hl : r.2.2.2.length < 4611686018427387904) : F_note_Print r = some (printR r) := by
  unfold F_note_Print printR
  have hck : F_note_Check (Prod.fst r, Prod.fst (Prod.snd r), Prod.fst (Prod.snd (Prod.snd r)), Prod.snd (Prod.snd (Prod.snd r))) = some (chkRec r) := noteCheck_eq r hl
  rw [hck, bindO_some, ifB_neI]
  by_cases hc : chkRec r = 0
  · rw [if_pos hc, if_pos hc]
    obtain ⟨k1, k2, k3, k4⟩ := chkRec_kind hc
    obtain ⟨a1, a2⟩ := args_in hc
    obtain ⟨_, _, hw⟩ := kind_word k1 k2
    have hat : atI kindW r.1 = some (kindW.getD r.1.toNat []) := by
      have : r.1 = 1 ∨ r.1 = 2 ∨ r.1 = 3 ∨ r.1 = 4 := by omega
      rcases this with h | h | h | h <;> rw [h] <;> rfl
    rw [words_eq, bindO_some]
    simp only [hat, bindO_some]
    rw [ifB_eqI]
    by_cases h1 : r.1 = 1
    · rw [if_pos h1]
      have he : rcArgs r = flatE r.2.2.2 := by unfold rcArgs; rw [if_pos h1]
      have ht : textR r = jn 32 (kindW.getD r.1.toNat [] :: (flatE r.2.2.2).map Lib.itoa) := by unfold textR; rw [he]
      rw [he] at a1 a2
      have hll := flat_len r.2.2.2
      rw [ht]
      generalize kindW.getD r.1.toNat [] = w at *
      generalize hle : r.2.2.2 = l at *
      refine loop_range l (fun j (s : List Int) => ((j : Int), s)) (G := fun rest s => if s ++ flatE rest = flatE l then some (jn 32 (w :: (flatE l).map Lib.itoa), 0) else none) (P := fun j s => s.length = 3 * j ∧ s ++ flatE (l.drop j) = flatE l) (s0 := []) ?_ ?_ ⟨rfl, rfl⟩ (by omega) |>.trans (by simp)
      · rintro j s hj ⟨hp, hq⟩ k hk
        have hat := atI_nat hj
        have hd : l.drop j = l.getD j default :: l.drop (j + 1) := by rw [List.drop_eq_getElem_cons hj]; simp [List.getD, List.getElem?_eq_getElem hj]
        rw [hd] at hq
        generalize l.getD j default = x at *
        rw [stepK_ifB, stepK_map, ifB_ltI, lenI_eq, if_pos (by omega), hat, stepK_bind, bindO_some, stepK_ifB, stepK_none, stepK_inl, ifB_roomA, if_pos (by simp; omega), wadd_nat (by omega)]
        simp only [cat_eq]
        have hq2 : (s ++ [x.1, x.2.1, x.2.2]) ++ flatE (l.drop (j + 1)) = flatE l := by rw [← hq, flatE]; simp
        rw [hk _ ⟨by simp; omega, hq2⟩, if_pos hq2, if_pos hq]
      · rintro s ⟨hp, hq⟩ k
        rw [List.drop_length] at hq
        have hq' : s = flatE l := by simpa [flatE] using hq
        subst hq'
        rw [stepK_ifB, stepK_map, ifB_ltI, lenI_eq, if_neg (by omega), if_pos hq]
        refine print_loop _ (flatE l) w a1 a2 hw ?_ ?_
        · intro j s hj
          simp only [stepK_none, stepK_inl, stepK_inr, stepK_map, stepK_if, stepK_bind, ifB_t, ifB_f, ifB_same, ifB_ltI, ifB_leI, ifB_gtI, ifB_geI, ifB_eqI, ifB_neI, ifB_not, ifB_and, ifB_eqB, ifB_isE, ifB_in1, ifB_in2, ifB_in1N, ifB_in2N, ifB_in1C, ifB_in2C, ifB_inN, ifB_ltL, ifB_ltN, ifB_roomA, ifB_roomI, ifB_roomZ, ifB_roomS, ifB_eqS, ifB_eqL, ifB_fits, bindO_some, bindO_none, mapO_some, mapO_none, lenI_eq, lenN_eq, cat_eq, takeI_eq, dropI_eq, sliI_eq, setN_eq, natI_eq, intN_eq]
          have hat := atN_nat hj
          rw [if_pos (by omega), if_pos (by omega), show ((j : Int)).toNat = j by omega, hat, bindO_some]
        · intro s
          simp only [stepK_none, stepK_inl, stepK_inr, stepK_map, stepK_if, stepK_bind, ifB_t, ifB_f, ifB_same, ifB_ltI, ifB_leI, ifB_gtI, ifB_geI, ifB_eqI, ifB_neI, ifB_not, ifB_and, ifB_eqB, ifB_isE, ifB_in1, ifB_in2, ifB_in1N, ifB_in2N, ifB_in1C, ifB_in2C, ifB_inN, ifB_ltL, ifB_ltN, ifB_roomA, ifB_roomI, ifB_roomZ, ifB_roomS, ifB_eqS, ifB_eqL, ifB_fits, bindO_some, bindO_none, mapO_some, mapO_none, lenI_eq, lenN_eq, cat_eq, takeI_eq, dropI_eq, sliI_eq, setN_eq, natI_eq, intN_eq]
          rw [if_neg (by omega)]
    · rw [if_neg h1, ifB_eqI]
      by_cases h4 : r.1 = 4
      · rw [if_pos h4]
        have he : rcArgs r = [r.2.2.1] := by unfold rcArgs; rw [if_neg h1, if_pos h4]
        have ht : textR r = jn 32 (kindW.getD r.1.toNat [] :: [r.2.2.1].map Lib.itoa) := by unfold textR; rw [he]
        rw [he] at a1 a2
        rw [ht, ifB_in1, if_pos ⟨by omega, by simp⟩]
        refine print_loop _ [r.2.2.1] _ a1 a2 hw ?_ ?_
        · intro j s hj
          have : j = 0 := by simpa using hj
          subst this
          rfl
        · intro s; rfl
      · rw [if_neg h4]
        have he : rcArgs r = [r.2.1, r.2.2.1] := by unfold rcArgs; rw [if_neg h1, if_neg h4]
        have ht : textR r = jn 32 (kindW.getD r.1.toNat [] :: [r.2.1, r.2.2.1].map Lib.itoa) := by unfold textR; rw [he]
        rw [he] at a1 a2
        rw [ht]
        refine print_loop _ [r.2.1, r.2.2.1] _ a1 a2 hw ?_ ?_
        · intro j s hj
          have : j = 0 ∨ j = 1 := by simp at hj; omega
          rcases this with rfl | rfl <;> rfl
        · intro s; rfl
  · rw [if_neg hc, if_neg hc]
end Go.Proofs.Y
namespace Go.Proofs.Y
open Go.Rb Go.Kx
theorem sp_wlen (c : UInt8) : ∀ l, ∀ w ∈ sp c l, w.length ≤ l.length
  | [], w, hw => by simp [sp] at hw; subst hw; simp
  | b :: l, w, hw => by
    have ih := sp_wlen c l
    have hn := sp_ne c l
    unfold sp at hw
    split at hw
    · rcases List.mem_cons.1 hw with rfl | hw
      · simp
      · have := ih w hw; simp; omega
    · split at hw
      · rename_i h2; exact absurd h2 hn
      · rename_i v r h2
        rw [h2] at ih
        rcases List.mem_cons.1 hw with rfl | hw
        · have := ih v (by simp); simp; omega
        · have := ih w (by simp [hw]); simp; omega
def endP (k : Int) (ns : List Int) : Rc × Int := match recOf k ns with
  | none => (noRec, 1)
  | some r => if chkRec r = 0 then (r, 0) else (noRec, chkRec r)
theorem parseW_eq (w : List UInt8) (xs : List (List UInt8)) : parseW w xs = match nums xs with | none => (noRec, 1) | some ns => endP (ixW kindW w 0) ns := rfl
theorem trip_len : ∀ (n : Nat) (l : List Int), l.length = 3 * n → (trip l).length = n
  | 0, l, h => by have := List.eq_nil_of_length_eq_zero (show l.length = 0 by omega); subst this; rfl
  | n + 1, l, h => by
    match l, h with
    | a :: b :: c :: r, h => rw [trip, List.length_cons, trip_len n r (by simp at h; omega)]
    | [], h => simp at h
    | [_], h => simp at h; omega
    | [_, _], h => simp at h; omega
theorem trip_get : ∀ (n : Nat) (l : List Int) (j : Nat), l.length = 3 * n → j < n → (trip l).getD j default = (l.getD (3 * j) default, l.getD (3 * j + 1) default, l.getD (3 * j + 2) default)
  | 0, l, j, h, hj => by omega
  | n + 1, l, j, h, hj => by
    match l, h with
    | a :: b :: c :: r, h =>
      rw [trip]
      cases j with
      | zero => rfl
      | succ j =>
        have := trip_get n r j (by simp at h; omega) (by omega)
        rw [show 3 * (j + 1) = 3 * j + 3 by omega]
        simpa [List.getD] using this
    | [], h => simp at h
    | [_], h => simp at h; omega
    | [_, _], h => simp at h; omega
theorem wrem3 (n : Nat) : wrem (n : Int) 3 = ((n % 3 : Nat) : Int) := by unfold wrem; rw [Int.tmod_eq_emod_of_nonneg (by omega)]; omega
theorem chkend (r : Rc) (hl : r.2.2.2.length < 4611686018427387904) : (bindO (F_note_Check r) fun (y : Int) => ifB (neI y 0) (some (((0, 0, 0, []) : Rc), y)) (some (r, (0 : Int)))) = some (if chkRec r = 0 then (r, 0) else (noRec, chkRec r)) := by
  rw [noteCheck_eq r hl, bindO_some, ifB_neI]
  split
  · rfl
  · rfl
theorem parse_eq (s : List UInt8) : F_note_Parse s = some (parseR s) := by
  unfold F_note_Parse parseR
  rw [ifB_gtI, lenI_eq]
  by_cases hlen : 60000 < s.length
  · rw [if_pos (by omega), if_pos hlen]; rfl
  · rw [if_neg (by omega), if_neg hlen]
    have hsp : splitO s [32] = some (sp 32 s) := by unfold splitO; rw [if_pos ⟨by omega, by simp⟩, split_words]
    rw [hsp, bindO_some, words_eq, bindO_some]
    have hwl := sp_wlen 32 s
    have hsl := sp_len 32 s
    have hne := sp_ne 32 s
    generalize sp 32 s = ws at *
    cases ws with
    | nil => exact absurd rfl hne
    | cons w xs =>
    rw [show atI (w :: xs) 0 = some w from rfl, bindO_some, index_eq kindW w (by decide), bindO_some, parseW_eq]
    simp only [List.headD_cons, List.tail_cons]
    generalize ixW kindW w 0 = q
    rw [ifB_in1, if_pos ⟨by omega, by simp; omega⟩]
    simp only [show dropI (w :: xs) 1 = xs from rfl]
    have hxl : xs.length ≤ 60000 := by simp at hsl; omega
    have hxw : ∀ x ∈ xs, x.length ≤ 60000 := fun x hx => by have := hwl x (by simp [hx]); omega
    refine (loop_range xs (fun j (a : List Int) => ((j : Int), 0, 0, 0, [], a)) (G := fun rest a => some (match nums rest with | none => (noRec, 1) | some ns => endP q (a ++ ns))) (P := fun j a => a.length = j) (s0 := []) ?_ ?_ rfl (by omega)).trans ?_
    · intro j a hj hp k hk
      have hat := atI_nat hj
      have hm : xs.getD j default ∈ xs := by simp [List.getD, List.getElem?_eq_getElem hj]
      have hx := hxw _ hm
      generalize xs.getD j default = x at *
      rw [stepK_ifB, ifB_ltI, lenI_eq, if_pos (by omega), hat, bindO_some]
      have ha : atoiO x = some (endO (Lib.atoiAll x) (Lib.atoiSat x)) := by unfold atoiO; rw [if_pos (by omega)]
      rw [ha, bindO_some, nums]
      rcases hv : Lib.atoiAll x with v | _ | _
      · have hb := Lib.atoiAll_bounds hv
        have hi : itoaO v = some (Lib.itoa v) := by unfold itoaO; rw [if_pos hb]
        simp only [endO]
        rw [ifB_f, hi, bindO_some, stepK_ifB, ifB_not, ifB_eqS]
        by_cases he : Lib.itoa v = x
        · rw [if_pos he, if_pos he, stepK_ifB, ifB_roomA, if_pos (by simp; omega), stepK_inl, wadd_nat (by omega)]
          simp only [cat_eq]
          rw [hk _ (by simp; omega)]
          cases nums (xs.drop (j + 1)) with
          | none => rfl
          | some ns => simp
        · rw [if_neg he, if_neg he]; rfl
      · rfl
      · rfl
    · intro a hp k
      have hal : a.length ≤ 60000 := by omega
      clear hp hxw hwl
      rw [stepK_ifB, stepK_map, ifB_ltI, lenI_eq, if_neg (by omega)]
      simp only [nums, List.append_nil]
      rw [ifB_eqI]
      by_cases h1 : q = 1
      · subst h1
        rw [if_pos rfl, ifB_eqI, lenI_eq, wrem3]
        by_cases h3 : a.length % 3 = 0
        · rw [if_pos (by omega)]
          have hn : a.length = 3 * (a.length / 3) := by omega
          have htl := trip_len _ a hn
          have he : endP 1 a = if chkRec (1, 0, 0, trip a) = 0 then ((1, 0, 0, trip a), 0) else (noRec, chkRec (1, 0, 0, trip a)) := by unfold endP recOf; rw [if_pos rfl, if_pos h3]
          rw [he]
          refine (loop_range (trip a) (fun j (es : List Ent) => (((3 * j : Nat) : Int), es)) (G := fun rest es => some (if chkRec (1, 0, 0, es ++ rest) = 0 then (((1, 0, 0, es ++ rest) : Rc), 0) else (noRec, chkRec (1, 0, 0, es ++ rest)))) (P := fun j es => es.length = j) (s0 := []) ?_ ?_ rfl (by omega)).trans (by simp)
          · intro j es hj hp k hk
            rw [htl] at hj
            have hg := trip_get _ a j hn hj
            rw [hg]
            have e0 := atN_nat (show 3 * j < a.length by omega)
            have e1 := atN_nat (show 3 * j + 1 < a.length by omega)
            have e2 := atN_nat (show 3 * j + 2 < a.length by omega)
            generalize a.getD (3 * j) default = x0 at *
            generalize a.getD (3 * j + 1) default = x1 at *
            generalize a.getD (3 * j + 2) default = x2 at *
            have w1 : wadd .i64 ((3 * j : Nat) : Int) 1 = ((3 * j + 1 : Nat) : Int) := by rw [wadd_in ⟨by omega, by omega⟩]; rfl
            have w2 : wadd .i64 ((3 * j : Nat) : Int) 2 = ((3 * j + 2 : Nat) : Int) := by rw [wadd_in ⟨by omega, by omega⟩]; rfl
            have w3 : wadd .i64 ((3 * j : Nat) : Int) 3 = ((3 * (j + 1) : Nat) : Int) := by rw [wadd_in ⟨by omega, by omega⟩]; omega
            rw [stepK_ifB, ifB_ltI, if_pos (show ((3 * j : Nat) : Int) < a.length by omega)]
            simp only [w1, w2, w3, natI_eq, Int.toNat_natCast]
            rw [stepK_ifB, ifB_ltL, if_pos (by omega), e0, bindO_some, stepK_ifB, ifB_ltL, if_pos (by omega), e1, bindO_some, stepK_ifB, ifB_ltL, if_pos (by omega), e2, bindO_some, stepK_ifB, ifB_roomA, if_pos (by simp; omega), stepK_inl]
            simp only [cat_eq]
            rw [hk _ (by simp; omega)]
            simp
          · intro es hp k
            rw [stepK_ifB, stepK_map, ifB_ltI, if_neg (show ¬ ((3 * (trip a).length : Nat) : Int) < a.length by omega), List.append_nil]
            exact chkend (1, 0, 0, es) (by simp; omega)
        · rw [if_neg (by omega)]
          unfold endP recOf
          rw [if_pos rfl, if_neg h3]
          rfl
      · rw [if_neg h1]
        by_cases h2 : a.length = 2
        · match a, h2 with
          | [x, y], _ =>
            have c2 := chkend (q, x, y, []) (by simp)
            rw [ifB_eqI, ifB_eqI]
            by_cases k2 : q = 2
            · rw [if_pos k2]
              have : endP q [x, y] = if chkRec (q, x, y, []) = 0 then ((q, x, y, []), 0) else (noRec, chkRec (q, x, y, [])) := by unfold endP recOf; rw [if_neg h1, if_pos (.inl k2)]
              rw [this]
              exact c2
            · rw [if_neg k2, ifB_eqI]
              by_cases k3 : q = 3
              · rw [if_pos k3]
                have : endP q [x, y] = if chkRec (q, x, y, []) = 0 then ((q, x, y, []), 0) else (noRec, chkRec (q, x, y, [])) := by unfold endP recOf; rw [if_neg h1, if_pos (.inr k3)]
                rw [this]
                exact c2
              · rw [if_neg k3, ifB_eqI]
                unfold endP recOf
                rw [if_neg h1, if_neg (show ¬ (q = 2 ∨ q = 3) by omega)]
                by_cases k4 : q = 4
                · rw [if_pos k4, if_pos k4]; rfl
                · rw [if_neg k4, if_neg k4]; rfl
        · have g2 : ¬ (lenI a = 2) := by rw [lenI_eq]; omega
          have r2 : ∀ k : Int, (k = 2 ∨ k = 3) → recOf k a = none := by
            intro k hk
            unfold recOf
            rw [if_neg (by omega), if_pos hk]
            match a, h2 with
            | [], _ => rfl
            | [_], _ => rfl
            | _ :: _ :: _ :: _, _ => rfl
          simp only [ifB_eqI, if_neg g2]
          by_cases k4 : q = 4
          · subst k4
            by_cases l1 : a.length = 1
            · match a, l1 with
              | [x], _ => exact chkend (4, 0, x, []) (by simp)
            · have g1 : ¬ (lenI a = 1) := by rw [lenI_eq]; omega
              have : endP 4 a = (noRec, 1) := by
                unfold endP recOf
                rw [if_neg (by omega), if_neg (by omega), if_pos rfl]
                match a, l1 with
                | [], _ => rfl
                | _ :: _ :: _, _ => rfl
              rw [this]
              simp only [if_neg g1]
              rfl
          · simp only [if_neg k4]
            have : endP q a = (noRec, 1) := by
              unfold endP
              by_cases hk : q = 2 ∨ q = 3
              · rw [r2 q hk]
              · unfold recOf; rw [if_neg h1, if_neg hk, if_neg k4]
            rw [this]
            split
            · rfl
            · split <;> rfl
    · cases nums xs <;> rfl
end Go.Proofs.Y
namespace Go.Proofs.Y
open Go.Rb Go.Kx
theorem strB_bytB (s : List UInt8) : strB (bytB s) = s := by
  unfold strB bytB
  rw [List.map_map]
  have : ((fun n : Int => UInt8.ofNat n.toNat) ∘ fun b : UInt8 => (b.toNat : Int)) = id := by
    funext b; simp
  rw [this, List.map_id]
theorem bytB_lenN (s : List UInt8) : (bytB s).length = s.length := by unfold bytB; rw [List.length_map]
theorem bytB_app (s t : List UInt8) : bytB (s ++ t) = bytB s ++ bytB t := by unfold bytB; rw [List.map_append]
theorem bytB_take (s : List UInt8) (k : Nat) : (bytB s).take k = bytB (s.take k) := by unfold bytB; rw [List.map_take]
def bD (d : List UInt8 × List UInt8) : List Int × List Int := (bytB d.1, bytB d.2)
theorem lines_eq (s : List UInt8) (most : Int) (hl : s.length ≤ 60000) : F_disk_lines s most = some (lnP most s) := by
  unfold F_disk_lines
  have key := loop_ind (f := fun (x : List UInt8 × List (Int × Int × Int × List (Int × Int × Int))) =>
      ifB (notB (eqS (Prod.fst x) []))
        (bindO (cutO (Prod.fst x) [10])
          fun (y : List UInt8 × List UInt8 × Bool) =>
          ifB (notB (Prod.snd (Prod.snd y))) (mapO Sum.inr (some (Prod.snd x, wsub IntKind.i64 (lenI s) (lenI (Prod.fst x)), 8)))
            (bindO (F_note_Parse (Prod.fst y)) fun (y_1 : (Int × Int × Int × List (Int × Int × Int)) × Int) =>
              ifB (neI (Prod.snd y_1) 0) (mapO Sum.inr (some (Prod.snd x, wsub IntKind.i64 (lenI s) (lenI (Prod.fst x)), Prod.snd y_1)))
                (ifB (eqI (lenI (Prod.snd x)) most) (mapO Sum.inr (some (Prod.snd x, wsub IntKind.i64 (lenI s) (lenI (Prod.fst x)), 2)))
                  (ifB
                    (roomA 48 (Prod.snd x)
                      [(Prod.fst (Prod.fst y_1), Prod.fst (Prod.snd (Prod.fst y_1)), Prod.fst (Prod.snd (Prod.snd (Prod.fst y_1))),
                          Prod.snd (Prod.snd (Prod.snd (Prod.fst y_1))))])
                    (some
                      (Sum.inl
                        (Prod.fst (Prod.snd y),
                          cat (Prod.snd x)
                            [(Prod.fst (Prod.fst y_1), Prod.fst (Prod.snd (Prod.fst y_1)), Prod.fst (Prod.snd (Prod.snd (Prod.fst y_1))),
                                Prod.snd (Prod.snd (Prod.snd (Prod.fst y_1))))])))
                    none))))
        (mapO Sum.inr (some (Prod.snd x, lenI s, 0))))
    (G := fun x => some (lnW most s.length (sp 10 x.1) x.2)) (P := fun x => x.1.length + x.2.length ≤ s.length) (μ := fun x => x.1.length) ?_ maxR (s, []) (by simp) (by unfold maxR; simp only; omega)
  · exact key
  · rintro ⟨t, acc⟩ hp k hk
    simp only at hp hk ⊢
    have hw : wsub .i64 (lenI s) (lenI t) = (s.length : Int) - t.length := by rw [lenI_eq, lenI_eq, wsub_in ⟨by omega, by omega⟩]
    rw [stepK_ifB, ifB_not, ifB_eqS]
    by_cases h0 : t = []
    · subst h0
      rw [if_pos rfl, stepK_map]
      rfl
    · rw [if_neg h0, hw]
      have hc : cutO t [10] = some (Lib.cut t [10]) := by unfold cutO; rw [if_pos (by omega)]
      rw [hc, bindO_some, stepK_ifB, stepK_map, ifB_not]
      rcases sp_cases 10 t with hn | ⟨w, l, rfl, hn⟩
      · rw [cut_none hn]
        show some _ = _
        rw [sp_none 10 hn, lnW, if_pos rfl, if_neg h0]
      · rw [cut_some hn]
        simp only [ifB_t]
        rw [parse_eq, bindO_some, stepK_ifB, stepK_map, ifB_neI, stepK_ifB, stepK_map, ifB_eqI, lenI_eq, sp_app 10 w l hn, lnW, if_neg (sp_ne 10 l), jn_cons 10 w (sp_ne 10 l), jn_sp]
        split
        · split
          · rfl
          · simp only [List.length_append, List.length_cons] at hp hk
            rw [stepK_ifB, stepK_inl, ifB_roomA, if_pos (by simp; omega)]
            simp only [cat_eq]
            exact hk _ (by simp; omega) (by simp only; omega)
        · rfl
theorem diskCheck_eq (d : List UInt8 × List UInt8) (h1 : d.1.length < 4611686018427387904) (h2 : d.2.length < 4611686018427387904) : F_disk_Check (bytB d.1, bytB d.2) = some (dCheck d) := by
  unfold F_disk_Check dCheck
  simp only [lenI_eq, bytB_lenN, ifB_gtI, strB_bytB]
  rw [wsub_in ⟨by omega, by omega⟩]
  by_cases k1 : 60000 < d.1.length
  · rw [if_pos (by omega), if_pos k1]
  · rw [if_neg (by omega), if_neg k1, lines_eq _ _ (by omega), bindO_some]
    by_cases k2 : 60000 - d.1.length < d.2.length
    · rw [if_pos (by omega), if_pos k2]
    · rw [if_neg (by omega), if_neg k2]
theorem cloneBy_eq (s : List UInt8) (h : s.length ≤ 60000) : F_cloneBy (bytB s) = some (bytB s) := by
  unfold F_cloneBy
  exact clone_gen 1 (bytB s) (by rw [bytB_lenN]; omega) (by rw [bytB_lenN]; omega)
theorem concatBy_eq (s t : List UInt8) (h : s.length + t.length ≤ 60000) : F_concatBy [bytB s, bytB t] = some (bytB (s ++ t)) := by
  unfold F_concatBy
  rw [bytB_app, ← flatten2]
  refine concat_gen 1 0 [bytB s, bytB t] (by simp) (by omega) ?_ (by omega)
  rw [flatten2, List.length_append, bytB_lenN, bytB_lenN]; omega
theorem dPut_eq (d : List UInt8 × List UInt8) (r : Rc) (h1 : d.1.length < 4611686018427387904) (h2 : d.2.length < 4611686018427387904) (hl : r.2.2.2.length < 4611686018427387904) : F_disk_Put (bytB d.1, bytB d.2) r = some (bD (dPut d r).1, (dPut d r).2) := by
  unfold F_disk_Put dPut
  rw [diskCheck_eq d h1 h2, bindO_some, ifB_neI]
  by_cases hc : dCheck d = 0
  · have hlen := dCheck_len hc
    rw [if_pos hc, if_pos hc, show F_note_Print (Prod.fst r, Prod.fst (Prod.snd r), Prod.fst (Prod.snd (Prod.snd r)), Prod.snd (Prod.snd (Prod.snd r))) = some (printR r) from print_eq r hl, bindO_some, ifB_neI]
    unfold printR
    by_cases hr : chkRec r = 0
    · have ht := textR_len hr
      simp only [if_pos hr, lenI_eq, bytB_lenN, ifB_gtI]
      rw [wadd_in ⟨by omega, by omega⟩, wsub_in (a := 60000) ⟨by omega, by omega⟩, wsub_in ⟨by omega, by omega⟩]
      simp only [if_true]
      by_cases hf : 60000 - (d.1.length : Int) - d.2.length < (textR r).length + 1
      · rw [if_pos hf, if_pos hf]; rfl
      · rw [if_neg hf, if_neg hf, cloneBy_eq _ (by omega), bindO_some, cloneBy_eq _ (by omega), bindO_some, ifB_roomA, if_pos (by rw [bytB_lenN, bytB_lenN]; omega), ifB_roomA, if_pos (by rw [cat_eq, List.length_append, bytB_lenN, bytB_lenN]; simp; omega)]
        simp only [cat_eq, bD, lineT, bytB_app, List.append_assoc]
        rfl
    · simp only [if_neg hr]; rfl
  · rw [if_neg hc, if_neg hc]; rfl
theorem dSync_eq (d : List UInt8 × List UInt8) (h1 : d.1.length < 4611686018427387904) (h2 : d.2.length < 4611686018427387904) : F_disk_Sync (bytB d.1, bytB d.2) = some (bD (dSync d).1, (dSync d).2) := by
  unfold F_disk_Sync dSync
  rw [diskCheck_eq d h1 h2, bindO_some, ifB_neI]
  by_cases hc : dCheck d = 0
  · have hlen := dCheck_len hc
    rw [if_pos hc, if_pos hc]
    have e2 := diskCheck_eq (d.1 ++ d.2, []) (by simp; omega) (by simp)
    simp only at e2
    rw [concatBy_eq _ _ hlen, bindO_some, show F_disk_Check (bytB (d.1 ++ d.2), []) = some (dCheck (d.1 ++ d.2, [])) from e2, bindO_some, ifB_neI]
    split <;> rfl
  · rw [if_neg hc, if_neg hc]; rfl
theorem dCrash_eq (d : List UInt8 × List UInt8) (n : Int) (h1 : d.1.length < 4611686018427387904) (h2 : d.2.length < 4611686018427387904) : F_disk_Crash (bytB d.1, bytB d.2) n = some (bD (dCrash d n).1, (dCrash d n).2) := by
  unfold F_disk_Crash dCrash
  rw [diskCheck_eq d h1 h2, bindO_some, ifB_neI]
  by_cases hc : dCheck d = 0
  · have hlen := dCheck_len hc
    simp only [if_pos hc, lenI_eq, bytB_lenN, ifB_gtI, ifB_ltI]
    by_cases k1 : n < 0
    · rw [if_pos k1, if_pos (.inl k1)]; rfl
    · rw [if_neg k1]
      by_cases k2 : (d.2.length : Int) < n
      · rw [if_pos k2, if_pos (.inr k2)]; rfl
      · rw [if_neg k2, if_neg (by omega), cloneBy_eq _ (by omega), bindO_some, ifB_in1, if_pos ⟨by omega, by rw [bytB_lenN]; omega⟩, takeI_eq, bytB_take, cloneBy_eq _ (by rw [List.length_take]; omega)]
        rfl
  · rw [if_neg hc, if_neg hc]; rfl
theorem dRecover_eq (d : List UInt8 × List UInt8) (h1 : d.1.length < 4611686018427387904) (h2 : d.2.length < 4611686018427387904) : F_disk_Recover (bytB d.1, bytB d.2) = some (bD (dRecover d).1, (dRecover d).2) := by
  unfold F_disk_Recover dRecover
  rw [diskCheck_eq d h1 h2, bindO_some, ifB_neI]
  by_cases hc : dCheck d = 0
  · have hlen := dCheck_len hc
    have n1 := lnP_len 60 d.1
    have hm := lnP_n (60 - ((lnP 60 d.1).1.length : Int)) d.2
    have n2 := lnP_len (60 - ((lnP 60 d.1).1.length : Int)) d.2
    rw [if_pos hc, if_pos hc]
    simp only [strB_bytB]
    rw [lines_eq _ _ (by omega), bindO_some, lenI_eq, wsub_in ⟨by omega, by omega⟩, lines_eq _ _ (by omega), bindO_some, ifB_in1, if_pos ⟨hm.1, by rw [bytB_lenN]; exact hm.2⟩, takeI_eq, bytB_take, concatBy_eq _ _ (by rw [List.length_take]; omega), bindO_some, ifB_roomA, if_pos (by omega)]
    rfl
  · rw [if_neg hc, if_neg hc]; rfl
theorem at_some (a b : Int) (hb : 0 < b) (hb2 : b ≤ 4611686018427387904) : ∃ n, F_rainbooklaw_at a b = some n ∧ 0 ≤ n ∧ n < b := by
  unfold F_rainbooklaw_at wrem
  rw [ifB_eqI, if_neg (by omega), ifB_ltI]
  have h1 := Int.tmod_lt_of_pos a hb
  have h2 : -b < a.tmod b := by
    have := Int.tmod_lt_of_pos (-a) hb
    rw [Int.neg_tmod] at this
    omega
  by_cases h : a.tmod b < 0
  · rw [if_pos h, wadd_in ⟨by omega, by omega⟩]
    exact ⟨_, rfl, by omega, by omega⟩
  · rw [if_neg h]
    exact ⟨_, rfl, by omega, h1⟩
end Go.Proofs.Y
namespace Go.Proofs.Y
open Go.Rb Go.Kx
theorem dRecover_text {L M : List Rc} {t : List UInt8} (hL : ∀ r ∈ L, chkRec r = 0) (hM : ∀ r ∈ M, chkRec r = 0) (ht : ∀ x ∈ t, x ≠ 10) (hn : L.length + M.length ≤ 60) (hl : (textL L).length + (textL M ++ t).length ≤ 60000) : dRecover (textL L, textL M ++ t) = ((textL (L ++ M), []), L ++ M, 0) := by
  have hc := dCheck_text (w := textL M ++ t) hL (by omega) hl
  have h1 := lnP_whole (most := 60) hL (by omega)
  have h2 := lnP_text (most := 60 - (L.length : Int)) (t := t) hM (by omega) ht
  unfold dRecover dMore
  rw [if_pos hc]
  simp only [h1, h2, Int.toNat_natCast, List.take_left, textL_app]
theorem small_rec {r : Rc} (h : chkRec r = 0) : r.2.2.2.length < 4611686018427387904 := by
  obtain ⟨k1, k2, k3, k4⟩ := chkRec_kind h
  by_cases hk : r.1 = 1
  · have := (k3 hk).2.2.1; omega
  · rw [(k4 hk).1]; decide
end Go.Proofs.Y
namespace Go.Proofs.Y
open Go.Rb Go.Kx
noncomputable def C_world_Check : Code := bodyOf Tryz.f24
noncomputable def G_world_Check : FuncId → Option GS := tabG [(34, R_disk_Recover), (28, R_store_Replay), (35, R_shelf_Same)]
theorem g_world_Check : ΓOK Tryz.prog G_world_Check := ΓOK_cons (R_disk_Recover_ok) (ΓOK_cons (R_store_Replay_ok) (ΓOK_cons (R_shelf_Same_ok) (ΓOK_nil)))
def H_world_Check : HT := ⟨tabL [(14, .it [] (dyn [.t 53 (.int .i64)]))], tabH []⟩
abbrev is_world_Check : List IT := [.v (.cons (.sl 95 (.cons (.sl 126 (.cons (.int .i64) (.cons (.int .i64) (.cons (.int .i64) (.one (.sl 4 (.one .bool))))))) (.one (.sl 73 (.cons (.int .i64) (.one (.int .i64))))))) (.cons (.sl 5 (.one (.int .u8))) (.cons (.sl 5 (.one (.int .u8))) (.cons (.bool) (.one (.sl 3 (.one (.int .i64)))))))) true]
abbrev os_world_Check : List OT := [⟨.one (.int .i64), false, []⟩]
set_option maxRecDepth 100000
noncomputable def F_world_Check : List (List (Int × Int × Int × List Bool) × List (Int × Int)) × List Int × List Int × Bool × List Int → Option Int := fun (a : List (List (Int × Int × Int × List Bool) × List (Int × Int)) × List Int × List Int × Bool × List Int) => bindO (F_disk_Recover (a.2.1, a.2.2.1)) fun (y : (List Int × List Int) × List (Int × Int × Int × List (Int × Int × Int)) × Int) => ifB (neI y.2.2 0) (some y.2.2) (ifB a.2.2.2.1 (ifB (gtI (lenI a.2.2.1) 0) (some 4) (ifB (notB a.2.2.2.1) (bindO (F_store_Replay []) fun (y : List (List (Int × Int × Int × List Bool) × List (Int × Int)) × Int) => ifB (neI y.2 0) (some y.2) (bindO (F_shelf_Same y.1 a.1) fun (y : Bool) => ifB (notB y) (some 4) (ifB (neI (lenI a.2.2.2.2) 3) (some 4) (loopN maxR (fun (x : Int) => ifB (ltI x (lenI a.2.2.2.2)) (bindO (atI a.2.2.2.2 x) fun (y : Int) => ifB (ltI y (-1)) (mapO Sum.inr (some 3)) (ifB (gtI y 0) (mapO Sum.inr (some 3)) (ifB (notB a.2.2.2.1) (ifB (neI y (-1)) (mapO Sum.inr (some 3)) (some (Sum.inl (wadd .i64 x 1)))) (some (Sum.inl (wadd .i64 x 1)))))) (mapO Sum.inr (some 0))) 0)))) (bindO (F_store_Replay y.2.1) fun (y_1 : List (List (Int × Int × Int × List Bool) × List (Int × Int)) × Int) => ifB (neI y_1.2 0) (some y_1.2) (bindO (F_shelf_Same y_1.1 a.1) fun (y_2 : Bool) => ifB (notB y_2) (some 4) (ifB (neI (lenI a.2.2.2.2) 3) (some 4) (loopN maxR (fun (x : Int) => ifB (ltI x (lenI a.2.2.2.2)) (bindO (atI a.2.2.2.2 x) fun (y_3 : Int) => ifB (ltI y_3 (-1)) (mapO Sum.inr (some 3)) (ifB (gtI y_3 (lenI y.2.1)) (mapO Sum.inr (some 3)) (ifB (notB a.2.2.2.1) (ifB (neI y_3 (-1)) (mapO Sum.inr (some 3)) (some (Sum.inl (wadd .i64 x 1)))) (some (Sum.inl (wadd .i64 x 1)))))) (mapO Sum.inr (some 0))) 0)))))) (ifB (notB a.2.2.2.1) (bindO (F_store_Replay []) fun (y : List (List (Int × Int × Int × List Bool) × List (Int × Int)) × Int) => ifB (neI y.2 0) (some y.2) (bindO (F_shelf_Same y.1 a.1) fun (y : Bool) => ifB (notB y) (some 4) (ifB (neI (lenI a.2.2.2.2) 3) (some 4) (loopN maxR (fun (x : Int) => ifB (ltI x (lenI a.2.2.2.2)) (bindO (atI a.2.2.2.2 x) fun (y : Int) => ifB (ltI y (-1)) (mapO Sum.inr (some 3)) (ifB (gtI y 0) (mapO Sum.inr (some 3)) (ifB (notB a.2.2.2.1) (ifB (neI y (-1)) (mapO Sum.inr (some 3)) (some (Sum.inl (wadd .i64 x 1)))) (some (Sum.inl (wadd .i64 x 1)))))) (mapO Sum.inr (some 0))) 0)))) (bindO (F_store_Replay y.2.1) fun (y_1 : List (List (Int × Int × Int × List Bool) × List (Int × Int)) × Int) => ifB (neI y_1.2 0) (some y_1.2) (bindO (F_shelf_Same y_1.1 a.1) fun (y_2 : Bool) => ifB (notB y_2) (some 4) (ifB (neI (lenI a.2.2.2.2) 3) (some 4) (loopN maxR (fun (x : Int) => ifB (ltI x (lenI a.2.2.2.2)) (bindO (atI a.2.2.2.2 x) fun (y_3 : Int) => ifB (ltI y_3 (-1)) (mapO Sum.inr (some 3)) (ifB (gtI y_3 (lenI y.2.1)) (mapO Sum.inr (some 3)) (ifB (notB a.2.2.2.1) (ifB (neI y_3 (-1)) (mapO Sum.inr (some 3)) (some (Sum.inl (wadd .i64 x 1)))) (some (Sum.inl (wadd .i64 x 1)))))) (mapO Sum.inr (some 0))) 0))))))
theorem F_world_Check_eq (x : PI is_world_Check) : F_world_Check x = fnE T G_world_Check H_world_Check C_world_Check (resOf Tryz.f24) is_world_Check os_world_Check x := by kernel_rfl
noncomputable abbrev R_world_Check : GS := mkSpec false is_world_Check os_world_Check fun x => F_world_Check x
theorem R_world_Check_ok : GSOK Tryz.prog 24 R_world_Check := spec_ok tok g_world_Check fmo (Ht := H_world_Check) (fn := Tryz.f24) (Tryz.func24) (c := C_world_Check) (by kernel_rfl) (by kernel_rfl) (by kernel_rfl) (by decide +kernel) (by decide) F_world_Check_eq
end Go.Proofs.Y
namespace Go.Proofs.Y
open Go.Rb Go.Kx
noncomputable def C_shCopyD : Code := bodyOf Tryz.f107
noncomputable def G_shCopyD : FuncId → Option GS := tabG [(137, R_cloneRw), (138, R_cloneBk), (139, R_cloneP), (140, R_block_Copy)]
theorem g_shCopyD : ΓOK Tryz.prog G_shCopyD := ΓOK_cons (R_cloneRw_ok) (ΓOK_cons (R_cloneBk_ok) (ΓOK_cons (R_cloneP_ok) (ΓOK_cons (R_block_Copy_ok) (ΓOK_nil))))
def H_shCopyD : HT := ⟨tabL [(3, .unroll 5), (7, .it [] (dyn [.t 33 (.int .i64), .b 29 0 126 (.cons (.int .i64) (.cons (.int .i64) (.cons (.int .i64) (.one (.sl 4 (.one .bool))))))]))], tabH [(2, [.expl 1 0]), (12, [.frzq 1 0 0, .frzq 1 0 1, .frzq 1 0 2, .frzq 1 0 3, .frzq 1 0 4, .frzq 1 0 5, .frzq 1 0 6, .frzq 1 0 7, .pack 1 0 (.cons (.sl 126 (.cons (.int .i64) (.cons (.int .i64) (.cons (.int .i64) (.one (.sl 4 (.one .bool))))))) (.one (.sl 73 (.cons (.int .i64) (.one (.int .i64))))))])]⟩
abbrev is_shCopyD : List IT := [.v (.one (.sl 95 (.cons (.sl 126 (.cons (.int .i64) (.cons (.int .i64) (.cons (.int .i64) (.one (.sl 4 (.one .bool))))))) (.one (.sl 73 (.cons (.int .i64) (.one (.int .i64)))))))) true]
abbrev os_shCopyD : List OT := [⟨.one (.sl 95 (.cons (.sl 126 (.cons (.int .i64) (.cons (.int .i64) (.cons (.int .i64) (.one (.sl 4 (.one .bool))))))) (.one (.sl 73 (.cons (.int .i64) (.one (.int .i64))))))), true, []⟩]
set_option maxRecDepth 100000
noncomputable def F_shCopyD : List (List (Int × Int × Int × List Bool) × List (Int × Int)) → Option (List (List (Int × Int × Int × List Bool) × List (Int × Int))) := fun (a : List (List (Int × Int × Int × List Bool) × List (Int × Int))) => bindO (F_cloneRw a) fun (y : List (List (Int × Int × Int × List Bool) × List (Int × Int))) => bindO (four y) fun (y : (List (Int × Int × Int × List Bool) × List (Int × Int)) × (List (Int × Int × Int × List Bool) × List (Int × Int)) × (List (Int × Int × Int × List Bool) × List (Int × Int)) × List (Int × Int × Int × List Bool) × List (Int × Int)) => bindO (F_cloneBk y.1.1) fun (y_1 : List (Int × Int × Int × List Bool)) => bindO (F_cloneP y.1.2) fun (y_2 : List (Int × Int)) => loopN maxR (fun (x : Int × List (Int × Int × Int × List Bool)) => ifB (ltI x.1 (lenI y.1.1)) (bindO (atI y.1.1 x.1) fun (y : Int × Int × Int × List Bool) => bindO (F_block_Copy (y.1, y.2.1, y.2.2.1, y.2.2.2)) fun (y : Int × Int × Int × List Bool) => ifB (ltL x.1 x.2) (bindO (atN x.2 (natI x.1)) fun (y_3 : Int × Int × Int × List Bool) => some (Sum.inl (wadd .i64 x.1 1, setN x.2 (natI x.1) (y.1, y.2.1, y.2.2.1, y.2.2.2)))) none) (mapO Sum.inr (bindO (F_cloneBk y.2.1.1) fun (y_3 : List (Int × Int × Int × List Bool)) => bindO (F_cloneP y.2.1.2) fun (y_4 : List (Int × Int)) => loopN maxR (fun (x_1 : Int × List (Int × Int × Int × List Bool)) => ifB (ltI x_1.1 (lenI y.2.1.1)) (bindO (atI y.2.1.1 x_1.1) fun (y : Int × Int × Int × List Bool) => bindO (F_block_Copy (y.1, y.2.1, y.2.2.1, y.2.2.2)) fun (y : Int × Int × Int × List Bool) => ifB (ltL x_1.1 x_1.2) (bindO (atN x_1.2 (natI x_1.1)) fun (y_5 : Int × Int × Int × List Bool) => some (Sum.inl (wadd .i64 x_1.1 1, setN x_1.2 (natI x_1.1) (y.1, y.2.1, y.2.2.1, y.2.2.2)))) none) (mapO Sum.inr (bindO (F_cloneBk y.2.2.1.1) fun (y_5 : List (Int × Int × Int × List Bool)) => bindO (F_cloneP y.2.2.1.2) fun (y_6 : List (Int × Int)) => loopN maxR (fun (x_2 : Int × List (Int × Int × Int × List Bool)) => ifB (ltI x_2.1 (lenI y.2.2.1.1)) (bindO (atI y.2.2.1.1 x_2.1) fun (y : Int × Int × Int × List Bool) => bindO (F_block_Copy (y.1, y.2.1, y.2.2.1, y.2.2.2)) fun (y : Int × Int × Int × List Bool) => ifB (ltL x_2.1 x_2.2) (bindO (atN x_2.2 (natI x_2.1)) fun (y_7 : Int × Int × Int × List Bool) => some (Sum.inl (wadd .i64 x_2.1 1, setN x_2.2 (natI x_2.1) (y.1, y.2.1, y.2.2.1, y.2.2.2)))) none) (mapO Sum.inr (bindO (F_cloneBk y.2.2.2.1) fun (y_7 : List (Int × Int × Int × List Bool)) => bindO (F_cloneP y.2.2.2.2) fun (y_8 : List (Int × Int)) => loopN maxR (fun (x_3 : Int × List (Int × Int × Int × List Bool)) => ifB (ltI x_3.1 (lenI y.2.2.2.1)) (bindO (atI y.2.2.2.1 x_3.1) fun (y : Int × Int × Int × List Bool) => bindO (F_block_Copy (y.1, y.2.1, y.2.2.1, y.2.2.2)) fun (y : Int × Int × Int × List Bool) => ifB (ltL x_3.1 x_3.2) (bindO (atN x_3.2 (natI x_3.1)) fun (y_9 : Int × Int × Int × List Bool) => some (Sum.inl (wadd .i64 x_3.1 1, setN x_3.2 (natI x_3.1) (y.1, y.2.1, y.2.2.1, y.2.2.2)))) none) (mapO Sum.inr (some [(x.2, y_2), (x_1.2, y_4), (x_2.2, y_6), (x_3.2, y_8)]))) (0, y_7)))) (0, y_5)))) (0, y_3)))) (0, y_1)
theorem F_shCopyD_eq (x : PI is_shCopyD) : F_shCopyD x = fnE T G_shCopyD H_shCopyD C_shCopyD (resOf Tryz.f107) is_shCopyD os_shCopyD x := by kernel_rfl
noncomputable abbrev R_shCopyD : GS := mkSpec false is_shCopyD os_shCopyD fun x => F_shCopyD x
theorem R_shCopyD_ok : GSOK Tryz.prog 107 R_shCopyD := spec_ok tok g_shCopyD fmo (Ht := H_shCopyD) (fn := Tryz.f107) (Tryz.func107) (c := C_shCopyD) (by kernel_rfl) (by kernel_rfl) (by kernel_rfl) (by decide +kernel) (by decide) F_shCopyD_eq
end Go.Proofs.Y
namespace Go.Proofs.Y
open Go.Rb Go.Kx
noncomputable def C_cloneI : Code := bodyOf Tryz.f69
noncomputable def G_cloneI : FuncId → Option GS := tabG []
theorem g_cloneI : ΓOK Tryz.prog G_cloneI := ΓOK_nil
def H_cloneI : HT := ⟨tabL [], tabH []⟩
abbrev is_cloneI : List IT := [.v (.one (.sl 3 (.one (.int .i64)))) false]
abbrev os_cloneI : List OT := [⟨.one (.sl 3 (.one (.int .i64))), false, [true]⟩]
set_option maxRecDepth 100000
noncomputable def F_cloneI : List Int → Option (List Int) := fun (a : List Int) => ifB (isE a) (ambO (some []) (ifB (roomA 8 [] a) (some (cat [] a)) none)) (ifB (roomA 8 [] a) (some (cat [] a)) none)
theorem F_cloneI_eq (x : PI is_cloneI) : F_cloneI x = fnE T G_cloneI H_cloneI C_cloneI (resOf Tryz.f69) is_cloneI os_cloneI x := by kernel_rfl
noncomputable abbrev R_cloneI : GS := mkSpec false is_cloneI os_cloneI fun x => F_cloneI x
theorem R_cloneI_ok : GSOK Tryz.prog 69 R_cloneI := spec_ok tok g_cloneI fmo (Ht := H_cloneI) (fn := Tryz.f69) (Tryz.func69) (c := C_cloneI) (by kernel_rfl) (by kernel_rfl) (by kernel_rfl) (by decide +kernel) (by decide) F_cloneI_eq
end Go.Proofs.Y
namespace Go.Proofs.Y
open Go.Rb Go.Kx
noncomputable def C_world_Copy : Code := bodyOf Tryz.f60
noncomputable def G_world_Copy : FuncId → Option GS := tabG [(107, R_shCopyD), (69, R_cloneI), (86, R_cloneBy)]
theorem g_world_Copy : ΓOK Tryz.prog G_world_Copy := ΓOK_cons (R_shCopyD_ok) (ΓOK_cons (R_cloneI_ok) (ΓOK_cons (R_cloneBy_ok) (ΓOK_nil)))
def H_world_Copy : HT := ⟨tabL [], tabH []⟩
abbrev is_world_Copy : List IT := [.v (.cons (.sl 95 (.cons (.sl 126 (.cons (.int .i64) (.cons (.int .i64) (.cons (.int .i64) (.one (.sl 4 (.one .bool))))))) (.one (.sl 73 (.cons (.int .i64) (.one (.int .i64))))))) (.cons (.sl 5 (.one (.int .u8))) (.cons (.sl 5 (.one (.int .u8))) (.cons (.bool) (.one (.sl 3 (.one (.int .i64)))))))) true]
abbrev os_world_Copy : List OT := [⟨.cons (.sl 95 (.cons (.sl 126 (.cons (.int .i64) (.cons (.int .i64) (.cons (.int .i64) (.one (.sl 4 (.one .bool))))))) (.one (.sl 73 (.cons (.int .i64) (.one (.int .i64))))))) (.cons (.sl 5 (.one (.int .u8))) (.cons (.sl 5 (.one (.int .u8))) (.cons (.bool) (.one (.sl 3 (.one (.int .i64))))))), true, [false, false, false, false, true]⟩]
set_option maxRecDepth 100000
noncomputable def F_world_Copy : List (List (Int × Int × Int × List Bool) × List (Int × Int)) × List Int × List Int × Bool × List Int → Option (List (List (Int × Int × Int × List Bool) × List (Int × Int)) × List Int × List Int × Bool × List Int) := fun (a : List (List (Int × Int × Int × List Bool) × List (Int × Int)) × List Int × List Int × Bool × List Int) => bindO (F_shCopyD a.1) fun (y : List (List (Int × Int × Int × List Bool) × List (Int × Int))) => bindO (F_cloneI a.2.2.2.2) fun (y_1 : List Int) => bindO (F_cloneBy a.2.1) fun (y_2 : List Int) => bindO (F_cloneBy a.2.2.1) fun (y_3 : List Int) => some (y, y_2, y_3, a.2.2.2.1, y_1)
theorem F_world_Copy_eq (x : PI is_world_Copy) : F_world_Copy x = fnE T G_world_Copy H_world_Copy C_world_Copy (resOf Tryz.f60) is_world_Copy os_world_Copy x := by kernel_rfl
noncomputable abbrev R_world_Copy : GS := mkSpec false is_world_Copy os_world_Copy fun x => F_world_Copy x
theorem R_world_Copy_ok : GSOK Tryz.prog 60 R_world_Copy := spec_ok tok g_world_Copy fmo (Ht := H_world_Copy) (fn := Tryz.f60) (Tryz.func60) (c := C_world_Copy) (by kernel_rfl) (by kernel_rfl) (by kernel_rfl) (by decide +kernel) (by decide) F_world_Copy_eq
end Go.Proofs.Y
namespace Go.Proofs.Y
open Go.Rb Go.Kx
noncomputable def C_math_bits_Mul32 : Code := bodyOf Tryz.f166
noncomputable def G_math_bits_Mul32 : FuncId → Option GS := tabG []
theorem g_math_bits_Mul32 : ΓOK Tryz.prog G_math_bits_Mul32 := ΓOK_nil
def H_math_bits_Mul32 : HT := ⟨tabL [], tabH []⟩
noncomputable def I_math_bits_Mul32 : GS := inl T G_math_bits_Mul32 H_math_bits_Mul32 C_math_bits_Mul32 (resOf Tryz.f166) (Tryz.f166.ntmps)
theorem I_math_bits_Mul32_ok : GSOK Tryz.prog 166 I_math_bits_Mul32 := inl_ok tok g_math_bits_Mul32 fmo (Ht := H_math_bits_Mul32) (fn := Tryz.f166) (Tryz.func166) (c := C_math_bits_Mul32) (by kernel_rfl) (by kernel_rfl) (by kernel_rfl)
end Go.Proofs.Y
namespace Go.Proofs.Y
open Go.Rb Go.Kx
noncomputable def C_math_bits_Mul64 : Code := bodyOf Tryz.f167
noncomputable def G_math_bits_Mul64 : FuncId → Option GS := tabG []
theorem g_math_bits_Mul64 : ΓOK Tryz.prog G_math_bits_Mul64 := ΓOK_nil
def H_math_bits_Mul64 : HT := ⟨tabL [], tabH []⟩
noncomputable def I_math_bits_Mul64 : GS := inl T G_math_bits_Mul64 H_math_bits_Mul64 C_math_bits_Mul64 (resOf Tryz.f167) (Tryz.f167.ntmps)
theorem I_math_bits_Mul64_ok : GSOK Tryz.prog 167 I_math_bits_Mul64 := inl_ok tok g_math_bits_Mul64 fmo (Ht := H_math_bits_Mul64) (fn := Tryz.f167) (Tryz.func167) (c := C_math_bits_Mul64) (by kernel_rfl) (by kernel_rfl) (by kernel_rfl)
end Go.Proofs.Y
namespace Go.Proofs.Y
open Go.Rb Go.Kx
noncomputable def C_math_bits_Mul : Code := bodyOf Tryz.f144
noncomputable def G_math_bits_Mul : FuncId → Option GS := tabG [(166, I_math_bits_Mul32), (167, I_math_bits_Mul64)]
theorem g_math_bits_Mul : ΓOK Tryz.prog G_math_bits_Mul := ΓOK_cons (I_math_bits_Mul32_ok) (ΓOK_cons (I_math_bits_Mul64_ok) (ΓOK_nil))
def H_math_bits_Mul : HT := ⟨tabL [], tabH []⟩
noncomputable def I_math_bits_Mul : GS := inl T G_math_bits_Mul H_math_bits_Mul C_math_bits_Mul (resOf Tryz.f144) (Tryz.f144.ntmps)
theorem I_math_bits_Mul_ok : GSOK Tryz.prog 144 I_math_bits_Mul := inl_ok tok g_math_bits_Mul fmo (Ht := H_math_bits_Mul) (fn := Tryz.f144) (Tryz.func144) (c := C_math_bits_Mul) (by kernel_rfl) (by kernel_rfl) (by kernel_rfl)
end Go.Proofs.Y
namespace Go.Proofs.Y
open Go.Rb Go.Kx
noncomputable def C_repeatI : Code := bodyOf Tryz.f113
noncomputable def G_repeatI : FuncId → Option GS := tabG [(144, I_math_bits_Mul)]
theorem g_repeatI : ΓOK Tryz.prog G_repeatI := ΓOK_cons (I_math_bits_Mul_ok) (ΓOK_nil)
def H_repeatI : HT := ⟨tabL [(8, .unroll 4)], tabH []⟩
noncomputable def I_repeatI : GS := inl T G_repeatI H_repeatI C_repeatI (resOf Tryz.f113) (Tryz.f113.ntmps)
theorem I_repeatI_ok : GSOK Tryz.prog 113 I_repeatI := inl_ok tok g_repeatI fmo (Ht := H_repeatI) (fn := Tryz.f113) (Tryz.func113) (c := C_repeatI) (by kernel_rfl) (by kernel_rfl) (by kernel_rfl)
end Go.Proofs.Y
namespace Go.Proofs.Y
open Go.Rb Go.Kx
noncomputable def C_world_closed : Code := bodyOf Tryz.f76
noncomputable def G_world_closed : FuncId → Option GS := tabG [(113, I_repeatI)]
theorem g_world_closed : ΓOK Tryz.prog G_world_closed := ΓOK_cons (I_repeatI_ok) (ΓOK_nil)
def H_world_closed : HT := ⟨tabL [], tabH []⟩
abbrev is_world_closed : List IT := []
abbrev os_world_closed : List OT := [⟨.one (.sl 3 (.one (.int .i64))), false, [true]⟩]
set_option maxRecDepth 100000
noncomputable def F_world_closed : Option (List Int) := some [-1, -1, -1]
theorem F_world_closed_eq (x : PI is_world_closed) : F_world_closed  = fnE T G_world_closed H_world_closed C_world_closed (resOf Tryz.f76) is_world_closed os_world_closed x := by kernel_rfl
noncomputable abbrev R_world_closed : GS := mkSpec false is_world_closed os_world_closed fun x => F_world_closed 
theorem R_world_closed_ok : GSOK Tryz.prog 76 R_world_closed := spec_ok tok g_world_closed fmo (Ht := H_world_closed) (fn := Tryz.f76) (Tryz.func76) (c := C_world_closed) (by kernel_rfl) (by kernel_rfl) (by kernel_rfl) (by decide +kernel) (by decide) F_world_closed_eq
end Go.Proofs.Y
namespace Go.Proofs.Y
open Go.Rb Go.Kx
noncomputable def C_world_New : Code := bodyOf Tryz.f26
noncomputable def G_world_New : FuncId → Option GS := tabG [(75, R_shelf_New), (76, R_world_closed)]
theorem g_world_New : ΓOK Tryz.prog G_world_New := ΓOK_cons (R_shelf_New_ok) (ΓOK_cons (R_world_closed_ok) (ΓOK_nil))
def H_world_New : HT := ⟨tabL [], tabH []⟩
abbrev is_world_New : List IT := []
abbrev os_world_New : List OT := [⟨.cons (.sl 95 (.cons (.sl 126 (.cons (.int .i64) (.cons (.int .i64) (.cons (.int .i64) (.one (.sl 4 (.one .bool))))))) (.one (.sl 73 (.cons (.int .i64) (.one (.int .i64))))))) (.cons (.sl 5 (.one (.int .u8))) (.cons (.sl 5 (.one (.int .u8))) (.cons (.bool) (.one (.sl 3 (.one (.int .i64))))))), true, []⟩]
set_option maxRecDepth 100000
noncomputable def F_world_New : Option (List (List (Int × Int × Int × List Bool) × List (Int × Int)) × List Int × List Int × Bool × List Int) :=  bindO F_shelf_New fun (y : List (List (Int × Int × Int × List Bool) × List (Int × Int))) => bindO F_world_closed fun (y_1 : List Int) => some (y, [], [], true, y_1)
theorem F_world_New_eq (x : PI is_world_New) : F_world_New  = fnE T G_world_New H_world_New C_world_New (resOf Tryz.f26) is_world_New os_world_New x := by kernel_rfl
noncomputable abbrev R_world_New : GS := mkSpec false is_world_New os_world_New fun x => F_world_New 
theorem R_world_New_ok : GSOK Tryz.prog 26 R_world_New := spec_ok tok g_world_New fmo (Ht := H_world_New) (fn := Tryz.f26) (Tryz.func26) (c := C_world_New) (by kernel_rfl) (by kernel_rfl) (by kernel_rfl) (by decide +kernel) (by decide) F_world_New_eq
end Go.Proofs.Y
namespace Go.Proofs.Y
open Go.Rb Go.Kx
abbrev Wv := Shf × List Int × List Int × Bool × List Int
def wv (s : Shf) (d : List UInt8 × List UInt8) (up : Bool) (rd : List Int) : Wv := (s, bytB d.1, bytB d.2, up, rd)
def rdE (n : Int) (up : Bool) : List Int → Int
  | [] => 0
  | v :: r => if v < -1 ∨ n < v ∨ (up = false ∧ ¬ v = -1) then 3 else rdE n up r
def chkL (s : Shf) (l : List Rc) (up : Bool) (rd : List Int) : Int :=
  if (replayR l).2 = 0 then (if (replayR l).1 = s then (if rd.length = 3 then rdE l.length up rd else 4) else 4) else (replayR l).2
def chkW (s : Shf) (d : List UInt8 × List UInt8) (up : Bool) (rd : List Int) : Int :=
  if (dRecover d).2.2 = 0 then (if up = true then (if 0 < d.2.length then 4 else chkL s (dRecover d).2.1 up rd) else chkL s [] up rd) else (dRecover d).2.2
theorem rdLoop (rd : List Int) (n : Int) (up : Bool) (hl : rd.length < 4611686018427387904) :
    loopN maxR (fun (x : Int) => ifB (ltI x (lenI rd)) (bindO (atI rd x) fun (y : Int) => ifB (ltI y (-1)) (mapO Sum.inr (some 3)) (ifB (gtI y n) (mapO Sum.inr (some 3)) (ifB (notB up) (ifB (neI y (-1)) (mapO Sum.inr (some 3)) (some (Sum.inl (wadd IntKind.i64 x 1)))) (some (Sum.inl (wadd IntKind.i64 x 1)))))) (mapO Sum.inr (some 0))) 0 = some (rdE n up rd) := by
  refine loop_range rd (fun j (_ : Unit) => (j : Int)) (G := fun rest _ => some (rdE n up rest)) (P := fun _ _ => True) (s0 := ()) ?_ ?_ trivial (by omega)
  · rintro j _ hj _ k hk
    have hat := atI_nat hj
    generalize rd.getD j default = v at *
    simp only [stepK_ifB, stepK_bind, stepK_map, stepK_inl]
    rw [ifB_ltI, lenI_eq, if_pos (by omega), hat, bindO_some, ifB_ltI, ifB_gtI, ifB_not, ifB_neI, wadd_nat (by omega), hk () trivial, rdE]
    cases up with
    | true =>
      rw [ifB_t]
      by_cases c : v < -1 ∨ n < v ∨ (true = false ∧ ¬ v = -1)
      · rw [if_pos c]
        by_cases c1 : v < -1
        · rw [if_pos c1]
        · rw [if_neg c1, if_pos (by rcases c with c | c | c; exact absurd c c1; exact c; cases c.1)]
      · rw [if_neg c, if_neg (fun h => c (.inl h)), if_neg (fun h => c (.inr (.inl h)))]
    | false =>
      rw [ifB_f]
      by_cases c : v < -1 ∨ n < v ∨ (false = false ∧ ¬ v = -1)
      · rw [if_pos c]
        by_cases c1 : v < -1
        · rw [if_pos c1]
        · rw [if_neg c1]
          by_cases c2 : n < v
          · rw [if_pos c2]
          · rw [if_neg c2, if_neg (by rcases c with c | c | c; exact absurd c c1; exact absurd c c2; exact c.2)]
      · rw [if_neg c, if_neg (fun h => c (.inl h)), if_neg (fun h => c (.inr (.inl h))), if_pos (Classical.byContradiction fun h => c (.inr (.inr ⟨rfl, h⟩)))]
  · rintro _ _ k
    simp only [stepK_ifB, stepK_map]
    rw [ifB_ltI, lenI_eq, if_neg (by omega)]; rfl
theorem recs_len (d : List UInt8 × List UInt8) (h : (dRecover d).2.2 = 0) : (dRecover d).2.1.length ≤ 60002 := by
  unfold dRecover at h ⊢
  split at h
  · rename_i hc
    rw [if_pos hc]
    have hl := dCheck_len hc
    have n1 := lnP_len 60 d.1
    have n2 := lnP_len (60 - ((lnP 60 d.1).1.length : Int)) d.2
    simp only [List.length_append, dMore]; omega
  · rename_i hc; exact absurd h hc
theorem lnW_rec (most all : Int) : ∀ (ws : List (List UInt8)) (acc : List Rc), (∀ r ∈ acc, chkRec r = 0) → ∀ r ∈ (lnW most all ws acc).1, chkRec r = 0
  | [], acc, h => h
  | w :: ws, acc, h => by
    rw [lnW]
    split
    · split
      · exact h
      · exact h
    · split
      · rename_i hp
        split
        · exact h
        · exact lnW_rec most all ws _ fun r hr => by
            rcases List.mem_append.1 hr with hr | hr
            · exact h r hr
            · rw [List.mem_singleton.1 hr]; exact (parseR_ok hp).1
      · exact h
theorem recs_ok (d : List UInt8 × List UInt8) : ∀ r ∈ (dRecover d).2.1, chkRec r = 0 := by
  unfold dRecover
  split
  · intro r hr
    rcases List.mem_append.1 hr with hr | hr
    · exact lnW_rec _ _ _ [] (by simp) r hr
    · exact lnW_rec _ _ _ [] (by simp) r hr
  · intro r hr; cases hr
theorem worldCheck_eq (s : Shf) (d : List UInt8 × List UInt8) (up : Bool) (rd : List Int) (h1 : d.1.length < 4611686018427387904) (h2 : d.2.length < 4611686018427387904) (hrd : rd.length < 4611686018427387904) : F_world_Check (wv s d up rd) = some (chkW s d up rd) := by
  unfold F_world_Check chkW
  simp only [wv]
  rw [dRecover_eq d h1 h2, bindO_some]
  simp only
  rw [ifB_neI]
  by_cases hr : (dRecover d).2.2 = 0
  · have hn := recs_len d hr
    have hok := recs_ok d
    rw [if_pos hr, if_pos hr]
    have tailL : ∀ l : List Rc, l.length < 4611686018427387904 → (∀ r ∈ l, r.2.2.2.length < 4611686018427387904) → (bindO (F_store_Replay l) fun (y_1 : List (List (Int × Int × Int × List Bool) × List (Int × Int)) × Int) =>
        ifB (neI (Prod.snd y_1) 0) (some (Prod.snd y_1)) (bindO (F_shelf_Same (Prod.fst y_1) s) fun (y_2 : Bool) => ifB (notB y_2) (some 4) (ifB (neI (lenI rd) 3) (some 4)
          (loopN maxR (fun (x : Int) => ifB (ltI x (lenI rd)) (bindO (atI rd x) fun (y_3 : Int) => ifB (ltI y_3 (-1)) (mapO Sum.inr (some 3)) (ifB (gtI y_3 (lenI l)) (mapO Sum.inr (some 3)) (ifB (notB up) (ifB (neI y_3 (-1)) (mapO Sum.inr (some 3)) (some (Sum.inl (wadd IntKind.i64 x 1)))) (some (Sum.inl (wadd IntKind.i64 x 1)))))) (mapO Sum.inr (some 0))) 0)))) = some (chkL s l up rd) := by
      intro l hl he
      unfold chkL
      rw [replay_eq l hl he, bindO_some, ifB_neI, rdLoop rd (lenI l) up hrd]
      by_cases c : (replayR l).2 = 0
      · rw [if_pos c, if_pos c, shelfSame_eq _ _ (replayR_okS l), bindO_some, ifB_not, ifB_dec, ifB_neI, lenI_eq, lenI_eq]
        by_cases c2 : (replayR l).1 = s
        · rw [if_pos c2, if_pos c2]
          by_cases c3 : rd.length = 3
          · rw [if_pos (by omega), if_pos c3]
          · rw [if_neg (by omega), if_neg c3]
        · rw [if_neg c2, if_neg c2]
      · rw [if_neg c, if_neg c]
    have t1 := tailL (dRecover d).2.1 (by omega) fun r hr => small_rec (hok r hr)
    have t0 := tailL [] (by decide) (by simp)
    simp only [show lenI ([] : List Rc) = 0 from rfl] at t0
    rw [t1, t0]
    cases up with
    | true =>
      rw [ifB_t, if_pos rfl, ifB_gtI, lenI_eq, bytB_lenN]
      simp only [notB, Bool.not_true]
      rw [ifB_f]
      by_cases c : 0 < d.2.length
      · rw [if_pos (by omega), if_pos c]
      · rw [if_neg (by omega), if_neg c]
    | false =>
      rw [ifB_f]
      simp only [notB, Bool.not_false]
      rw [ifB_t, if_neg (by decide)]
  · rw [if_neg hr, if_neg hr]
theorem shCopyD_eq (s : Shf) (hc : chkS s = 0) : F_shCopyD s = some s := by
  obtain ⟨h4, hr⟩ := chkS_zero.1 hc
  obtain ⟨r0, r1, r2, r3, rfl⟩ := len4 h4
  simp only [List.mem_cons, List.not_mem_nil, or_false, forall_eq_or_imp, forall_eq] at hr
  obtain ⟨a0, a1, a2, a3⟩ := hr
  have b0 := (allR_is a0).1; have b1 := (allR_is a1).1; have b2 := (allR_is a2).1; have b3 := (allR_is a3).1
  unfold F_shCopyD
  exact copy4 r0 r1 r2 r3 (okR_of a0) (okR_of a1) (okR_of a2) (okR_of a3) b0 b1 b2 b3 (fun y_2 y_4 y_6 y_8 x x_1 x_2 x_3 => some [(Prod.snd x, y_2), (Prod.snd x_1, y_4), (Prod.snd x_2, y_6), (Prod.snd x_3, y_8)])
theorem cloneI_eq {a : List Int} (h : a.length ≤ 1000000000) : F_cloneI a = some a := clone_gen 8 a (by omega) (by omega)
theorem worldCopy_eq (s : Shf) (d : List UInt8 × List UInt8) (up : Bool) (rd : List Int) (hc : chkS s = 0) (hd : d.1.length + d.2.length ≤ 60000) (hrd : rd.length = 3) : F_world_Copy (wv s d up rd) = some (wv s d up rd) := by
  unfold F_world_Copy
  simp only [wv]
  rw [shCopyD_eq s hc, bindO_some, cloneI_eq (by omega), bindO_some, cloneBy_eq _ (by omega), bindO_some, cloneBy_eq _ (by omega)]
  rfl
end Go.Proofs.Y
namespace Go.Proofs.Y
open Go.Rb Go.Kx
noncomputable def C_wwrite : Code := bodyOf Tryz.f108
noncomputable def G_wwrite : FuncId → Option GS := tabG [(31, R_store_Next), (32, R_disk_Put), (141, R_disk_Crash), (75, R_shelf_New), (76, R_world_closed), (33, R_disk_Sync)]
theorem g_wwrite : ΓOK Tryz.prog G_wwrite := ΓOK_cons (R_store_Next_ok) (ΓOK_cons (R_disk_Put_ok) (ΓOK_cons (R_disk_Crash_ok) (ΓOK_cons (R_shelf_New_ok) (ΓOK_cons (R_world_closed_ok) (ΓOK_cons (R_disk_Sync_ok) (ΓOK_nil))))))
def H_wwrite : HT := ⟨tabL [], tabH []⟩
noncomputable def I_wwrite : GS := inl T G_wwrite H_wwrite C_wwrite (resOf Tryz.f108) (Tryz.f108.ntmps)
theorem I_wwrite_ok : GSOK Tryz.prog 108 I_wwrite := inl_ok tok g_wwrite fmo (Ht := H_wwrite) (fn := Tryz.f108) (Tryz.func108) (c := C_wwrite) (by kernel_rfl) (by kernel_rfl) (by kernel_rfl)
end Go.Proofs.Y
namespace Go.Proofs.Y
open Go.Rb Go.Kx
noncomputable def C_whappen : Code := bodyOf Tryz.f61
noncomputable def G_whappen : FuncId → Option GS := tabG [(34, R_disk_Recover), (75, R_shelf_New), (76, R_world_closed), (28, R_store_Replay), (108, I_wwrite)]
theorem g_whappen : ΓOK Tryz.prog G_whappen := ΓOK_cons (R_disk_Recover_ok) (ΓOK_cons (R_shelf_New_ok) (ΓOK_cons (R_world_closed_ok) (ΓOK_cons (R_store_Replay_ok) (ΓOK_cons (I_wwrite_ok) (ΓOK_nil)))))
def H_whappen : HT := ⟨tabL [], tabH []⟩
noncomputable def I_whappen : GS := inl T G_whappen H_whappen C_whappen (resOf Tryz.f61) (Tryz.f61.ntmps)
theorem I_whappen_ok : GSOK Tryz.prog 61 I_whappen := inl_ok tok g_whappen fmo (Ht := H_whappen) (fn := Tryz.f61) (Tryz.func61) (c := C_whappen) (by kernel_rfl) (by kernel_rfl) (by kernel_rfl)
end Go.Proofs.Y
namespace Go.Proofs.Y
open Go.Rb Go.Kx
noncomputable def C_world_Do : Code := bodyOf Tryz.f23
noncomputable def G_world_Do : FuncId → Option GS := tabG [(24, R_world_Check), (60, R_world_Copy), (61, I_whappen)]
theorem g_world_Do : ΓOK Tryz.prog G_world_Do := ΓOK_cons (R_world_Check_ok) (ΓOK_cons (R_world_Copy_ok) (ΓOK_cons (I_whappen_ok) (ΓOK_nil)))
def H_world_Do : HT := ⟨tabL [], tabH []⟩
abbrev is_world_Do : List IT := [.v (.cons (.sl 95 (.cons (.sl 126 (.cons (.int .i64) (.cons (.int .i64) (.cons (.int .i64) (.one (.sl 4 (.one .bool))))))) (.one (.sl 73 (.cons (.int .i64) (.one (.int .i64))))))) (.cons (.sl 5 (.one (.int .u8))) (.cons (.sl 5 (.one (.int .u8))) (.cons (.bool) (.one (.sl 3 (.one (.int .i64)))))))) true, .v (.cons (.int .i64) (.cons (.int .i64) (.cons (.int .i64) (.one (.sl 77 (.cons (.int .i64) (.cons (.int .i64) (.one (.int .i64))))))))) true]
abbrev os_world_Do : List OT := [⟨.cons (.sl 95 (.cons (.sl 126 (.cons (.int .i64) (.cons (.int .i64) (.cons (.int .i64) (.one (.sl 4 (.one .bool))))))) (.one (.sl 73 (.cons (.int .i64) (.one (.int .i64))))))) (.cons (.sl 5 (.one (.int .u8))) (.cons (.sl 5 (.one (.int .u8))) (.cons (.bool) (.one (.sl 3 (.one (.int .i64))))))), true, []⟩, ⟨.one (.int .i64), false, []⟩]
set_option maxRecDepth 100000
noncomputable def F_world_Do : List (List (Int × Int × Int × List Bool) × List (Int × Int)) × List Int × List Int × Bool × List Int → Int × Int × Int × List (Int × Int × Int) → Option ((List (List (Int × Int × Int × List Bool) × List (Int × Int)) × List Int × List Int × Bool × List Int) × Int) := fun (a : List (List (Int × Int × Int × List Bool) × List (Int × Int)) × List Int × List Int × Bool × List Int) (b : Int × Int × Int × List (Int × Int × Int)) => bindO (F_world_Check (a.1, a.2.1, a.2.2.1, a.2.2.2.1, a.2.2.2.2)) fun (y : Int) => ifB (neI y 0) (some (([], [], [], false, []), y)) (bindO (F_world_Copy (a.1, a.2.1, a.2.2.1, a.2.2.2.1, a.2.2.2.2)) fun (y : List (List (Int × Int × Int × List Bool) × List (Int × Int)) × List Int × List Int × Bool × List Int) => ifB (ltI b.1 1) (some (([], [], [], false, []), 4)) (ifB (gtI b.1 9) (some (([], [], [], false, []), 4)) (ifB (eqB y.2.2.2.1 (eqI b.1 8)) (some (([], [], [], false, []), 7)) (ifB (eqI b.1 5) (ifB (ltI b.2.2.1 0) (some (([], [], [], false, []), 5)) (ifB (geI b.2.2.1 (lenI y.2.2.2.2)) (some (([], [], [], false, []), 5)) (ifB (eqI b.1 6) (ifB (ltL b.2.2.1 y.2.2.2.2) (bindO (atN y.2.2.2.2 (natI b.2.2.1)) fun (y_1 : Int) => some ((y.1, y.2.1, y.2.2.1, y.2.2.2.1, setN y.2.2.2.2 (natI b.2.2.1) (-1)), 0)) none) (bindO (F_disk_Recover (y.2.1, y.2.2.1)) fun (y_1 : (List Int × List Int) × List (Int × Int × Int × List (Int × Int × Int)) × Int) => ifB (eqI y_1.2.2 0) (ifB (ltL b.2.2.1 y.2.2.2.2) (bindO (atN y.2.2.2.2 (natI b.2.2.1)) fun (y_2 : Int) => ifB (neI y_1.2.2 0) (some (([], [], [], false, []), y_1.2.2)) (some ((y.1, y.2.1, y.2.2.1, y.2.2.2.1, setN y.2.2.2.2 (natI b.2.2.1) (lenI y_1.2.1)), 0))) none) (ifB (neI y_1.2.2 0) (some (([], [], [], false, []), y_1.2.2)) (some ((y.1, y.2.1, y.2.2.1, y.2.2.2.1, y.2.2.2.2), 0))))))) (ifB (eqI b.1 6) (ifB (ltI b.2.2.1 0) (some (([], [], [], false, []), 5)) (ifB (geI b.2.2.1 (lenI y.2.2.2.2)) (some (([], [], [], false, []), 5)) (ifB (eqI b.1 6) (ifB (ltL b.2.2.1 y.2.2.2.2) (bindO (atN y.2.2.2.2 (natI b.2.2.1)) fun (y_1 : Int) => some ((y.1, y.2.1, y.2.2.1, y.2.2.2.1, setN y.2.2.2.2 (natI b.2.2.1) (-1)), 0)) none) (bindO (F_disk_Recover (y.2.1, y.2.2.1)) fun (y_1 : (List Int × List Int) × List (Int × Int × Int × List (Int × Int × Int)) × Int) => ifB (eqI y_1.2.2 0) (ifB (ltL b.2.2.1 y.2.2.2.2) (bindO (atN y.2.2.2.2 (natI b.2.2.1)) fun (y_2 : Int) => ifB (neI y_1.2.2 0) (some (([], [], [], false, []), y_1.2.2)) (some ((y.1, y.2.1, y.2.2.1, y.2.2.2.1, setN y.2.2.2.2 (natI b.2.2.1) (lenI y_1.2.1)), 0))) none) (ifB (neI y_1.2.2 0) (some (([], [], [], false, []), y_1.2.2)) (some ((y.1, y.2.1, y.2.2.1, y.2.2.2.1, y.2.2.2.2), 0))))))) (ifB (eqI b.1 7) (bindO F_shelf_New fun (y_1 : List (List (Int × Int × Int × List Bool) × List (Int × Int))) => bindO F_world_closed fun (y_2 : List Int) => some ((y_1, y.2.1, y.2.2.1, false, y_2), 0)) (ifB (eqI b.1 8) (bindO (F_disk_Recover (y.2.1, y.2.2.1)) fun (y_1 : (List Int × List Int) × List (Int × Int × Int × List (Int × Int × Int)) × Int) => ifB (neI y_1.2.2 0) (ifB (neI y_1.2.2 0) (some (([], [], [], false, []), y_1.2.2)) (some ((y.1, y.2.1, y.2.2.1, y.2.2.2.1, y.2.2.2.2), 0))) (bindO (F_store_Replay y_1.2.1) fun (y_2 : List (List (Int × Int × Int × List Bool) × List (Int × Int)) × Int) => ifB (eqI y_2.2 0) (ifB (neI y_2.2 0) (some (([], [], [], false, []), y_2.2)) (some ((y_2.1, y_1.1.1, y_1.1.2, true, y.2.2.2.2), 0))) (ifB (neI y_2.2 0) (some (([], [], [], false, []), y_2.2)) (some ((y.1, y.2.1, y.2.2.1, y.2.2.2.1, y.2.2.2.2), 0))))) (ifB (eqI b.1 1) (bindO (F_store_Next y.1 (1, 0, 0, b.2.2.2)) fun (y_1 : List (List (Int × Int × Int × List Bool) × List (Int × Int)) × Int) => ifB (neI y_1.2 0) (ifB (neI y_1.2 0) (some (([], [], [], false, []), y_1.2)) (some ((y.1, y.2.1, y.2.2.1, y.2.2.2.1, y.2.2.2.2), 0))) (bindO (F_disk_Put (y.2.1, y.2.2.1) (1, 0, 0, b.2.2.2)) fun (y_2 : (List Int × List Int) × Int) => ifB (neI y_2.2 0) (ifB (neI y_2.2 0) (some (([], [], [], false, []), y_2.2)) (some ((y.1, y.2.1, y.2.2.1, y.2.2.2.1, y.2.2.2.2), 0))) (ifB (eqI b.1 9) (bindO (F_disk_Crash (y_2.1.1, y_2.1.2) (maxI 0 (minI b.2.2.1 (lenI y_2.1.2)))) fun (y_3 : (List Int × List Int) × Int) => ifB (eqI y_3.2 0) (bindO F_shelf_New fun (y : List (List (Int × Int × Int × List Bool) × List (Int × Int))) => bindO F_world_closed fun (y_4 : List Int) => ifB (neI y_3.2 0) (some (([], [], [], false, []), y_3.2)) (some ((y, y_3.1.1, y_3.1.2, false, y_4), 0))) (ifB (neI y_3.2 0) (some (([], [], [], false, []), y_3.2)) (some ((y.1, y.2.1, y.2.2.1, y.2.2.2.1, y.2.2.2.2), 0)))) (bindO (F_disk_Sync (y_2.1.1, y_2.1.2)) fun (y_3 : (List Int × List Int) × Int) => ifB (eqI y_3.2 0) (ifB (neI y_3.2 0) (some (([], [], [], false, []), y_3.2)) (some ((y_1.1, y_3.1.1, y_3.1.2, y.2.2.2.1, y.2.2.2.2), 0))) (ifB (neI y_3.2 0) (some (([], [], [], false, []), y_3.2)) (some ((y.1, y.2.1, y.2.2.1, y.2.2.2.1, y.2.2.2.2), 0))))))) (ifB (eqI b.1 9) (bindO (F_store_Next y.1 (1, 0, 0, b.2.2.2)) fun (y_1 : List (List (Int × Int × Int × List Bool) × List (Int × Int)) × Int) => ifB (neI y_1.2 0) (ifB (neI y_1.2 0) (some (([], [], [], false, []), y_1.2)) (some ((y.1, y.2.1, y.2.2.1, y.2.2.2.1, y.2.2.2.2), 0))) (bindO (F_disk_Put (y.2.1, y.2.2.1) (1, 0, 0, b.2.2.2)) fun (y_2 : (List Int × List Int) × Int) => ifB (neI y_2.2 0) (ifB (neI y_2.2 0) (some (([], [], [], false, []), y_2.2)) (some ((y.1, y.2.1, y.2.2.1, y.2.2.2.1, y.2.2.2.2), 0))) (ifB (eqI b.1 9) (bindO (F_disk_Crash (y_2.1.1, y_2.1.2) (maxI 0 (minI b.2.2.1 (lenI y_2.1.2)))) fun (y_3 : (List Int × List Int) × Int) => ifB (eqI y_3.2 0) (bindO F_shelf_New fun (y : List (List (Int × Int × Int × List Bool) × List (Int × Int))) => bindO F_world_closed fun (y_4 : List Int) => ifB (neI y_3.2 0) (some (([], [], [], false, []), y_3.2)) (some ((y, y_3.1.1, y_3.1.2, false, y_4), 0))) (ifB (neI y_3.2 0) (some (([], [], [], false, []), y_3.2)) (some ((y.1, y.2.1, y.2.2.1, y.2.2.2.1, y.2.2.2.2), 0)))) (bindO (F_disk_Sync (y_2.1.1, y_2.1.2)) fun (y_3 : (List Int × List Int) × Int) => ifB (eqI y_3.2 0) (ifB (neI y_3.2 0) (some (([], [], [], false, []), y_3.2)) (some ((y_1.1, y_3.1.1, y_3.1.2, y.2.2.2.1, y.2.2.2.2), 0))) (ifB (neI y_3.2 0) (some (([], [], [], false, []), y_3.2)) (some ((y.1, y.2.1, y.2.2.1, y.2.2.2.1, y.2.2.2.2), 0))))))) (ifB (eqI b.1 4) (bindO (F_store_Next y.1 (4, 0, b.2.2.1, [])) fun (y_1 : List (List (Int × Int × Int × List Bool) × List (Int × Int)) × Int) => ifB (neI y_1.2 0) (ifB (neI y_1.2 0) (some (([], [], [], false, []), y_1.2)) (some ((y.1, y.2.1, y.2.2.1, y.2.2.2.1, y.2.2.2.2), 0))) (bindO (F_disk_Put (y.2.1, y.2.2.1) (4, 0, b.2.2.1, [])) fun (y_2 : (List Int × List Int) × Int) => ifB (neI y_2.2 0) (ifB (neI y_2.2 0) (some (([], [], [], false, []), y_2.2)) (some ((y.1, y.2.1, y.2.2.1, y.2.2.2.1, y.2.2.2.2), 0))) (bindO (F_disk_Sync (y_2.1.1, y_2.1.2)) fun (y_3 : (List Int × List Int) × Int) => ifB (eqI y_3.2 0) (ifB (neI y_3.2 0) (some (([], [], [], false, []), y_3.2)) (some ((y_1.1, y_3.1.1, y_3.1.2, y.2.2.2.1, y.2.2.2.2), 0))) (ifB (neI y_3.2 0) (some (([], [], [], false, []), y_3.2)) (some ((y.1, y.2.1, y.2.2.1, y.2.2.2.1, y.2.2.2.2), 0)))))) (bindO (F_store_Next y.1 (b.1, b.2.1, b.2.2.1, [])) fun (y_1 : List (List (Int × Int × Int × List Bool) × List (Int × Int)) × Int) => ifB (neI y_1.2 0) (ifB (neI y_1.2 0) (some (([], [], [], false, []), y_1.2)) (some ((y.1, y.2.1, y.2.2.1, y.2.2.2.1, y.2.2.2.2), 0))) (bindO (F_disk_Put (y.2.1, y.2.2.1) (b.1, b.2.1, b.2.2.1, [])) fun (y_2 : (List Int × List Int) × Int) => ifB (neI y_2.2 0) (ifB (neI y_2.2 0) (some (([], [], [], false, []), y_2.2)) (some ((y.1, y.2.1, y.2.2.1, y.2.2.2.1, y.2.2.2.2), 0))) (bindO (F_disk_Sync (y_2.1.1, y_2.1.2)) fun (y_3 : (List Int × List Int) × Int) => ifB (eqI y_3.2 0) (ifB (neI y_3.2 0) (some (([], [], [], false, []), y_3.2)) (some ((y_1.1, y_3.1.1, y_3.1.2, y.2.2.2.1, y.2.2.2.2), 0))) (ifB (neI y_3.2 0) (some (([], [], [], false, []), y_3.2)) (some ((y.1, y.2.1, y.2.2.1, y.2.2.2.1, y.2.2.2.2), 0))))))))))))))))
theorem F_world_Do_eq (x : PI is_world_Do) : F_world_Do (x.1) (x.2) = fnE T G_world_Do H_world_Do C_world_Do (resOf Tryz.f23) is_world_Do os_world_Do x := by kernel_rfl
noncomputable abbrev R_world_Do : GS := mkSpec false is_world_Do os_world_Do fun x => F_world_Do (x.1) (x.2)
theorem R_world_Do_ok : GSOK Tryz.prog 23 R_world_Do := spec_ok tok g_world_Do fmo (Ht := H_world_Do) (fn := Tryz.f23) (Tryz.func23) (c := C_world_Do) (by kernel_rfl) (by kernel_rfl) (by kernel_rfl) (by decide +kernel) (by decide) F_world_Do_eq
end Go.Proofs.Y
