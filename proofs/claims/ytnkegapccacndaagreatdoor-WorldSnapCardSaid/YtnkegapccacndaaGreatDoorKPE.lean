/-
  What is proved, part by part: what world.Run comes to. what happens to a world, in plain words; Do and Run come to it. what happens to a world, as a plain function; Do comes to it. what world.Read comes to. Do, Run and Read of worlds: what the program's functions come to, in plain words. what rainbooklaw.watched$1 comes to. what slices.Equal[[]api.Errno,api.Errno] comes to. what rainbooklaw.watched comes to. what rainbooklaw.WorldStands$1 comes to. what slices.IndexFunc[[]int,int] comes to. what slices.ContainsFunc[[]int,int] comes to. what rainbooklaw.WorldStands comes to. a world that loses its power and is up again is as it was, in plain words; the closed fact on worlds. what rainbooklaw.WorldSame comes to. to seal, to merge, to drop: what is read of a world stays, in plain words. a line that is torn is there wholly, or not at all. what rainbooklaw.batch comes to. what rainbooklaw.stored comes to. what slices.EqualFunc[[]api.Rec,[]api.Rec,api.Rec,api.Rec] comes to. what rainbooklaw.StoreParts comes to. StoreParts: what the law's body comes to is true: records one by one, or at once; and what a disk keeps of them. what rainbooklaw.WorldTorn comes to. a batch that is torn is there wholly, or not at all: the law's body is true, in plain words. WorldTorn: the law's body is true, in plain words. what is read off a text is what stands there; a world that is right stays right, whatever happens. what slices.Equal[[]int,int] comes to. what world.Same comes to. what slices.Grow[[]api.Errno,api.Errno] comes to. what slices.Concat[[]api.Errno,api.Errno] comes to. what rainbooklaw.WorldParts comes to. scripts in two parts; versions, and what was there at one: in plain words. Conditions: none.
-/
import Derived.Test.YtnkegapccacndaaGreatDoorKPA
import Derived.Test.YtnkegapccacndaaGreatDoorKPD
import Derived.Test.YtnkegapccacndaaGreatDoorKPB
import Derived.Test.YtnkegapccacndaaGreatDoorKPC
set_option linter.unusedVariables false
set_option linter.unusedSimpArgs false
set_option linter.unnecessarySimpa false
set_option maxRecDepth 4000
namespace Go.Proofs.Y
open Go.Rb Go.Kx
noncomputable def C_world_Run : Code := bodyOf Tryz.f17
noncomputable def G_world_Run : FuncId → Option GS := tabG [(24, R_world_Check), (60, R_world_Copy), (61, I_whappen)]
theorem g_world_Run : ΓOK Tryz.prog G_world_Run := ΓOK_cons (R_world_Check_ok) (ΓOK_cons (R_world_Copy_ok) (ΓOK_cons (I_whappen_ok) (ΓOK_nil)))
def H_world_Run : HT := ⟨tabL [(9, .it [] (dyn [.a 8 33 (.one (.int .i64)), .t 27 (.int .i64), .c 2 0 (.sl 95 (.cons (.sl 126 (.cons (.int .i64) (.cons (.int .i64) (.cons (.int .i64) (.one (.sl 4 (.one .bool))))))) (.one (.sl 73 (.cons (.int .i64) (.one (.int .i64))))))), .c 2 1 (.sl 5 (.one (.int .u8))), .c 2 2 (.sl 5 (.one (.int .u8))), .c 2 3 (.bool), .c 2 4 (.sl 3 (.one (.int .i64)))]))], tabH [(7, [.frzc 2 4]), (14, [.frzc 11 4])]⟩
abbrev is_world_Run : List IT := [.v (.cons (.sl 95 (.cons (.sl 126 (.cons (.int .i64) (.cons (.int .i64) (.cons (.int .i64) (.one (.sl 4 (.one .bool))))))) (.one (.sl 73 (.cons (.int .i64) (.one (.int .i64))))))) (.cons (.sl 5 (.one (.int .u8))) (.cons (.sl 5 (.one (.int .u8))) (.cons (.bool) (.one (.sl 3 (.one (.int .i64)))))))) true, .v (.one (.sl 41 (.cons (.int .i64) (.cons (.int .i64) (.cons (.int .i64) (.one (.sl 77 (.cons (.int .i64) (.cons (.int .i64) (.one (.int .i64))))))))))) false]
abbrev os_world_Run : List OT := [⟨.cons (.sl 95 (.cons (.sl 126 (.cons (.int .i64) (.cons (.int .i64) (.cons (.int .i64) (.one (.sl 4 (.one .bool))))))) (.one (.sl 73 (.cons (.int .i64) (.one (.int .i64))))))) (.cons (.sl 5 (.one (.int .u8))) (.cons (.sl 5 (.one (.int .u8))) (.cons (.bool) (.one (.sl 3 (.one (.int .i64))))))), true, []⟩, ⟨.one (.sl 33 (.one (.int .i64))), false, []⟩, ⟨.one (.int .i64), false, []⟩]
set_option maxRecDepth 100000
noncomputable def F_world_Run : List (List (Int × Int × Int × List Bool) × List (Int × Int)) × List Int × List Int × Bool × List Int → List (Int × Int × Int × List (Int × Int × Int)) → Option ((List (List (Int × Int × Int × List Bool) × List (Int × Int)) × List Int × List Int × Bool × List Int) × List Int × Int) := fun (a : List (List (Int × Int × Int × List Bool) × List (Int × Int)) × List Int × List Int × Bool × List Int) (b : List (Int × Int × Int × List (Int × Int × Int))) => bindO (F_world_Check (a.1, a.2.1, a.2.2.1, a.2.2.2.1, a.2.2.2.2)) fun (y : Int) => ifB (neI y 0) (some (([], [], [], false, []), [], y)) (ifB (gtI (lenI b) 100) (some (([], [], [], false, []), [], 2)) (bindO (F_world_Copy (a.1, a.2.1, a.2.2.1, a.2.2.2.1, a.2.2.2.2)) fun (y : List (List (Int × Int × Int × List Bool) × List (Int × Int)) × List Int × List Int × Bool × List Int) => loopN maxR (fun (x : Int × List (List (Int × Int × Int × List Bool) × List (Int × Int)) × List Int × List Int × Bool × List Int × List Int) => ifB (ltI x.1 (lenI b)) (bindO (atI b x.1) fun (y : Int × Int × Int × List (Int × Int × Int)) => bindO (F_world_Copy (x.2.1, x.2.2.1, x.2.2.2.1, x.2.2.2.2.1, x.2.2.2.2.2.1)) fun (y_1 : List (List (Int × Int × Int × List Bool) × List (Int × Int)) × List Int × List Int × Bool × List Int) => ifB (ltI y.1 1) (ifB (roomA 8 x.2.2.2.2.2.2 [4]) (some (Sum.inl (wadd .i64 x.1 1, x.2.1, x.2.2.1, x.2.2.2.1, x.2.2.2.2.1, x.2.2.2.2.2.1, cat x.2.2.2.2.2.2 [4]))) none) (ifB (gtI y.1 9) (ifB (roomA 8 x.2.2.2.2.2.2 [4]) (some (Sum.inl (wadd .i64 x.1 1, x.2.1, x.2.2.1, x.2.2.2.1, x.2.2.2.2.1, x.2.2.2.2.2.1, cat x.2.2.2.2.2.2 [4]))) none) (ifB (eqB y_1.2.2.2.1 (eqI y.1 8)) (ifB (roomA 8 x.2.2.2.2.2.2 [7]) (some (Sum.inl (wadd .i64 x.1 1, x.2.1, x.2.2.1, x.2.2.2.1, x.2.2.2.2.1, x.2.2.2.2.2.1, cat x.2.2.2.2.2.2 [7]))) none) (ifB (eqI y.1 5) (ifB (ltI y.2.2.1 0) (ifB (roomA 8 x.2.2.2.2.2.2 [5]) (some (Sum.inl (wadd .i64 x.1 1, x.2.1, x.2.2.1, x.2.2.2.1, x.2.2.2.2.1, x.2.2.2.2.2.1, cat x.2.2.2.2.2.2 [5]))) none) (ifB (geI y.2.2.1 (lenI y_1.2.2.2.2)) (ifB (roomA 8 x.2.2.2.2.2.2 [5]) (some (Sum.inl (wadd .i64 x.1 1, x.2.1, x.2.2.1, x.2.2.2.1, x.2.2.2.2.1, x.2.2.2.2.2.1, cat x.2.2.2.2.2.2 [5]))) none) (ifB (eqI y.1 6) (ifB (ltL y.2.2.1 y_1.2.2.2.2) (bindO (atN y_1.2.2.2.2 (natI y.2.2.1)) fun (y_2 : Int) => ifB (roomA 8 x.2.2.2.2.2.2 [0]) (some (Sum.inl (wadd .i64 x.1 1, y_1.1, y_1.2.1, y_1.2.2.1, y_1.2.2.2.1, setN y_1.2.2.2.2 (natI y.2.2.1) (-1), cat x.2.2.2.2.2.2 [0]))) none) none) (bindO (F_disk_Recover (y_1.2.1, y_1.2.2.1)) fun (y_2 : (List Int × List Int) × List (Int × Int × Int × List (Int × Int × Int)) × Int) => ifB (eqI y_2.2.2 0) (ifB (ltL y.2.2.1 y_1.2.2.2.2) (bindO (atN y_1.2.2.2.2 (natI y.2.2.1)) fun (y_3 : Int) => ifB (eqI y_2.2.2 0) (ifB (roomA 8 x.2.2.2.2.2.2 [y_2.2.2]) (some (Sum.inl (wadd .i64 x.1 1, y_1.1, y_1.2.1, y_1.2.2.1, y_1.2.2.2.1, setN y_1.2.2.2.2 (natI y.2.2.1) (lenI y_2.2.1), cat x.2.2.2.2.2.2 [y_2.2.2]))) none) (ifB (roomA 8 x.2.2.2.2.2.2 [y_2.2.2]) (some (Sum.inl (wadd .i64 x.1 1, x.2.1, x.2.2.1, x.2.2.2.1, x.2.2.2.2.1, x.2.2.2.2.2.1, cat x.2.2.2.2.2.2 [y_2.2.2]))) none)) none) (ifB (eqI y_2.2.2 0) (ifB (roomA 8 x.2.2.2.2.2.2 [y_2.2.2]) (some (Sum.inl (wadd .i64 x.1 1, y_1.1, y_1.2.1, y_1.2.2.1, y_1.2.2.2.1, y_1.2.2.2.2, cat x.2.2.2.2.2.2 [y_2.2.2]))) none) (ifB (roomA 8 x.2.2.2.2.2.2 [y_2.2.2]) (some (Sum.inl (wadd .i64 x.1 1, x.2.1, x.2.2.1, x.2.2.2.1, x.2.2.2.2.1, x.2.2.2.2.2.1, cat x.2.2.2.2.2.2 [y_2.2.2]))) none)))))) (ifB (eqI y.1 6) (ifB (ltI y.2.2.1 0) (ifB (roomA 8 x.2.2.2.2.2.2 [5]) (some (Sum.inl (wadd .i64 x.1 1, x.2.1, x.2.2.1, x.2.2.2.1, x.2.2.2.2.1, x.2.2.2.2.2.1, cat x.2.2.2.2.2.2 [5]))) none) (ifB (geI y.2.2.1 (lenI y_1.2.2.2.2)) (ifB (roomA 8 x.2.2.2.2.2.2 [5]) (some (Sum.inl (wadd .i64 x.1 1, x.2.1, x.2.2.1, x.2.2.2.1, x.2.2.2.2.1, x.2.2.2.2.2.1, cat x.2.2.2.2.2.2 [5]))) none) (ifB (eqI y.1 6) (ifB (ltL y.2.2.1 y_1.2.2.2.2) (bindO (atN y_1.2.2.2.2 (natI y.2.2.1)) fun (y_2 : Int) => ifB (roomA 8 x.2.2.2.2.2.2 [0]) (some (Sum.inl (wadd .i64 x.1 1, y_1.1, y_1.2.1, y_1.2.2.1, y_1.2.2.2.1, setN y_1.2.2.2.2 (natI y.2.2.1) (-1), cat x.2.2.2.2.2.2 [0]))) none) none) (bindO (F_disk_Recover (y_1.2.1, y_1.2.2.1)) fun (y_2 : (List Int × List Int) × List (Int × Int × Int × List (Int × Int × Int)) × Int) => ifB (eqI y_2.2.2 0) (ifB (ltL y.2.2.1 y_1.2.2.2.2) (bindO (atN y_1.2.2.2.2 (natI y.2.2.1)) fun (y_3 : Int) => ifB (eqI y_2.2.2 0) (ifB (roomA 8 x.2.2.2.2.2.2 [y_2.2.2]) (some (Sum.inl (wadd .i64 x.1 1, y_1.1, y_1.2.1, y_1.2.2.1, y_1.2.2.2.1, setN y_1.2.2.2.2 (natI y.2.2.1) (lenI y_2.2.1), cat x.2.2.2.2.2.2 [y_2.2.2]))) none) (ifB (roomA 8 x.2.2.2.2.2.2 [y_2.2.2]) (some (Sum.inl (wadd .i64 x.1 1, x.2.1, x.2.2.1, x.2.2.2.1, x.2.2.2.2.1, x.2.2.2.2.2.1, cat x.2.2.2.2.2.2 [y_2.2.2]))) none)) none) (ifB (eqI y_2.2.2 0) (ifB (roomA 8 x.2.2.2.2.2.2 [y_2.2.2]) (some (Sum.inl (wadd .i64 x.1 1, y_1.1, y_1.2.1, y_1.2.2.1, y_1.2.2.2.1, y_1.2.2.2.2, cat x.2.2.2.2.2.2 [y_2.2.2]))) none) (ifB (roomA 8 x.2.2.2.2.2.2 [y_2.2.2]) (some (Sum.inl (wadd .i64 x.1 1, x.2.1, x.2.2.1, x.2.2.2.1, x.2.2.2.2.1, x.2.2.2.2.2.1, cat x.2.2.2.2.2.2 [y_2.2.2]))) none)))))) (ifB (eqI y.1 7) (bindO F_shelf_New fun (y : List (List (Int × Int × Int × List Bool) × List (Int × Int))) => bindO F_world_closed fun (y_2 : List Int) => ifB (roomA 8 x.2.2.2.2.2.2 [0]) (some (Sum.inl (wadd .i64 x.1 1, y, y_1.2.1, y_1.2.2.1, false, y_2, cat x.2.2.2.2.2.2 [0]))) none) (ifB (eqI y.1 8) (bindO (F_disk_Recover (y_1.2.1, y_1.2.2.1)) fun (y : (List Int × List Int) × List (Int × Int × Int × List (Int × Int × Int)) × Int) => ifB (neI y.2.2 0) (ifB (eqI y.2.2 0) (ifB (roomA 8 x.2.2.2.2.2.2 [y.2.2]) (some (Sum.inl (wadd .i64 x.1 1, y_1.1, y_1.2.1, y_1.2.2.1, y_1.2.2.2.1, y_1.2.2.2.2, cat x.2.2.2.2.2.2 [y.2.2]))) none) (ifB (roomA 8 x.2.2.2.2.2.2 [y.2.2]) (some (Sum.inl (wadd .i64 x.1 1, x.2.1, x.2.2.1, x.2.2.2.1, x.2.2.2.2.1, x.2.2.2.2.2.1, cat x.2.2.2.2.2.2 [y.2.2]))) none)) (bindO (F_store_Replay y.2.1) fun (y_2 : List (List (Int × Int × Int × List Bool) × List (Int × Int)) × Int) => ifB (eqI y_2.2 0) (ifB (eqI y_2.2 0) (ifB (roomA 8 x.2.2.2.2.2.2 [y_2.2]) (some (Sum.inl (wadd .i64 x.1 1, y_2.1, y.1.1, y.1.2, true, y_1.2.2.2.2, cat x.2.2.2.2.2.2 [y_2.2]))) none) (ifB (roomA 8 x.2.2.2.2.2.2 [y_2.2]) (some (Sum.inl (wadd .i64 x.1 1, x.2.1, x.2.2.1, x.2.2.2.1, x.2.2.2.2.1, x.2.2.2.2.2.1, cat x.2.2.2.2.2.2 [y_2.2]))) none)) (ifB (eqI y_2.2 0) (ifB (roomA 8 x.2.2.2.2.2.2 [y_2.2]) (some (Sum.inl (wadd .i64 x.1 1, y_1.1, y_1.2.1, y_1.2.2.1, y_1.2.2.2.1, y_1.2.2.2.2, cat x.2.2.2.2.2.2 [y_2.2]))) none) (ifB (roomA 8 x.2.2.2.2.2.2 [y_2.2]) (some (Sum.inl (wadd .i64 x.1 1, x.2.1, x.2.2.1, x.2.2.2.1, x.2.2.2.2.1, x.2.2.2.2.2.1, cat x.2.2.2.2.2.2 [y_2.2]))) none)))) (ifB (eqI y.1 1) (bindO (F_store_Next y_1.1 (1, 0, 0, y.2.2.2)) fun (y_2 : List (List (Int × Int × Int × List Bool) × List (Int × Int)) × Int) => ifB (neI y_2.2 0) (ifB (eqI y_2.2 0) (ifB (roomA 8 x.2.2.2.2.2.2 [y_2.2]) (some (Sum.inl (wadd .i64 x.1 1, y_1.1, y_1.2.1, y_1.2.2.1, y_1.2.2.2.1, y_1.2.2.2.2, cat x.2.2.2.2.2.2 [y_2.2]))) none) (ifB (roomA 8 x.2.2.2.2.2.2 [y_2.2]) (some (Sum.inl (wadd .i64 x.1 1, x.2.1, x.2.2.1, x.2.2.2.1, x.2.2.2.2.1, x.2.2.2.2.2.1, cat x.2.2.2.2.2.2 [y_2.2]))) none)) (bindO (F_disk_Put (y_1.2.1, y_1.2.2.1) (1, 0, 0, y.2.2.2)) fun (y_3 : (List Int × List Int) × Int) => ifB (neI y_3.2 0) (ifB (eqI y_3.2 0) (ifB (roomA 8 x.2.2.2.2.2.2 [y_3.2]) (some (Sum.inl (wadd .i64 x.1 1, y_1.1, y_1.2.1, y_1.2.2.1, y_1.2.2.2.1, y_1.2.2.2.2, cat x.2.2.2.2.2.2 [y_3.2]))) none) (ifB (roomA 8 x.2.2.2.2.2.2 [y_3.2]) (some (Sum.inl (wadd .i64 x.1 1, x.2.1, x.2.2.1, x.2.2.2.1, x.2.2.2.2.1, x.2.2.2.2.2.1, cat x.2.2.2.2.2.2 [y_3.2]))) none)) (ifB (eqI y.1 9) (bindO (F_disk_Crash (y_3.1.1, y_3.1.2) (maxI 0 (minI y.2.2.1 (lenI y_3.1.2)))) fun (y : (List Int × List Int) × Int) => ifB (eqI y.2 0) (bindO F_shelf_New fun (y_4 : List (List (Int × Int × Int × List Bool) × List (Int × Int))) => bindO F_world_closed fun (y_5 : List Int) => ifB (eqI y.2 0) (ifB (roomA 8 x.2.2.2.2.2.2 [y.2]) (some (Sum.inl (wadd .i64 x.1 1, y_4, y.1.1, y.1.2, false, y_5, cat x.2.2.2.2.2.2 [y.2]))) none) (ifB (roomA 8 x.2.2.2.2.2.2 [y.2]) (some (Sum.inl (wadd .i64 x.1 1, x.2.1, x.2.2.1, x.2.2.2.1, x.2.2.2.2.1, x.2.2.2.2.2.1, cat x.2.2.2.2.2.2 [y.2]))) none)) (ifB (eqI y.2 0) (ifB (roomA 8 x.2.2.2.2.2.2 [y.2]) (some (Sum.inl (wadd .i64 x.1 1, y_1.1, y_1.2.1, y_1.2.2.1, y_1.2.2.2.1, y_1.2.2.2.2, cat x.2.2.2.2.2.2 [y.2]))) none) (ifB (roomA 8 x.2.2.2.2.2.2 [y.2]) (some (Sum.inl (wadd .i64 x.1 1, x.2.1, x.2.2.1, x.2.2.2.1, x.2.2.2.2.1, x.2.2.2.2.2.1, cat x.2.2.2.2.2.2 [y.2]))) none))) (bindO (F_disk_Sync (y_3.1.1, y_3.1.2)) fun (y : (List Int × List Int) × Int) => ifB (eqI y.2 0) (ifB (eqI y.2 0) (ifB (roomA 8 x.2.2.2.2.2.2 [y.2]) (some (Sum.inl (wadd .i64 x.1 1, y_2.1, y.1.1, y.1.2, y_1.2.2.2.1, y_1.2.2.2.2, cat x.2.2.2.2.2.2 [y.2]))) none) (ifB (roomA 8 x.2.2.2.2.2.2 [y.2]) (some (Sum.inl (wadd .i64 x.1 1, x.2.1, x.2.2.1, x.2.2.2.1, x.2.2.2.2.1, x.2.2.2.2.2.1, cat x.2.2.2.2.2.2 [y.2]))) none)) (ifB (eqI y.2 0) (ifB (roomA 8 x.2.2.2.2.2.2 [y.2]) (some (Sum.inl (wadd .i64 x.1 1, y_1.1, y_1.2.1, y_1.2.2.1, y_1.2.2.2.1, y_1.2.2.2.2, cat x.2.2.2.2.2.2 [y.2]))) none) (ifB (roomA 8 x.2.2.2.2.2.2 [y.2]) (some (Sum.inl (wadd .i64 x.1 1, x.2.1, x.2.2.1, x.2.2.2.1, x.2.2.2.2.1, x.2.2.2.2.2.1, cat x.2.2.2.2.2.2 [y.2]))) none)))))) (ifB (eqI y.1 9) (bindO (F_store_Next y_1.1 (1, 0, 0, y.2.2.2)) fun (y_2 : List (List (Int × Int × Int × List Bool) × List (Int × Int)) × Int) => ifB (neI y_2.2 0) (ifB (eqI y_2.2 0) (ifB (roomA 8 x.2.2.2.2.2.2 [y_2.2]) (some (Sum.inl (wadd .i64 x.1 1, y_1.1, y_1.2.1, y_1.2.2.1, y_1.2.2.2.1, y_1.2.2.2.2, cat x.2.2.2.2.2.2 [y_2.2]))) none) (ifB (roomA 8 x.2.2.2.2.2.2 [y_2.2]) (some (Sum.inl (wadd .i64 x.1 1, x.2.1, x.2.2.1, x.2.2.2.1, x.2.2.2.2.1, x.2.2.2.2.2.1, cat x.2.2.2.2.2.2 [y_2.2]))) none)) (bindO (F_disk_Put (y_1.2.1, y_1.2.2.1) (1, 0, 0, y.2.2.2)) fun (y_3 : (List Int × List Int) × Int) => ifB (neI y_3.2 0) (ifB (eqI y_3.2 0) (ifB (roomA 8 x.2.2.2.2.2.2 [y_3.2]) (some (Sum.inl (wadd .i64 x.1 1, y_1.1, y_1.2.1, y_1.2.2.1, y_1.2.2.2.1, y_1.2.2.2.2, cat x.2.2.2.2.2.2 [y_3.2]))) none) (ifB (roomA 8 x.2.2.2.2.2.2 [y_3.2]) (some (Sum.inl (wadd .i64 x.1 1, x.2.1, x.2.2.1, x.2.2.2.1, x.2.2.2.2.1, x.2.2.2.2.2.1, cat x.2.2.2.2.2.2 [y_3.2]))) none)) (ifB (eqI y.1 9) (bindO (F_disk_Crash (y_3.1.1, y_3.1.2) (maxI 0 (minI y.2.2.1 (lenI y_3.1.2)))) fun (y : (List Int × List Int) × Int) => ifB (eqI y.2 0) (bindO F_shelf_New fun (y_4 : List (List (Int × Int × Int × List Bool) × List (Int × Int))) => bindO F_world_closed fun (y_5 : List Int) => ifB (eqI y.2 0) (ifB (roomA 8 x.2.2.2.2.2.2 [y.2]) (some (Sum.inl (wadd .i64 x.1 1, y_4, y.1.1, y.1.2, false, y_5, cat x.2.2.2.2.2.2 [y.2]))) none) (ifB (roomA 8 x.2.2.2.2.2.2 [y.2]) (some (Sum.inl (wadd .i64 x.1 1, x.2.1, x.2.2.1, x.2.2.2.1, x.2.2.2.2.1, x.2.2.2.2.2.1, cat x.2.2.2.2.2.2 [y.2]))) none)) (ifB (eqI y.2 0) (ifB (roomA 8 x.2.2.2.2.2.2 [y.2]) (some (Sum.inl (wadd .i64 x.1 1, y_1.1, y_1.2.1, y_1.2.2.1, y_1.2.2.2.1, y_1.2.2.2.2, cat x.2.2.2.2.2.2 [y.2]))) none) (ifB (roomA 8 x.2.2.2.2.2.2 [y.2]) (some (Sum.inl (wadd .i64 x.1 1, x.2.1, x.2.2.1, x.2.2.2.1, x.2.2.2.2.1, x.2.2.2.2.2.1, cat x.2.2.2.2.2.2 [y.2]))) none))) (bindO (F_disk_Sync (y_3.1.1, y_3.1.2)) fun (y : (List Int × List Int) × Int) => ifB (eqI y.2 0) (ifB (eqI y.2 0) (ifB (roomA 8 x.2.2.2.2.2.2 [y.2]) (some (Sum.inl (wadd .i64 x.1 1, y_2.1, y.1.1, y.1.2, y_1.2.2.2.1, y_1.2.2.2.2, cat x.2.2.2.2.2.2 [y.2]))) none) (ifB (roomA 8 x.2.2.2.2.2.2 [y.2]) (some (Sum.inl (wadd .i64 x.1 1, x.2.1, x.2.2.1, x.2.2.2.1, x.2.2.2.2.1, x.2.2.2.2.2.1, cat x.2.2.2.2.2.2 [y.2]))) none)) (ifB (eqI y.2 0) (ifB (roomA 8 x.2.2.2.2.2.2 [y.2]) (some (Sum.inl (wadd .i64 x.1 1, y_1.1, y_1.2.1, y_1.2.2.1, y_1.2.2.2.1, y_1.2.2.2.2, cat x.2.2.2.2.2.2 [y.2]))) none) (ifB (roomA 8 x.2.2.2.2.2.2 [y.2]) (some (Sum.inl (wadd .i64 x.1 1, x.2.1, x.2.2.1, x.2.2.2.1, x.2.2.2.2.1, x.2.2.2.2.2.1, cat x.2.2.2.2.2.2 [y.2]))) none)))))) (ifB (eqI y.1 4) (bindO (F_store_Next y_1.1 (4, 0, y.2.2.1, [])) fun (y_2 : List (List (Int × Int × Int × List Bool) × List (Int × Int)) × Int) => ifB (neI y_2.2 0) (ifB (eqI y_2.2 0) (ifB (roomA 8 x.2.2.2.2.2.2 [y_2.2]) (some (Sum.inl (wadd .i64 x.1 1, y_1.1, y_1.2.1, y_1.2.2.1, y_1.2.2.2.1, y_1.2.2.2.2, cat x.2.2.2.2.2.2 [y_2.2]))) none) (ifB (roomA 8 x.2.2.2.2.2.2 [y_2.2]) (some (Sum.inl (wadd .i64 x.1 1, x.2.1, x.2.2.1, x.2.2.2.1, x.2.2.2.2.1, x.2.2.2.2.2.1, cat x.2.2.2.2.2.2 [y_2.2]))) none)) (bindO (F_disk_Put (y_1.2.1, y_1.2.2.1) (4, 0, y.2.2.1, [])) fun (y : (List Int × List Int) × Int) => ifB (neI y.2 0) (ifB (eqI y.2 0) (ifB (roomA 8 x.2.2.2.2.2.2 [y.2]) (some (Sum.inl (wadd .i64 x.1 1, y_1.1, y_1.2.1, y_1.2.2.1, y_1.2.2.2.1, y_1.2.2.2.2, cat x.2.2.2.2.2.2 [y.2]))) none) (ifB (roomA 8 x.2.2.2.2.2.2 [y.2]) (some (Sum.inl (wadd .i64 x.1 1, x.2.1, x.2.2.1, x.2.2.2.1, x.2.2.2.2.1, x.2.2.2.2.2.1, cat x.2.2.2.2.2.2 [y.2]))) none)) (bindO (F_disk_Sync (y.1.1, y.1.2)) fun (y : (List Int × List Int) × Int) => ifB (eqI y.2 0) (ifB (eqI y.2 0) (ifB (roomA 8 x.2.2.2.2.2.2 [y.2]) (some (Sum.inl (wadd .i64 x.1 1, y_2.1, y.1.1, y.1.2, y_1.2.2.2.1, y_1.2.2.2.2, cat x.2.2.2.2.2.2 [y.2]))) none) (ifB (roomA 8 x.2.2.2.2.2.2 [y.2]) (some (Sum.inl (wadd .i64 x.1 1, x.2.1, x.2.2.1, x.2.2.2.1, x.2.2.2.2.1, x.2.2.2.2.2.1, cat x.2.2.2.2.2.2 [y.2]))) none)) (ifB (eqI y.2 0) (ifB (roomA 8 x.2.2.2.2.2.2 [y.2]) (some (Sum.inl (wadd .i64 x.1 1, y_1.1, y_1.2.1, y_1.2.2.1, y_1.2.2.2.1, y_1.2.2.2.2, cat x.2.2.2.2.2.2 [y.2]))) none) (ifB (roomA 8 x.2.2.2.2.2.2 [y.2]) (some (Sum.inl (wadd .i64 x.1 1, x.2.1, x.2.2.1, x.2.2.2.1, x.2.2.2.2.1, x.2.2.2.2.2.1, cat x.2.2.2.2.2.2 [y.2]))) none))))) (bindO (F_store_Next y_1.1 (y.1, y.2.1, y.2.2.1, [])) fun (y_2 : List (List (Int × Int × Int × List Bool) × List (Int × Int)) × Int) => ifB (neI y_2.2 0) (ifB (eqI y_2.2 0) (ifB (roomA 8 x.2.2.2.2.2.2 [y_2.2]) (some (Sum.inl (wadd .i64 x.1 1, y_1.1, y_1.2.1, y_1.2.2.1, y_1.2.2.2.1, y_1.2.2.2.2, cat x.2.2.2.2.2.2 [y_2.2]))) none) (ifB (roomA 8 x.2.2.2.2.2.2 [y_2.2]) (some (Sum.inl (wadd .i64 x.1 1, x.2.1, x.2.2.1, x.2.2.2.1, x.2.2.2.2.1, x.2.2.2.2.2.1, cat x.2.2.2.2.2.2 [y_2.2]))) none)) (bindO (F_disk_Put (y_1.2.1, y_1.2.2.1) (y.1, y.2.1, y.2.2.1, [])) fun (y : (List Int × List Int) × Int) => ifB (neI y.2 0) (ifB (eqI y.2 0) (ifB (roomA 8 x.2.2.2.2.2.2 [y.2]) (some (Sum.inl (wadd .i64 x.1 1, y_1.1, y_1.2.1, y_1.2.2.1, y_1.2.2.2.1, y_1.2.2.2.2, cat x.2.2.2.2.2.2 [y.2]))) none) (ifB (roomA 8 x.2.2.2.2.2.2 [y.2]) (some (Sum.inl (wadd .i64 x.1 1, x.2.1, x.2.2.1, x.2.2.2.1, x.2.2.2.2.1, x.2.2.2.2.2.1, cat x.2.2.2.2.2.2 [y.2]))) none)) (bindO (F_disk_Sync (y.1.1, y.1.2)) fun (y : (List Int × List Int) × Int) => ifB (eqI y.2 0) (ifB (eqI y.2 0) (ifB (roomA 8 x.2.2.2.2.2.2 [y.2]) (some (Sum.inl (wadd .i64 x.1 1, y_2.1, y.1.1, y.1.2, y_1.2.2.2.1, y_1.2.2.2.2, cat x.2.2.2.2.2.2 [y.2]))) none) (ifB (roomA 8 x.2.2.2.2.2.2 [y.2]) (some (Sum.inl (wadd .i64 x.1 1, x.2.1, x.2.2.1, x.2.2.2.1, x.2.2.2.2.1, x.2.2.2.2.2.1, cat x.2.2.2.2.2.2 [y.2]))) none)) (ifB (eqI y.2 0) (ifB (roomA 8 x.2.2.2.2.2.2 [y.2]) (some (Sum.inl (wadd .i64 x.1 1, y_1.1, y_1.2.1, y_1.2.2.1, y_1.2.2.2.1, y_1.2.2.2.2, cat x.2.2.2.2.2.2 [y.2]))) none) (ifB (roomA 8 x.2.2.2.2.2.2 [y.2]) (some (Sum.inl (wadd .i64 x.1 1, x.2.1, x.2.2.1, x.2.2.2.1, x.2.2.2.2.1, x.2.2.2.2.2.1, cat x.2.2.2.2.2.2 [y.2]))) none))))))))))))))) (mapO Sum.inr (some ((x.2.1, x.2.2.1, x.2.2.2.1, x.2.2.2.2.1, x.2.2.2.2.2.1), x.2.2.2.2.2.2, 0)))) (0, y.1, y.2.1, y.2.2.1, y.2.2.2.1, y.2.2.2.2, [])))
theorem F_world_Run_eq (x : PI is_world_Run) : F_world_Run (x.1) (x.2) = fnE T G_world_Run H_world_Run C_world_Run (resOf Tryz.f17) is_world_Run os_world_Run x := by kernel_rfl
noncomputable abbrev R_world_Run : GS := mkSpec false is_world_Run os_world_Run fun x => F_world_Run (x.1) (x.2)
theorem R_world_Run_ok : GSOK Tryz.prog 17 R_world_Run := spec_ok tok g_world_Run fmo (Ht := H_world_Run) (fn := Tryz.f17) (Tryz.func17) (c := C_world_Run) (by kernel_rfl) (by kernel_rfl) (by kernel_rfl) (by decide +kernel) (by decide) F_world_Run_eq
end Go.Proofs.Y
namespace Go.Proofs.Y
open Go.Rb Go.Kx
abbrev Hp := Int × Int × Int × List Ent
noncomputable def wrC {α : Type} (K : Wv → Int → Option α) (tear : Bool) (n : Int) (r : Rc) (y : Wv) : Option α :=
  bindO (F_store_Next y.1 r) fun (y_1 : Shf × Int) => ifB (neI y_1.2 0) (K y y_1.2)
    (bindO (F_disk_Put (y.2.1, y.2.2.1) r) fun (y_2 : (List Int × List Int) × Int) => ifB (neI y_2.2 0) (K y y_2.2)
      (ifB tear
        (bindO (F_disk_Crash y_2.1 (maxI 0 (minI n (lenI y_2.1.2)))) fun (y_3 : (List Int × List Int) × Int) => ifB (eqI y_3.2 0)
          (bindO F_shelf_New fun (s : Shf) => bindO F_world_closed fun (c : List Int) => K (s, y_3.1.1, y_3.1.2, false, c) y_3.2) (K y y_3.2))
        (bindO (F_disk_Sync y_2.1) fun (y_3 : (List Int × List Int) × Int) => ifB (eqI y_3.2 0) (K (y_1.1, y_3.1.1, y_3.1.2, y.2.2.2.1, y.2.2.2.2) y_3.2) (K y y_3.2))))
noncomputable def opC {α : Type} (K : Wv → Int → Option α) (shut : Bool) (n : Int) (y : Wv) : Option α :=
  ifB (ltI n 0) (K y 5) (ifB (geI n (lenI y.2.2.2.2)) (K y 5) (ifB shut
    (ifB (ltL n y.2.2.2.2) (bindO (atN y.2.2.2.2 (natI n)) fun (_ : Int) => K (y.1, y.2.1, y.2.2.1, y.2.2.2.1, setN y.2.2.2.2 (natI n) (-1)) 0) none)
    (bindO (F_disk_Recover (y.2.1, y.2.2.1)) fun (y_1 : (List Int × List Int) × List Rc × Int) => ifB (eqI y_1.2.2 0)
      (ifB (ltL n y.2.2.2.2) (bindO (atN y.2.2.2.2 (natI n)) fun (_ : Int) => K (y.1, y.2.1, y.2.2.1, y.2.2.2.1, setN y.2.2.2.2 (natI n) (lenI y_1.2.1)) y_1.2.2) none) (K y y_1.2.2))))
noncomputable def hapC {α : Type} (K : Wv → Int → Option α) (x : Hp) (y : Wv) : Option α :=
  ifB (ltI x.1 1) (K y 4) (ifB (gtI x.1 9) (K y 4) (ifB (eqB y.2.2.2.1 (eqI x.1 8)) (K y 7)
    (ifB (eqI x.1 5) (opC K (eqI x.1 6) x.2.2.1 y) (ifB (eqI x.1 6) (opC K (eqI x.1 6) x.2.2.1 y)
    (ifB (eqI x.1 7) (bindO F_shelf_New fun (s : Shf) => bindO F_world_closed fun (c : List Int) => K (s, y.2.1, y.2.2.1, false, c) 0)
    (ifB (eqI x.1 8) (bindO (F_disk_Recover (y.2.1, y.2.2.1)) fun (y_1 : (List Int × List Int) × List Rc × Int) => ifB (neI y_1.2.2 0) (K y y_1.2.2)
      (bindO (F_store_Replay y_1.2.1) fun (y_2 : Shf × Int) => ifB (eqI y_2.2 0) (K (y_2.1, y_1.1.1, y_1.1.2, true, y.2.2.2.2) y_2.2) (K y y_2.2)))
    (ifB (eqI x.1 1) (wrC K (eqI x.1 9) x.2.2.1 (1, 0, 0, x.2.2.2) y) (ifB (eqI x.1 9) (wrC K (eqI x.1 9) x.2.2.1 (1, 0, 0, x.2.2.2) y)
    (ifB (eqI x.1 4) (wrC K false 0 (4, 0, x.2.2.1, []) y) (wrC K false 0 (x.1, x.2.1, x.2.2.1, []) y))))))))))
def zW : Wv := ([], [], [], false, [])
theorem do_form (w : Wv) (x : Hp) : F_world_Do w x = bindO (F_world_Check w) fun (c : Int) => ifB (neI c 0) (some (zW, c)) (bindO (F_world_Copy w) fun (y : Wv) => hapC (fun w e => ifB (neI e 0) (some (zW, e)) (some (w, 0))) x y) := by kernel_rfl
theorem run_form (w : Wv) (l : List Hp) : F_world_Run w l = bindO (F_world_Check w) fun (c : Int) => ifB (neI c 0) (some (zW, [], c)) (ifB (gtI (lenI l) 100) (some (zW, [], 2)) (bindO (F_world_Copy w) fun (y : Wv) =>
    loopN maxR (fun (x : Int × Shf × List Int × List Int × Bool × List Int × List Int) => ifB (ltI x.1 (lenI l))
      (bindO (atI l x.1) fun (h : Hp) => bindO (F_world_Copy (x.2.1, x.2.2.1, x.2.2.2.1, x.2.2.2.2.1, x.2.2.2.2.2.1)) fun (y_1 : Wv) =>
        hapC (fun v e => ifB (eqI e 0)
          (ifB (roomA 8 x.2.2.2.2.2.2 [e]) (some (Sum.inl (wadd IntKind.i64 x.1 1, v.1, v.2.1, v.2.2.1, v.2.2.2.1, v.2.2.2.2, cat x.2.2.2.2.2.2 [e]))) none)
          (ifB (roomA 8 x.2.2.2.2.2.2 [e]) (some (Sum.inl (wadd IntKind.i64 x.1 1, x.2.1, x.2.2.1, x.2.2.2.1, x.2.2.2.2.1, x.2.2.2.2.2.1, cat x.2.2.2.2.2.2 [e]))) none)) h y_1)
      (mapO Sum.inr (some ((x.2.1, x.2.2.1, x.2.2.2.1, x.2.2.2.2.1, x.2.2.2.2.2.1), x.2.2.2.2.2.2, 0)))) (0, y.1, y.2.1, y.2.2.1, y.2.2.2.1, y.2.2.2.2, []))) := by kernel_rfl
end Go.Proofs.Y
namespace Go.Proofs.Y
open Go.Rb Go.Kx
abbrev Wd := Shf × (List UInt8 × List UInt8) × Bool × List Int
def wvd (w : Wd) : Wv := wv w.1 w.2.1 w.2.2.1 w.2.2.2
def wrP (w : Wd) (tear : Bool) (n : Int) (r : Rc) : Wd × Int :=
  if (nextS w.1 r).2 = 0 then (if (dPut w.2.1 r).2 = 0 then
    (if tear = true then (if (dCrash (dPut w.2.1 r).1 (max 0 (min n (dPut w.2.1 r).1.2.length))).2 = 0 then ((freshS, (dCrash (dPut w.2.1 r).1 (max 0 (min n (dPut w.2.1 r).1.2.length))).1, false, [-1, -1, -1]), 0) else (w, (dCrash (dPut w.2.1 r).1 (max 0 (min n (dPut w.2.1 r).1.2.length))).2))
    else (if (dSync (dPut w.2.1 r).1).2 = 0 then (((nextS w.1 r).1, (dSync (dPut w.2.1 r).1).1, w.2.2.1, w.2.2.2), 0) else (w, (dSync (dPut w.2.1 r).1).2)))
    else (w, (dPut w.2.1 r).2)) else (w, (nextS w.1 r).2)
def opP (w : Wd) (shut : Bool) (n : Int) : Wd × Int :=
  if n < 0 then (w, 5) else if (w.2.2.2.length : Int) ≤ n then (w, 5) else if shut = true then ((w.1, w.2.1, w.2.2.1, w.2.2.2.set n.toNat (-1)), 0) else
    if (dRecover w.2.1).2.2 = 0 then ((w.1, w.2.1, w.2.2.1, w.2.2.2.set n.toNat ((dRecover w.2.1).2.1.length : Int)), 0) else (w, (dRecover w.2.1).2.2)
def bootP (w : Wd) : Wd × Int :=
  if (dRecover w.2.1).2.2 = 0 then (if (replayR (dRecover w.2.1).2.1).2 = 0 then (((replayR (dRecover w.2.1).2.1).1, (dRecover w.2.1).1, true, w.2.2.2), 0) else (w, (replayR (dRecover w.2.1).2.1).2)) else (w, (dRecover w.2.1).2.2)
def hapP (w : Wd) (x : Hp) : Wd × Int :=
  if x.1 < 1 then (w, 4) else if 9 < x.1 then (w, 4) else if w.2.2.1 = decide (x.1 = 8) then (w, 7) else
  if x.1 = 5 then opP w false x.2.2.1 else if x.1 = 6 then opP w true x.2.2.1 else
  if x.1 = 7 then ((freshS, w.2.1, false, [-1, -1, -1]), 0) else if x.1 = 8 then bootP w else
  if x.1 = 1 then wrP w false x.2.2.1 (1, 0, 0, x.2.2.2) else if x.1 = 9 then wrP w true x.2.2.1 (1, 0, 0, x.2.2.2) else
  if x.1 = 4 then wrP w false 0 (4, 0, x.2.2.1, []) else wrP w false 0 (x.1, x.2.1, x.2.2.1, [])
theorem dPut_len {d : List UInt8 × List UInt8} {r : Rc} (h : (dPut d r).2 = 0) : (dPut d r).1.1.length + (dPut d r).1.2.length ≤ 60000 := by
  unfold dPut at h ⊢
  split at h
  · rename_i h1
    rw [if_pos h1]
    split at h
    · rename_i h2
      rw [if_pos h2]
      split at h
      · cases h
      · rename_i h3
        rw [if_neg h3]
        have : (lineT r).length = (textR r).length + 1 := by simp [lineT]
        simp only [List.length_append]
        omega
    · rename_i h2; exact absurd h h2
  · rename_i h1; exact absurd h h1
theorem closed_eq : F_world_closed = some [-1, -1, -1] := rfl
theorem wrC_eq {α : Type} (K : Wv → Int → Option α) (tear : Bool) (n : Int) (r : Rc) (w : Wd) (hs : okS w.1) (hd : w.2.1.1.length + w.2.1.2.length ≤ 60000) (hr : r.2.2.2.length < 4611686018427387904) :
    wrC K tear n r (wvd w) = K (wvd (wrP w tear n r).1) (wrP w tear n r).2 := by
  unfold wrC wrP
  simp only [wvd, wv]
  rw [next_eq _ _ hs hr, bindO_some, ifB_neI]
  by_cases c1 : (nextS w.1 r).2 = 0
  · rw [if_pos c1, if_pos c1, dPut_eq w.2.1 r (by omega) (by omega) hr, bindO_some]
    simp only
    rw [ifB_neI]
    by_cases c2 : (dPut w.2.1 r).2 = 0
    · have hl := dPut_len c2
      rw [if_pos c2, if_pos c2]
      cases tear with
      | true =>
        rw [ifB_t, if_pos rfl]
        simp only [bD, lenI_eq, bytB_lenN]
        rw [show maxI 0 (minI n ((dPut w.2.1 r).1.2.length : Int)) = max 0 (min n ((dPut w.2.1 r).1.2.length : Int)) from rfl, dCrash_eq (dPut w.2.1 r).1 _ (by omega) (by omega), bindO_some]
        generalize dCrash (dPut w.2.1 r).1 (max 0 (min n ((dPut w.2.1 r).1.2.length : Int))) = z
        simp only [bD]
        rw [ifB_eqI]
        by_cases c3 : z.2 = 0
        · rw [if_pos c3, if_pos c3, new_eq, bindO_some, closed_eq, bindO_some, c3]
        · rw [if_neg c3, if_neg c3]
      | false =>
        rw [ifB_f, if_neg (by decide)]
        simp only [bD]
        rw [dSync_eq (dPut w.2.1 r).1 (by omega) (by omega), bindO_some]
        generalize dSync (dPut w.2.1 r).1 = z
        simp only [bD]
        rw [ifB_eqI]
        by_cases c3 : z.2 = 0
        · rw [if_pos c3, if_pos c3, c3]
        · rw [if_neg c3, if_neg c3]
    · rw [if_neg c2, if_neg c2]
  · rw [if_neg c1, if_neg c1]
theorem opC_eq {α : Type} (K : Wv → Int → Option α) (shut : Bool) (n : Int) (w : Wd) (hd : w.2.1.1.length + w.2.1.2.length ≤ 60000) :
    opC K shut n (wvd w) = K (wvd (opP w shut n).1) (opP w shut n).2 := by
  unfold opC opP
  simp only [wvd, wv]
  rw [ifB_ltI, ifB_geI, lenI_eq]
  by_cases c1 : n < 0
  · rw [if_pos c1, if_pos c1]
  rw [if_neg c1, if_neg c1]
  by_cases c2 : (w.2.2.2.length : Int) ≤ n
  · rw [if_pos c2, if_pos c2]
  rw [if_neg c2, if_neg c2]
  have hn : n.toNat < w.2.2.2.length := by omega
  have hat := atN_nat hn
  cases shut with
  | true =>
    rw [ifB_t, if_pos rfl, ifB_ltL, if_pos ⟨by omega, by omega⟩, natI_eq, hat, bindO_some, setN_eq]
  | false =>
    rw [ifB_f, if_neg (by decide), dRecover_eq w.2.1 (by omega) (by omega), bindO_some]
    simp only
    rw [ifB_eqI]
    by_cases c3 : (dRecover w.2.1).2.2 = 0
    · rw [if_pos c3, if_pos c3, ifB_ltL, if_pos ⟨by omega, by omega⟩, natI_eq, hat, bindO_some, setN_eq, c3, lenI_eq]
    · rw [if_neg c3, if_neg c3]
theorem hapC_eq {α : Type} (K : Wv → Int → Option α) (x : Hp) (w : Wd) (hs : okS w.1) (hd : w.2.1.1.length + w.2.1.2.length ≤ 60000) (hx : x.2.2.2.length < 4611686018427387904) :
    hapC K x (wvd w) = K (wvd (hapP w x).1) (hapP w x).2 := by
  unfold hapC hapP
  rw [ifB_ltI, ifB_gtI]
  by_cases c1 : x.1 < 1
  · rw [if_pos c1, if_pos c1]
  rw [if_neg c1, if_neg c1]
  by_cases c2 : 9 < x.1
  · rw [if_pos c2, if_pos c2]
  rw [if_neg c2, if_neg c2, ifB_eqB]
  have e8 : eqI x.1 8 = decide (x.1 = 8) := by by_cases h : x.1 = 8 <;> simp [eqI, h]
  rw [e8, show (wvd w).2.2.2.1 = w.2.2.1 from rfl]
  by_cases c3 : w.2.2.1 = decide (x.1 = 8)
  · rw [if_pos c3, if_pos c3]
  rw [if_neg c3, if_neg c3, ifB_eqI, ifB_eqI, ifB_eqI, ifB_dec, ifB_eqI, ifB_eqI, ifB_eqI]
  by_cases k5 : x.1 = 5
  · rw [if_pos k5, if_pos k5, k5]
    exact opC_eq K false _ w hd
  rw [if_neg k5, if_neg k5]
  by_cases k6 : x.1 = 6
  · rw [if_pos k6, if_pos k6, k6]
    exact opC_eq K true _ w hd
  rw [if_neg k6, if_neg k6]
  by_cases k7 : x.1 = 7
  · rw [if_pos k7, if_pos k7, new_eq, bindO_some, closed_eq, bindO_some]
    rfl
  rw [if_neg k7, if_neg k7]
  by_cases k8 : x.1 = 8
  · rw [if_pos k8, if_pos k8]
    unfold bootP
    simp only [wvd, wv]
    rw [dRecover_eq w.2.1 (by omega) (by omega), bindO_some]
    simp only
    rw [ifB_neI]
    by_cases c4 : (dRecover w.2.1).2.2 = 0
    · have hn := recs_len w.2.1 c4
      have hok := recs_ok w.2.1
      rw [if_pos c4, if_pos c4, replay_eq _ (by omega) (fun r hr => small_rec (hok r hr)), bindO_some, ifB_eqI]
      by_cases c5 : (replayR (dRecover w.2.1).2.1).2 = 0
      · rw [if_pos c5, if_pos c5, c5]; rfl
      · rw [if_neg c5, if_neg c5]
    · rw [if_neg c4, if_neg c4]
  rw [if_neg k8, if_neg k8]
  by_cases k1 : x.1 = 1
  · rw [if_pos k1, if_pos k1, k1]
    exact wrC_eq K false _ _ w hs hd hx
  rw [if_neg k1, if_neg k1]
  by_cases k9 : x.1 = 9
  · rw [if_pos k9, if_pos k9, k9]
    exact wrC_eq K true _ _ w hs hd hx
  rw [if_neg k9, if_neg k9]
  by_cases k4 : x.1 = 4
  · rw [if_pos k4, if_pos k4]
    exact wrC_eq K false _ _ w hs hd (by simp)
  rw [if_neg k4, if_neg k4]
  exact wrC_eq K false _ _ w hs hd (by simp)
end Go.Proofs.Y
namespace Go.Proofs.Y
open Go.Rb Go.Kx
noncomputable def C_world_Read : Code := bodyOf Tryz.f47
noncomputable def G_world_Read : FuncId → Option GS := tabG [(24, R_world_Check), (34, R_disk_Recover), (28, R_store_Replay), (46, R_query_Range)]
theorem g_world_Read : ΓOK Tryz.prog G_world_Read := ΓOK_cons (R_world_Check_ok) (ΓOK_cons (R_disk_Recover_ok) (ΓOK_cons (R_store_Replay_ok) (ΓOK_cons (R_query_Range_ok) (ΓOK_nil))))
def H_world_Read : HT := ⟨tabL [], tabH []⟩
abbrev is_world_Read : List IT := [.v (.cons (.sl 95 (.cons (.sl 126 (.cons (.int .i64) (.cons (.int .i64) (.cons (.int .i64) (.one (.sl 4 (.one .bool))))))) (.one (.sl 73 (.cons (.int .i64) (.one (.int .i64))))))) (.cons (.sl 5 (.one (.int .u8))) (.cons (.sl 5 (.one (.int .u8))) (.cons (.bool) (.one (.sl 3 (.one (.int .i64)))))))) true, .v (.one (.int .i64)) false, .v (.one (.int .i64)) false, .v (.one (.int .i64)) false, .v (.one (.int .i64)) false]
abbrev os_world_Read : List OT := [⟨.one (.sl 73 (.cons (.int .i64) (.one (.int .i64)))), false, []⟩, ⟨.one (.int .i64), false, []⟩]
set_option maxRecDepth 100000
noncomputable def F_world_Read : List (List (Int × Int × Int × List Bool) × List (Int × Int)) × List Int × List Int × Bool × List Int → Int → Int → Int → Int → Option (List (Int × Int) × Int) := fun (a : List (List (Int × Int × Int × List Bool) × List (Int × Int)) × List Int × List Int × Bool × List Int) (b c d e : Int) => bindO (F_world_Check (a.1, a.2.1, a.2.2.1, a.2.2.2.1, a.2.2.2.2)) fun (y : Int) => ifB (neI y 0) (some ([], y)) (ifB (ltI b 0) (some ([], 5)) (ifB (geI b (lenI a.2.2.2.2)) (some ([], 5)) (bindO (atI a.2.2.2.2 b) fun (y : Int) => ifB (ltI y 0) (some ([], 7)) (bindO (F_disk_Recover (a.2.1, a.2.2.1)) fun (y : (List Int × List Int) × List (Int × Int × Int × List (Int × Int × Int)) × Int) => bindO (atI a.2.2.2.2 b) fun (y_1 : Int) => ifB (in1 y.2.1 y_1) (bindO (F_store_Replay (takeI y.2.1 y_1)) fun (y : List (List (Int × Int × Int × List Bool) × List (Int × Int)) × Int) => ifB (neI y.2 0) (some ([], y.2)) (bindO (F_query_Range y.1 c d e) fun (y : List (Int × Int) × Int) => some (y.1, y.2))) none))))
theorem F_world_Read_eq (x : PI is_world_Read) : F_world_Read (x.1) (x.2.1) (x.2.2.1) (x.2.2.2.1) (x.2.2.2.2) = fnE T G_world_Read H_world_Read C_world_Read (resOf Tryz.f47) is_world_Read os_world_Read x := by kernel_rfl
noncomputable abbrev R_world_Read : GS := mkSpec false is_world_Read os_world_Read fun x => F_world_Read (x.1) (x.2.1) (x.2.2.1) (x.2.2.2.1) (x.2.2.2.2)
theorem R_world_Read_ok : GSOK Tryz.prog 47 R_world_Read := spec_ok tok g_world_Read fmo (Ht := H_world_Read) (fn := Tryz.f47) (Tryz.func47) (c := C_world_Read) (by kernel_rfl) (by kernel_rfl) (by kernel_rfl) (by decide +kernel) (by decide) F_world_Read_eq
end Go.Proofs.Y
namespace Go.Proofs.Y
open Go.Rb Go.Kx
theorem chkL_zero {s : Shf} {l : List Rc} {up : Bool} {rd : List Int} (h : chkL s l up rd = 0) : (replayR l).2 = 0 ∧ (replayR l).1 = s ∧ rd.length = 3 ∧ rdE l.length up rd = 0 := by
  unfold chkL at h
  by_cases c1 : (replayR l).2 = 0
  · rw [if_pos c1] at h
    by_cases c2 : (replayR l).1 = s
    · rw [if_pos c2] at h
      by_cases c3 : rd.length = 3
      · rw [if_pos c3] at h; exact ⟨c1, c2, c3, h⟩
      · rw [if_neg c3] at h; cases h
    · rw [if_neg c2] at h; cases h
  · rw [if_neg c1] at h; exact absurd h c1
def okW (w : Wd) : Prop := chkS w.1 = 0 ∧ w.2.1.1.length + w.2.1.2.length ≤ 60000 ∧ w.2.2.2.length = 3
theorem dRecover_zero {d : List UInt8 × List UInt8} (h : (dRecover d).2.2 = 0) : dCheck d = 0 ∧ (dRecover d).1.1.length + (dRecover d).1.2.length ≤ 60000 := by
  unfold dRecover at h ⊢
  by_cases hc : dCheck d = 0
  · have := dCheck_len hc
    rw [if_pos hc]
    refine ⟨hc, ?_⟩
    simp only [List.length_append, List.length_nil, List.length_take]
    omega
  · rw [if_neg hc] at h; exact absurd h hc
theorem chkW_zero {w : Wd} (h : chkW w.1 w.2.1 w.2.2.1 w.2.2.2 = 0) : okW w ∧ (dRecover w.2.1).2.2 = 0 ∧ (w.2.2.1 = true → w.2.1.2 = [] ∧ (replayR (dRecover w.2.1).2.1).2 = 0 ∧ (replayR (dRecover w.2.1).2.1).1 = w.1) ∧ rdE (if w.2.2.1 = true then (dRecover w.2.1).2.1.length else 0) w.2.2.1 w.2.2.2 = 0 := by
  unfold chkW at h
  by_cases c1 : (dRecover w.2.1).2.2 = 0
  · rw [if_pos c1] at h
    have hd := dCheck_len (dRecover_zero c1).1
    by_cases c2 : w.2.2.1 = true
    · rw [if_pos c2] at h
      by_cases c3 : 0 < w.2.1.2.length
      · rw [if_pos c3] at h; cases h
      · rw [if_neg c3] at h
        obtain ⟨k1, k2, k3, k4⟩ := chkL_zero h
        exact ⟨⟨by rw [← k2]; exact (replayR_len k1).2.1, hd, k3⟩, c1, fun _ => ⟨List.eq_nil_of_length_eq_zero (by omega), k1, k2⟩, by rw [if_pos c2]; exact k4⟩
    · rw [if_neg c2] at h
      obtain ⟨k1, k2, k3, k4⟩ := chkL_zero h
      exact ⟨⟨by rw [← k2]; exact (replayR_len k1).2.1, hd, k3⟩, c1, fun h => absurd h c2, by rw [if_neg c2]; exact k4⟩
  · rw [if_neg c1] at h; exact absurd h c1
theorem do_eq (w : Wd) (x : Hp) (h1 : w.2.1.1.length < 4611686018427387904) (h2 : w.2.1.2.length < 4611686018427387904) (hrd : w.2.2.2.length < 4611686018427387904) (hx : x.2.2.2.length < 4611686018427387904) :
    F_world_Do (wvd w) x = some (if chkW w.1 w.2.1 w.2.2.1 w.2.2.2 = 0 then (if (hapP w x).2 = 0 then (wvd (hapP w x).1, 0) else (zW, (hapP w x).2)) else (zW, chkW w.1 w.2.1 w.2.2.1 w.2.2.2)) := by
  rw [do_form, show F_world_Check (wvd w) = _ from worldCheck_eq _ _ _ _ h1 h2 hrd, bindO_some, ifB_neI]
  by_cases hc : chkW w.1 w.2.1 w.2.2.1 w.2.2.2 = 0
  · obtain ⟨⟨o1, o2, o3⟩, _⟩ := chkW_zero hc
    rw [if_pos hc, if_pos hc, show F_world_Copy (wvd w) = some (wvd w) from worldCopy_eq _ _ _ _ o1 o2 o3, bindO_some, hapC_eq _ x w (okS_of o1) o2 hx, ifB_neI]
    split <;> rfl
  · rw [if_neg hc, if_neg hc]
theorem wrP_ok {w : Wd} {t : Bool} {n : Int} {r : Rc} (h : okW w) (he : (wrP w t n r).2 = 0) : okW (wrP w t n r).1 := by
  unfold wrP at he ⊢
  by_cases c1 : (nextS w.1 r).2 = 0
  · rw [if_pos c1] at he ⊢
    by_cases c2 : (dPut w.2.1 r).2 = 0
    · have hl := dPut_len c2
      rw [if_pos c2] at he ⊢
      cases t with
      | true =>
        rw [if_pos rfl] at he ⊢
        generalize hz : dCrash (dPut w.2.1 r).1 (max 0 (min n ((dPut w.2.1 r).1.2.length : Int))) = z at *
        by_cases c3 : z.2 = 0
        · rw [if_pos c3]
          refine ⟨fresh_ok, ?_, rfl⟩
          subst hz
          unfold dCrash at c3 ⊢
          by_cases q : dCheck (dPut w.2.1 r).1 = 0
          · rw [if_pos q] at c3 ⊢
            split at c3
            · cases c3
            · rename_i q2; rw [if_neg q2]; simp only [List.length_take]; omega
          · rw [if_neg q] at c3; exact absurd c3 q
        · rw [if_neg c3] at he; exact absurd he c3
      | false =>
        rw [if_neg (by decide)] at he ⊢
        generalize hz : dSync (dPut w.2.1 r).1 = z at *
        by_cases c3 : z.2 = 0
        · rw [if_pos c3]
          refine ⟨(nextS_ok c1).2.2.2, ?_, h.2.2⟩
          subst hz
          unfold dSync at c3 ⊢
          by_cases q : dCheck (dPut w.2.1 r).1 = 0
          · rw [if_pos q] at c3 ⊢
            split at c3
            · rename_i q2; rw [if_pos q2]; simp only [List.length_append, List.length_nil]; omega
            · rename_i q2; exact absurd c3 q2
          · rw [if_neg q] at c3; exact absurd c3 q
        · rw [if_neg c3] at he; exact absurd he c3
    · rw [if_neg c2] at he; exact absurd he c2
  · rw [if_neg c1] at he; exact absurd he c1
theorem opP_ok {w : Wd} {t : Bool} {n : Int} (h : okW w) : okW (opP w t n).1 := by
  unfold opP
  split
  · exact h
  · split
    · exact h
    · split
      · exact ⟨h.1, h.2.1, by simp only [List.length_set]; exact h.2.2⟩
      · split
        · exact ⟨h.1, h.2.1, by simp only [List.length_set]; exact h.2.2⟩
        · exact h
theorem hapP_ok {w : Wd} {x : Hp} (h : okW w) (he : (hapP w x).2 = 0) : okW (hapP w x).1 := by
  unfold hapP at he ⊢
  by_cases c1 : x.1 < 1
  · rw [if_pos c1]; exact h
  rw [if_neg c1] at he ⊢
  by_cases c2 : 9 < x.1
  · rw [if_pos c2]; exact h
  rw [if_neg c2] at he ⊢
  by_cases c3 : w.2.2.1 = decide (x.1 = 8)
  · rw [if_pos c3]; exact h
  rw [if_neg c3] at he ⊢
  by_cases k5 : x.1 = 5
  · rw [if_pos k5]; exact opP_ok h
  rw [if_neg k5] at he ⊢
  by_cases k6 : x.1 = 6
  · rw [if_pos k6]; exact opP_ok h
  rw [if_neg k6] at he ⊢
  by_cases k7 : x.1 = 7
  · rw [if_pos k7]; exact ⟨fresh_ok, h.2.1, rfl⟩
  rw [if_neg k7] at he ⊢
  by_cases k8 : x.1 = 8
  · rw [if_pos k8] at he ⊢
    unfold bootP at he ⊢
    by_cases c4 : (dRecover w.2.1).2.2 = 0
    · rw [if_pos c4] at he ⊢
      by_cases c5 : (replayR (dRecover w.2.1).2.1).2 = 0
      · rw [if_pos c5]; exact ⟨(replayR_len c5).2.1, (dRecover_zero c4).2, h.2.2⟩
      · rw [if_neg c5]; exact h
    · rw [if_neg c4]; exact h
  rw [if_neg k8] at he ⊢
  by_cases k1 : x.1 = 1
  · rw [if_pos k1] at he ⊢; exact wrP_ok h he
  rw [if_neg k1] at he ⊢
  by_cases k9 : x.1 = 9
  · rw [if_pos k9] at he ⊢; exact wrP_ok h he
  rw [if_neg k9] at he ⊢
  by_cases k4 : x.1 = 4
  · rw [if_pos k4] at he ⊢; exact wrP_ok h he
  rw [if_neg k4] at he ⊢
  exact wrP_ok h he
def runP : List Hp → Wd → List Int → Wd × List Int
  | [], w, said => (w, said)
  | x :: l, w, said => runP l (if (hapP w x).2 = 0 then (hapP w x).1 else w) (said ++ [(hapP w x).2])
theorem run_eq (w : Wd) (l : List Hp) (h1 : w.2.1.1.length < 4611686018427387904) (h2 : w.2.1.2.length < 4611686018427387904) (hrd : w.2.2.2.length < 4611686018427387904) (hx : ∀ x ∈ l, x.2.2.2.length < 4611686018427387904) :
    F_world_Run (wvd w) l = some (if chkW w.1 w.2.1 w.2.2.1 w.2.2.2 = 0 then (if 100 < l.length then (zW, [], 2) else (wvd (runP l w []).1, (runP l w []).2, 0)) else (zW, [], chkW w.1 w.2.1 w.2.2.1 w.2.2.2)) := by
  rw [run_form, show F_world_Check (wvd w) = _ from worldCheck_eq _ _ _ _ h1 h2 hrd, bindO_some, ifB_neI]
  by_cases hc : chkW w.1 w.2.1 w.2.2.1 w.2.2.2 = 0
  · obtain ⟨ho, _⟩ := chkW_zero hc
    rw [if_pos hc, if_pos hc, ifB_gtI, lenI_eq]
    by_cases hl : 100 < l.length
    · rw [if_pos (by omega), if_pos hl]
    rw [if_neg (by omega), if_neg hl, show F_world_Copy (wvd w) = some (wvd w) from worldCopy_eq _ _ _ _ ho.1 ho.2.1 ho.2.2, bindO_some]
    refine loop_range l (fun j (s : Wd × List Int) => ((j : Int), (wvd s.1).1, (wvd s.1).2.1, (wvd s.1).2.2.1, (wvd s.1).2.2.2.1, (wvd s.1).2.2.2.2, s.2)) (G := fun rest s => some (wvd (runP rest s.1 s.2).1, (runP rest s.1 s.2).2, 0)) (P := fun j s => okW s.1 ∧ s.2.length = j) (s0 := (w, [])) ?_ ?_ ⟨ho, rfl⟩ (by omega)
    · rintro j ⟨v, said⟩ hj ⟨hv, hs⟩ k hk
      have hat := atI_nat hj
      have hm : l.getD j default ∈ l := by simp only [List.getD, List.getElem?_eq_getElem hj, Option.getD_some]; exact List.getElem_mem hj
      have hxx := hx _ hm
      generalize l.getD j default = x at *
      simp only at hv hs ⊢
      rw [stepK_ifB, stepK_bind, ifB_ltI, if_pos (by omega), hat, bindO_some, stepK_bind, show F_world_Copy ((wvd v).1, (wvd v).2.1, (wvd v).2.2.1, (wvd v).2.2.2.1, (wvd v).2.2.2.2) = some (wvd v) from worldCopy_eq _ _ _ _ hv.1 hv.2.1 hv.2.2, bindO_some, hapC_eq _ x v (okS_of hv.1) hv.2.1 hxx, runP, stepK_ifB, ifB_eqI]
      by_cases he : (hapP v x).2 = 0
      · rw [if_pos he, if_pos he, stepK_ifB, ifB_roomA, if_pos (by simp; omega), stepK_inl, wadd_nat (by omega), cat_eq]
        exact hk ((hapP v x).1, said ++ [(hapP v x).2]) ⟨hapP_ok hv he, by simp; omega⟩
      · rw [if_neg he, if_neg he, stepK_ifB, ifB_roomA, if_pos (by simp; omega), stepK_inl, wadd_nat (by omega), cat_eq]
        exact hk (v, said ++ [(hapP v x).2]) ⟨hv, by simp; omega⟩
    · rintro ⟨v, said⟩ ⟨hv, hs⟩ k
      rw [stepK_ifB, stepK_map, ifB_ltI, if_neg (by simp only; omega)]
      rfl
  · rw [if_neg hc, if_neg hc]
def readP (w : Wd) (k i a b : Int) : List Pt × Int :=
  if chkW w.1 w.2.1 w.2.2.1 w.2.2.2 = 0 then (if k < 0 then ([], 5) else if (w.2.2.2.length : Int) ≤ k then ([], 5) else if w.2.2.2.getD k.toNat default < 0 then ([], 7) else
    if (replayR ((dRecover w.2.1).2.1.take (w.2.2.2.getD k.toNat default).toNat)).2 = 0 then
      (if (allS (replayR ((dRecover w.2.1).2.1.take (w.2.2.2.getD k.toNat default).toNat)).1 i).2 = 0 then (rangeR (allS (replayR ((dRecover w.2.1).2.1.take (w.2.2.2.getD k.toNat default).toNat)).1 i).1 a b, 0) else ([], (allS (replayR ((dRecover w.2.1).2.1.take (w.2.2.2.getD k.toNat default).toNat)).1 i).2))
      else ([], (replayR ((dRecover w.2.1).2.1.take (w.2.2.2.getD k.toNat default).toNat)).2)) else ([], chkW w.1 w.2.1 w.2.2.1 w.2.2.2)
theorem rdE_get {n : Int} {up : Bool} : ∀ {rd : List Int}, rdE n up rd = 0 → ∀ v ∈ rd, -1 ≤ v ∧ v ≤ n ∧ (up = false → v = -1)
  | [], _, v, hv => by cases hv
  | u :: r, h, v, hv => by
    rw [rdE] at h
    by_cases c : u < -1 ∨ n < u ∨ (up = false ∧ ¬ u = -1)
    · rw [if_pos c] at h; cases h
    · rw [if_neg c] at h
      rcases List.mem_cons.1 hv with rfl | hv
      · exact ⟨by omega, by omega, fun hu => Classical.byContradiction fun h2 => c (.inr (.inr ⟨hu, h2⟩))⟩
      · exact rdE_get h v hv
theorem wread_eq (w : Wd) (k i a b : Int) (h1 : w.2.1.1.length < 4611686018427387904) (h2 : w.2.1.2.length < 4611686018427387904) (hrd : w.2.2.2.length < 4611686018427387904) : F_world_Read (wvd w) k i a b = some (readP w k i a b) := by
  unfold F_world_Read readP
  rw [show F_world_Check ((wvd w).1, (wvd w).2.1, (wvd w).2.2.1, (wvd w).2.2.2.1, (wvd w).2.2.2.2) = _ from worldCheck_eq w.1 w.2.1 w.2.2.1 w.2.2.2 h1 h2 hrd, bindO_some, ifB_neI]
  by_cases hc : chkW w.1 w.2.1 w.2.2.1 w.2.2.2 = 0
  · obtain ⟨⟨o1, o2, o3⟩, o4, o5, o6⟩ := chkW_zero hc
    rw [if_pos hc, if_pos hc]
    simp only [wvd, wv]
    rw [ifB_ltI, ifB_geI, lenI_eq]
    by_cases c1 : k < 0
    · rw [if_pos c1, if_pos c1]
    rw [if_neg c1, if_neg c1]
    by_cases c2 : (w.2.2.2.length : Int) ≤ k
    · rw [if_pos c2, if_pos c2]
    rw [if_neg c2, if_neg c2]
    have hat : atI w.2.2.2 k = some (w.2.2.2.getD k.toNat default) := atI_int (by omega) (by omega)
    have hm : w.2.2.2.getD k.toNat default ∈ w.2.2.2 := by simp only [List.getD, List.getElem?_eq_getElem (show k.toNat < w.2.2.2.length by omega), Option.getD_some]; exact List.getElem_mem _
    have hg := rdE_get o6 _ hm
    have hrec := recs_ok w.2.1
    have hrl := recs_len w.2.1 o4
    rw [hat, bindO_some]
    generalize w.2.2.2.getD k.toNat default = v at *
    rw [ifB_ltI]
    by_cases c3 : v < 0
    · rw [if_pos c3, if_pos c3]
    rw [if_neg c3, if_neg c3, dRecover_eq w.2.1 (by omega) (by omega), bindO_some]
    have hup : w.2.2.1 = true := by
      cases hu : w.2.2.1 with
      | true => rfl
      | false => have := hg.2.2 hu; omega
    have hv2 := hg.2.1
    rw [if_pos hup] at hv2
    rw [bindO_some, ifB_in1, if_pos ⟨by omega, hv2⟩, takeI_eq, replay_eq _ (by rw [List.length_take]; omega) (fun r hr => small_rec (hrec r (List.mem_of_mem_take hr))), bindO_some, ifB_neI]
    by_cases c4 : (replayR ((dRecover w.2.1).2.1.take v.toNat)).2 = 0
    · rw [if_pos c4, if_pos c4, range_eq _ _ _ _ (replayR_okS _), bindO_some]
    · rw [if_neg c4, if_neg c4]
  · rw [if_neg hc, if_neg hc]
end Go.Proofs.Y
namespace Go.Proofs.Y
open Go.Rb Go.Kx
noncomputable def C_rainbooklaw_watched_1 : Code := bodyOf Tryz.f65
noncomputable def G_rainbooklaw_watched_1 : FuncId → Option GS := tabG []
theorem g_rainbooklaw_watched_1 : ΓOK Tryz.prog G_rainbooklaw_watched_1 := ΓOK_nil
def H_rainbooklaw_watched_1 : HT := ⟨tabL [], tabH []⟩
abbrev is_rainbooklaw_watched_1 : List IT := [.v (.one (.int .i64)) false]
abbrev os_rainbooklaw_watched_1 : List OT := [⟨.cons (.int .i64) (.cons (.int .i64) (.cons (.int .i64) (.one (.sl 77 (.cons (.int .i64) (.cons (.int .i64) (.one (.int .i64)))))))), true, []⟩]
set_option maxRecDepth 100000
noncomputable def F_rainbooklaw_watched_1 : Int → Option (Int × Int × Int × List (Int × Int × Int)) := fun (a : Int) => some (1, 0, 0, [(1, a, wmul .i64 2 a)])
theorem F_rainbooklaw_watched_1_eq (x : PI is_rainbooklaw_watched_1) : F_rainbooklaw_watched_1 x = fnE T G_rainbooklaw_watched_1 H_rainbooklaw_watched_1 C_rainbooklaw_watched_1 (resOf Tryz.f65) is_rainbooklaw_watched_1 os_rainbooklaw_watched_1 x := by kernel_rfl
noncomputable abbrev R_rainbooklaw_watched_1 : GS := mkSpec false is_rainbooklaw_watched_1 os_rainbooklaw_watched_1 fun x => F_rainbooklaw_watched_1 x
theorem R_rainbooklaw_watched_1_ok : GSOK Tryz.prog 65 R_rainbooklaw_watched_1 := spec_ok tok g_rainbooklaw_watched_1 fmo (Ht := H_rainbooklaw_watched_1) (fn := Tryz.f65) (Tryz.func65) (c := C_rainbooklaw_watched_1) (by kernel_rfl) (by kernel_rfl) (by kernel_rfl) (by decide +kernel) (by decide) F_rainbooklaw_watched_1_eq
end Go.Proofs.Y
namespace Go.Proofs.Y
open Go.Rb Go.Kx
noncomputable def C_equalEr : Code := bodyOf Tryz.f22
noncomputable def G_equalEr : FuncId → Option GS := tabG []
theorem g_equalEr : ΓOK Tryz.prog G_equalEr := ΓOK_nil
def H_equalEr : HT := ⟨tabL [(4, .it [] (dyn [.t 13 (.int .i64)]))], tabH []⟩
abbrev is_equalEr : List IT := [.v (.one (.sl 33 (.one (.int .i64)))) false, .v (.one (.sl 33 (.one (.int .i64)))) false]
abbrev os_equalEr : List OT := [⟨.one .bool, false, []⟩]
set_option maxRecDepth 100000
noncomputable def F_equalEr : List Int → List Int → Option Bool := fun (a b : List Int) => ifB (neI (lenI a) (lenI b)) (some false) (loopN maxR (fun (x : Int) => ifB (ltI x (lenI a)) (bindO (atI a x) fun (y : Int) => bindO (atI b x) fun (y_1 : Int) => ifB (neI y y_1) (mapO Sum.inr (some false)) (some (Sum.inl (wadd .i64 x 1)))) (mapO Sum.inr (some true))) 0)
theorem F_equalEr_eq (x : PI is_equalEr) : F_equalEr (x.1) (x.2) = fnE T G_equalEr H_equalEr C_equalEr (resOf Tryz.f22) is_equalEr os_equalEr x := by kernel_rfl
noncomputable abbrev R_equalEr : GS := mkSpec false is_equalEr os_equalEr fun x => F_equalEr (x.1) (x.2)
theorem R_equalEr_ok : GSOK Tryz.prog 22 R_equalEr := spec_ok tok g_equalEr fmo (Ht := H_equalEr) (fn := Tryz.f22) (Tryz.func22) (c := C_equalEr) (by kernel_rfl) (by kernel_rfl) (by kernel_rfl) (by decide +kernel) (by decide) F_equalEr_eq
end Go.Proofs.Y
namespace Go.Proofs.Y
open Go.Rb Go.Kx
noncomputable def C_rainbooklaw_watched : Code := bodyOf Tryz.f19
noncomputable def G_rainbooklaw_watched : FuncId → Option GS := tabG [(65, R_rainbooklaw_watched_1), (26, R_world_New), (17, R_world_Run), (47, R_world_Read), (48, R_shelf_All), (22, R_equalEr), (44, R_equalP)]
theorem g_rainbooklaw_watched : ΓOK Tryz.prog G_rainbooklaw_watched := ΓOK_cons (R_rainbooklaw_watched_1_ok) (ΓOK_cons (R_world_New_ok) (ΓOK_cons (R_world_Run_ok) (ΓOK_cons (R_world_Read_ok) (ΓOK_cons (R_shelf_All_ok) (ΓOK_cons (R_equalEr_ok) (ΓOK_cons (R_equalP_ok) (ΓOK_nil)))))))
def H_rainbooklaw_watched : HT := ⟨tabL [], tabH []⟩
abbrev is_rainbooklaw_watched : List IT := []
abbrev os_rainbooklaw_watched : List OT := [⟨.one .bool, false, []⟩]
set_option maxRecDepth 100000
noncomputable def F_rainbooklaw_watched : Option Bool :=  bindO F_world_New fun (y : List (List (Int × Int × Int × List Bool) × List (Int × Int)) × List Int × List Int × Bool × List Int) => bindO (F_rainbooklaw_watched_1 5) fun (y_1 : Int × Int × Int × List (Int × Int × Int)) => bindO (F_rainbooklaw_watched_1 6) fun (y_2 : Int × Int × Int × List (Int × Int × Int)) => bindO (F_rainbooklaw_watched_1 6) fun (y_3 : Int × Int × Int × List (Int × Int × Int)) => bindO (F_world_Run (y.1, y.2.1, y.2.2.1, y.2.2.2.1, y.2.2.2.2) [(y_1.1, y_1.2.1, y_1.2.2.1, y_1.2.2.2), (5, 0, 2, []), (y_2.1, y_2.2.1, y_2.2.2.1, y_2.2.2.2), (y_3.1, y_3.2.1, y_3.2.2.1, y_3.2.2.2), (2, 1, 2, []), (4, 0, 9, [])]) fun (y : (List (List (Int × Int × Int × List Bool) × List (Int × Int)) × List Int × List Int × Bool × List Int) × List Int × Int) => bindO (F_world_Read (y.1.1, y.1.2.1, y.1.2.2.1, y.1.2.2.2.1, y.1.2.2.2.2) 2 1 0 100) fun (y_4 : List (Int × Int) × Int) => bindO (F_world_Read (y.1.1, y.1.2.1, y.1.2.2.1, y.1.2.2.2.1, y.1.2.2.2.2) 1 1 0 100) fun (y_5 : List (Int × Int) × Int) => bindO (F_shelf_All y.1.1 1) fun (y_6 : List (Int × Int) × Int) => bindO (F_rainbooklaw_watched_1 7) fun (y_7 : Int × Int × Int × List (Int × Int × Int)) => bindO (F_world_Run (y.1.1, y.1.2.1, y.1.2.2.1, y.1.2.2.2.1, y.1.2.2.2.2) [(7, 0, 0, []), (y_7.1, y_7.2.1, y_7.2.2.1, y_7.2.2.2), (8, 0, 0, [])]) fun (y_8 : (List (List (Int × Int × Int × List Bool) × List (Int × Int)) × List Int × List Int × Bool × List Int) × List Int × Int) => bindO (F_world_Read (y_8.1.1, y_8.1.2.1, y_8.1.2.2.1, y_8.1.2.2.2.1, y_8.1.2.2.2.2) 2 1 0 100) fun (y_9 : List (Int × Int) × Int) => ifB (eqI y.2.2 0) (ifB (eqI y_4.2 0) (ifB (eqI y_5.2 7) (ifB (eqI y_6.2 0) (ifB (eqI y_8.2.2 0) (ifB (eqI y_9.2 7) (bindO (F_equalEr y.2.1 [0, 0, 0, 7, 0, 0]) fun (y : Bool) => ifB y (bindO (F_equalEr y_8.2.1 [0, 7, 0]) fun (y : Bool) => ifB y (bindO (F_equalP y_4.1 [(5, 10)]) fun (y : Bool) => ifB y (ifB (eqI (lenI y_6.1) 0) (some y_8.1.2.2.2.1) (some false)) (some false)) (some false)) (some false)) (some false)) (some false)) (some false)) (some false)) (some false)) (some false)
theorem F_rainbooklaw_watched_eq (x : PI is_rainbooklaw_watched) : F_rainbooklaw_watched  = fnE T G_rainbooklaw_watched H_rainbooklaw_watched C_rainbooklaw_watched (resOf Tryz.f19) is_rainbooklaw_watched os_rainbooklaw_watched x := by kernel_rfl
noncomputable abbrev R_rainbooklaw_watched : GS := mkSpec false is_rainbooklaw_watched os_rainbooklaw_watched fun x => F_rainbooklaw_watched 
theorem R_rainbooklaw_watched_ok : GSOK Tryz.prog 19 R_rainbooklaw_watched := spec_ok tok g_rainbooklaw_watched fmo (Ht := H_rainbooklaw_watched) (fn := Tryz.f19) (Tryz.func19) (c := C_rainbooklaw_watched) (by kernel_rfl) (by kernel_rfl) (by kernel_rfl) (by decide +kernel) (by decide) F_rainbooklaw_watched_eq
end Go.Proofs.Y
namespace Go.Proofs.Y
open Go.Rb Go.Kx
set_option maxRecDepth 100000
end Go.Proofs.Y
namespace Go.Proofs.Y
open Go.Rb Go.Kx
end Go.Proofs.Y
namespace Go.Proofs.Y
open Go.Rb Go.Kx
end Go.Proofs.Y
namespace Go.Proofs.Y
open Go.Rb Go.Kx
set_option maxRecDepth 100000
end Go.Proofs.Y
namespace Go.Proofs.Y
open Go.Rb Go.Kx
theorem bind_of {α β : Type} {o : Option α} {a : α} (h : o = some a) (f : α → Option β) : bindO o f = f a := by rw [h]; rfl
theorem equalEr_eq (s t : List Int) (h : s.length < 4611686018427387904) : F_equalEr s t = some (decide (s = t)) := by
  unfold F_equalEr
  have := equal_gen (fun x y : Int => !(neI x y)) (fun x y => by by_cases h : x = y <;> simp [neI, h]) s t h
  simp only [notB, Bool.not_not] at this
  exact this
def w0 : Wd := (freshS, ([], []), true, [-1, -1, -1])
def l1 : List Hp := [(1, 0, 0, [(1, 5, 10)]), (5, 0, 2, []), (1, 0, 0, [(1, 6, 12)]), (1, 0, 0, [(1, 6, 12)]), (2, 1, 2, []), (4, 0, 9, [])]
def wA : Wd := (runP l1 w0 []).1
def l2 : List Hp := [(7, 0, 0, []), (1, 0, 0, [(1, 7, 14)]), (8, 0, 0, [])]
def wB : Wd := (runP l2 wA []).1
theorem new_world : F_world_New = some (wvd w0) := by
  unfold F_world_New
  rw [new_eq, bindO_some, closed_eq, bindO_some]; rfl
theorem chk0 : chkW w0.1 w0.2.1 w0.2.2.1 w0.2.2.2 = 0 := by decide +kernel
theorem said1 : (runP l1 w0 []).2 = [0, 0, 0, 7, 0, 0] := by decide +kernel
theorem chkA : chkW wA.1 wA.2.1 wA.2.2.1 wA.2.2.2 = 0 := by decide +kernel
theorem said2 : (runP l2 wA []).2 = [0, 7, 0] := by decide +kernel
theorem chkB : chkW wB.1 wB.2.1 wB.2.2.1 wB.2.2.2 = 0 := by decide +kernel
theorem upB : wB.2.2.1 = true := by decide +kernel
theorem rd1 : (readP wA 2 1 0 100).2 = 0 ∧ (readP wA 2 1 0 100).1 = [(5, 10)] := by decide +kernel
theorem rd2 : (readP wA 1 1 0 100).2 = 7 := by decide +kernel
theorem rd3 : (readP wB 2 1 0 100).2 = 7 := by decide +kernel
theorem all1 : (allS wA.1 1).2 = 0 ∧ (allS wA.1 1).1.length = 0 := by decide +kernel
theorem run1 : F_world_Run (wvd w0) l1 = some (wvd wA, [0, 0, 0, 7, 0, 0], 0) := by
  rw [run_eq w0 l1 (by decide) (by decide) (by decide) (by decide), if_pos chk0, if_neg (by decide), said1]; rfl
theorem run2 : F_world_Run (wvd wA) l2 = some (wvd wB, [0, 7, 0], 0) := by
  obtain ⟨⟨_, o2, o3⟩, _⟩ := chkW_zero chkA
  rw [run_eq wA l2 (by omega) (by omega) (by omega) (by decide), if_pos chkA, if_neg (by decide), said2]; rfl
theorem watched_eq : F_rainbooklaw_watched = some true := by
  obtain ⟨⟨a1, a2, a3⟩, _⟩ := chkW_zero chkA
  obtain ⟨⟨b1, b2, b3⟩, _⟩ := chkW_zero chkB
  unfold F_rainbooklaw_watched
  refine (bind_of new_world _).trans ?_
  refine (bind_of (show F_rainbooklaw_watched_1 5 = some (1, 0, 0, [(1, 5, 10)]) from rfl) _).trans ?_
  refine (bind_of (show F_rainbooklaw_watched_1 6 = some (1, 0, 0, [(1, 6, 12)]) from rfl) _).trans ?_
  refine (bind_of (show F_rainbooklaw_watched_1 6 = some (1, 0, 0, [(1, 6, 12)]) from rfl) _).trans ?_
  refine (bind_of run1 _).trans ?_
  refine (bind_of (wread_eq wA 2 1 0 100 (by omega) (by omega) (by omega)) _).trans ?_
  refine (bind_of (wread_eq wA 1 1 0 100 (by omega) (by omega) (by omega)) _).trans ?_
  refine (bind_of (allS_eq wA.1 1 (okS_of a1)) _).trans ?_
  refine (bind_of (show F_rainbooklaw_watched_1 7 = some (1, 0, 0, [(1, 7, 14)]) from rfl) _).trans ?_
  refine (bind_of run2 _).trans ?_
  refine (bind_of (wread_eq wB 2 1 0 100 (by omega) (by omega) (by omega)) _).trans ?_
  simp only [rd1.1, rd1.2, rd2, rd3, all1.1, all1.2, lenI_eq, ifB_eqI, if_true]
  rw [equalEr_eq _ _ (by decide), bindO_some, equalEr_eq _ _ (by decide), bindO_some, equalP_eq (by decide), bindO_some]
  simp only [decide_true, ifB_t]
  show some wB.2.2.1 = some true
  rw [upB]
end Go.Proofs.Y
namespace Go.Proofs.Y
open Go.Rb Go.Kx
set_option maxRecDepth 100000
end Go.Proofs.Y
namespace Go.Proofs.Y
open Go.Rb Go.Kx
end Go.Proofs.Y
namespace Go.Proofs.Y
open Go.Rb Go.Kx
theorem lnW_most (most all : Int) : ∀ (ws : List (List UInt8)) (acc : List Rc), (acc.length : Int) ≤ most → ((lnW most all ws acc).1.length : Int) ≤ most
  | [], acc, h => h
  | w :: ws, acc, h => by
    rw [lnW]
    split
    · split
      · exact h
      · exact h
    · split
      · split
        · exact h
        · exact lnW_most most all ws _ (by simp only [List.length_append, List.length_cons, List.length_nil]; omega)
      · exact h
theorem lnP_most (s : List UInt8) : (lnP 60 s).1.length ≤ 60 := by
  have := lnW_most 60 s.length (sp 10 s) [] (by simp)
  unfold lnP
  omega
theorem torn_line {r : Rc} {m : Int} {k : Nat} (hr : chkRec r = 0) (hm : 0 ≤ m) : (1 ≤ m ∧ (lineT r).length ≤ k ∧ lnP m ((lineT r).take k) = ([r], ((lineT r).length : Int), 0)) ∨ (lnP m ((lineT r).take k)).1 = [] ∧ (lnP m ((lineT r).take k)).2.1 = 0 := by
  have hlt : (lineT r).length = (textR r).length + 1 := by simp [lineT]
  have hl := textR_line hr
  by_cases hk : (lineT r).length ≤ k
  · rw [List.take_of_length_le hk]
    by_cases h1 : 1 ≤ m
    · refine .inl ⟨h1, hk, ?_⟩
      have := lnP_whole (most := m) (rs := [r]) (by intro q hq; rw [List.mem_singleton.1 hq]; exact hr) (by simpa using h1)
      simpa [textL] using this
    · refine .inr ?_
      have h0 : m = 0 := by omega
      subst h0
      unfold lnP
      rw [show lineT r = textR r ++ 10 :: [] from rfl, sp_app 10 _ _ hl, lnW, if_neg (sp_ne 10 _), parse_print hr, if_pos rfl, if_pos (by simp)]
      refine ⟨rfl, ?_⟩
      rw [jn_cons 10 _ (sp_ne 10 _), jn_sp]
      simp only
      omega
  · refine .inr ?_
    have e : (lineT r).take k = (textR r).take k := by
      rw [lineT, List.take_append_of_le_length (by omega)]
    rw [e]
    have := lnP_text (most := m) (rs := []) (t := (textR r).take k) (by simp) (by simpa using hm) (fun x hx => hl x (List.mem_of_mem_take hx))
    have e2 : textL [] ++ (textR r).take k = (textR r).take k := rfl
    rw [e2] at this
    rw [this]
    exact ⟨rfl, rfl⟩
theorem torn_disk {s : List UInt8} {r : Rc} {k : Nat} (hr : chkRec r = 0) (hc : dCheck (s, (lineT r).take k) = 0) :
    (dRecover (s, (lineT r).take k) = ((s, []), (lnP 60 s).1, 0)) ∨ ((lnP 60 s).1.length < 60 ∧ dRecover (s, (lineT r).take k) = ((s ++ lineT r, []), (lnP 60 s).1 ++ [r], 0)) := by
  have hmost := lnP_most s
  unfold dRecover dMore
  rw [if_pos hc]
  rcases torn_line (m := 60 - ((lnP 60 s).1.length : Int)) (k := k) hr (by omega) with ⟨h1, h2, h3⟩ | ⟨h1, h2⟩
  · refine .inr ⟨by omega, ?_⟩
    simp only [h3]
    rw [List.take_of_length_le h2]
    simp
  · refine .inl ?_
    simp only [h1, h2]
    simp
end Go.Proofs.Y
namespace Go.Proofs.Y
open Go.Rb Go.Kx
set_option maxRecDepth 100000
end Go.Proofs.Y
namespace Go.Proofs.Y
open Go.Rb Go.Kx
set_option maxRecDepth 100000
end Go.Proofs.Y
namespace Go.Proofs.Y
open Go.Rb Go.Kx
end Go.Proofs.Y
namespace Go.Proofs.Y
open Go.Rb Go.Kx
set_option maxRecDepth 100000
end Go.Proofs.Y
namespace Go.Proofs.Y
open Go.Rb Go.Kx
theorem replayS_app (b : List Rc) : ∀ (a : List Rc) (s : Shf), (replayS s (a ++ b)).2 = 0 → (replayS s a).2 = 0 ∧ replayS (replayS s a).1 b = replayS s (a ++ b)
  | [], s, h => ⟨rfl, rfl⟩
  | r :: a, s, h => by
    rw [List.cons_append, replayS] at h ⊢
    rw [replayS]
    by_cases hn : (nextS s r).2 = 0
    · rw [if_pos hn] at h ⊢
      rw [if_pos hn]
      exact replayS_app b a _ h
    · rw [if_neg hn] at h
      exact absurd h hn
theorem replayS_cons {s : Shf} {r : Rc} {l : List Rc} (h : (replayS s (r :: l)).2 = 0) : (nextS s r).2 = 0 ∧ replayS (nextS s r).1 l = replayS s (r :: l) := by
  rw [replayS] at h ⊢
  by_cases hn : (nextS s r).2 = 0
  · rw [if_pos hn]; exact ⟨hn, rfl⟩
  · rw [if_neg hn] at h; exact absurd h hn
theorem textL_len : ∀ {l : List Rc}, (∀ r ∈ l, chkRec r = 0) → (textL l).length ≤ 701 * l.length
  | [], _ => by simp [textL]
  | r :: l, h => by
    have h1 := textL_len fun q hq => h q (List.mem_cons_of_mem r hq)
    have h2 := textR_len (h r (by simp))
    have e : (textL (r :: l)).length = (textR r).length + 1 + (textL l).length := by simp [textL, lineT]; omega
    rw [e, List.length_cons]; omega
end Go.Proofs.Y
namespace Go.Proofs.Y
open Go.Rb Go.Kx
set_option maxRecDepth 100000
end Go.Proofs.Y
namespace Go.Proofs.Y
open Go.Rb Go.Kx
theorem dCheck_safe {s w : List UInt8} (h : dCheck (s, w) = 0) : (lnP 60 s).2.2 = 0 := by
  unfold dCheck at h
  split at h
  · cases h
  · split at h
    · cases h
    · exact h
theorem dCheck_less {s w v : List UInt8} (h : dCheck (s, w) = 0) (hl : v.length ≤ w.length) : dCheck (s, v) = 0 := by
  have h1 := dCheck_len h
  have h2 := dCheck_safe h
  unfold dCheck
  rw [if_neg (by simp only at h1 ⊢; omega), if_neg (by simp only at h1 ⊢; omega)]
  exact h2
theorem replay_one {L : List Rc} {r : Rc} (h : (replayR L).2 = 0) (hn : L.length < 60) (hr : (nextS (replayR L).1 r).2 = 0) : (replayR (L ++ [r])).2 = 0 ∧ (replayR (L ++ [r])).1 = (nextS (replayR L).1 r).1 := by
  have e1 : replayR L = replayS freshS L := by unfold replayR; rw [if_neg (by omega)]
  have e2 : replayR (L ++ [r]) = replayS freshS (L ++ [r]) := by unfold replayR; rw [if_neg (by simp; omega)]
  have key : ∀ (L : List Rc) (s : Shf), (replayS s L).2 = 0 → replayS s (L ++ [r]) = replayS (replayS s L).1 [r] := by
    intro L
    induction L with
    | nil => intro s _; rfl
    | cons q L ih =>
      intro s hs
      obtain ⟨q1, q2⟩ := replayS_cons hs
      rw [List.cons_append, replayS, if_pos q1, ih _ (by rw [q2]; exact hs), q2]
  rw [e1] at h hr ⊢
  rw [e2, key L freshS h, replayS, if_pos hr]
  exact ⟨rfl, rfl⟩
end Go.Proofs.Y
namespace Go.Proofs.Y
open Go.Rb Go.Kx
theorem dPut_is {d : List UInt8 × List UInt8} {r : Rc} (h : (dPut d r).2 = 0) : chkRec r = 0 ∧ (dPut d r).1 = (d.1, d.2 ++ lineT r) := by
  unfold dPut at h ⊢
  by_cases c1 : dCheck d = 0
  · rw [if_pos c1] at h ⊢
    by_cases c2 : chkRec r = 0
    · rw [if_pos c2] at h ⊢
      split at h
      · cases h
      · rename_i c3; rw [if_neg c3]; exact ⟨c2, rfl⟩
    · rw [if_neg c2] at h; exact absurd h c2
  · rw [if_neg c1] at h; exact absurd h c1
theorem dCrash_is {d : List UInt8 × List UInt8} {n : Int} (h : (dCrash d n).2 = 0) : dCheck d = 0 ∧ (dCrash d n).1 = (d.1, d.2.take n.toNat) := by
  unfold dCrash at h ⊢
  by_cases c1 : dCheck d = 0
  · rw [if_pos c1] at h ⊢
    split at h
    · cases h
    · rename_i c3; rw [if_neg c3]; exact ⟨c1, rfl⟩
  · rw [if_neg c1] at h; exact absurd h c1
end Go.Proofs.Y
namespace Go.Proofs.Y
open Go.Rb Go.Kx
theorem lnW_back (most all : Int) : ∀ (ws : List (List UInt8)) (acc : List Rc), ws ≠ [] →
    ∃ M t, (lnW most all ws acc).1 = acc ++ M ∧ jn 10 ws = textL M ++ t ∧ (lnW most all ws acc).2.1 = all - t.length ∧ ((lnW most all ws acc).2.2 = 0 → t = []) ∧ ∀ r ∈ M, chkRec r = 0
  | [], acc, h => absurd rfl h
  | w :: r, acc, _ => by
    rw [lnW]
    by_cases hr : r = []
    · subst hr
      rw [if_pos rfl]
      by_cases hw : w = []
      · subst hw; rw [if_pos rfl]; exact ⟨[], [], by simp, by simp [jn, textL], by simp, by simp, by simp⟩
      · rw [if_neg hw]; exact ⟨[], w, by simp, by simp [jn, textL], rfl, by simp, by simp⟩
    · rw [if_neg hr]
      by_cases hp : (parseR w).2 = 0
      · rw [if_pos hp]
        by_cases hm : (acc.length : Int) = most
        · rw [if_pos hm]; exact ⟨[], jn 10 (w :: r), by simp, by simp [textL], rfl, by simp, by simp⟩
        · rw [if_neg hm]
          obtain ⟨M, t, h1, h2, h3, h4, h5⟩ := lnW_back most all r (acc ++ [(parseR w).1]) hr
          obtain ⟨p1, p2⟩ := parseR_ok hp
          refine ⟨(parseR w).1 :: M, t, by rw [h1]; simp, ?_, h3, h4, ?_⟩
          · rw [jn_cons 10 w hr, textL_cons, p2, h2]
          · intro q hq
            rcases List.mem_cons.1 hq with rfl | hq
            · exact p1
            · exact h5 q hq
      · rw [if_neg hp]; exact ⟨[], jn 10 (w :: r), by simp, by simp [textL], rfl, fun h => absurd h hp, by simp⟩
theorem take_pre {s a t : List UInt8} (h : s = a ++ t) : s.take a.length = a := by rw [h, List.take_left]
theorem lnP_back (m : Int) (s : List UInt8) : ∃ t, s = textL (lnP m s).1 ++ t ∧ (lnP m s).2.1 = ((textL (lnP m s).1).length : Int) ∧ ((lnP m s).2.2 = 0 → t = []) ∧ ∀ r ∈ (lnP m s).1, chkRec r = 0 := by
  obtain ⟨M, t, h1, h2, h3, h4, h5⟩ := lnW_back m s.length (sp 10 s) [] (sp_ne 10 s)
  rw [jn_sp] at h2
  rw [List.nil_append] at h1
  unfold lnP
  rw [h1]
  refine ⟨t, h2, ?_, h4, h5⟩
  rw [h3, h2, List.length_append]; omega
theorem lnP_max {m : Int} (hm : 0 ≤ m) (s : List UInt8) : ((lnP m s).1.length : Int) ≤ m := lnW_most m s.length (sp 10 s) [] (by simpa using hm)
theorem dCheck_back {d : List UInt8 × List UInt8} (h : dCheck d = 0) : ∃ L, d.1 = textL L ∧ (lnP 60 d.1).1 = L ∧ L.length ≤ 60 ∧ ∀ r ∈ L, chkRec r = 0 := by
  obtain ⟨t, h1, h2, h3, h4⟩ := lnP_back 60 d.1
  have ht := h3 (dCheck_safe (s := d.1) (w := d.2) h)
  subst ht
  rw [List.append_nil] at h1
  exact ⟨_, h1, rfl, lnP_most _, h4⟩
theorem dRecover_back {d : List UInt8 × List UInt8} (h : dCheck d = 0) : dRecover d = ((textL (dRecover d).2.1, []), (dRecover d).2.1, 0) ∧ (dRecover d).2.1.length ≤ 60 ∧ ∀ r ∈ (dRecover d).2.1, chkRec r = 0 := by
  obtain ⟨L, h1, h2, h3, h4⟩ := dCheck_back h
  have hm : (0 : Int) ≤ 60 - ((lnP 60 d.1).1.length : Int) := by rw [h2]; omega
  obtain ⟨t, g1, g2, g3, g4⟩ := lnP_back (60 - ((lnP 60 d.1).1.length : Int)) d.2
  have g5 := lnP_max hm d.2
  have hrec := recs_ok d
  have e : dRecover d = ((d.1 ++ d.2.take (dMore d).2.1.toNat, []), (lnP 60 d.1).1 ++ (dMore d).1, 0) := by unfold dRecover; rw [if_pos h]
  refine ⟨?_, ?_, hrec⟩
  · rw [e]
    have hk : d.2.take (dMore d).2.1.toNat = textL (dMore d).1 := by
      unfold dMore
      rw [g2, Int.toNat_natCast]
      exact take_pre g1
    rw [hk]
    simp only
    rw [textL_app, h2, h1]
  · rw [e]
    simp only [List.length_append]
    unfold dMore
    omega
theorem rec_text {L : List Rc} (h : ∀ r ∈ L, chkRec r = 0) (hn : L.length ≤ 60) : dCheck (textL L, []) = 0 ∧ dRecover (textL L, []) = ((textL L, []), L, 0) := by
  have ht := textL_len h
  refine ⟨dCheck_text h hn (by simp only [List.length_nil]; omega), ?_⟩
  have := dRecover_text (L := L) (M := []) (t := []) h (by simp) (by simp) (by simpa using hn) (by simp [textL] at ht ⊢; omega)
  simpa [textL] using this
abbrev recsW (w : Wd) : List Rc := (dRecover w.2.1).2.1
theorem up_of {s : Shf} {d : List UInt8 × List UInt8} {rd : List Int} (h : chkW s d true rd = 0) : ∃ L, d = (textL L, []) ∧ (dRecover d).2.1 = L ∧ (replayR L).2 = 0 ∧ (replayR L).1 = s ∧ rd.length = 3 ∧ rdE L.length true rd = 0 := by
  obtain ⟨⟨o1, o2, o3⟩, o4, o5, o6⟩ := chkW_zero (w := (s, d, true, rd)) h
  obtain ⟨p1, p2, p3⟩ := o5 rfl
  rw [if_pos rfl] at o6
  simp only at o3 o4 o6 p1 p2 p3
  have hc := (dRecover_zero o4).1
  obtain ⟨L, h1, h2, h3, h4⟩ := dCheck_back hc
  have hd : d = (textL L, []) := by rw [← h1, ← p1]
  have hL : (dRecover d).2.1 = L := by rw [hd, (rec_text h4 h3).2]
  rw [hL] at p2 p3 o6
  exact ⟨L, hd, hL, p2, p3, o3, o6⟩
theorem up_mk {L : List Rc} {s : Shf} {rd : List Int} (h1 : (replayR L).2 = 0) (h2 : (replayR L).1 = s) (h3 : rd.length = 3) (h4 : rdE L.length true rd = 0) : chkW s (textL L, []) true rd = 0 := by
  obtain ⟨a1, _, a3⟩ := replayR_len h1
  have hr := (rec_text a3 a1).2
  unfold chkW chkL
  rw [hr, if_pos rfl, if_pos rfl, if_neg (by simp), if_pos h1, if_pos h2, if_pos h3, h4]
theorem down_of {s : Shf} {d : List UInt8 × List UInt8} {rd : List Int} (h : chkW s d false rd = 0) : s = freshS ∧ rd = [-1, -1, -1] ∧ dCheck d = 0 := by
  unfold chkW at h
  by_cases c1 : (dRecover d).2.2 = 0
  · rw [if_pos c1, if_neg (by decide)] at h
    obtain ⟨k1, k2, k3, k4⟩ := chkL_zero h
    have hg := rdE_get k4
    refine ⟨k2.symm, ?_, (dRecover_zero c1).1⟩
    obtain ⟨a, b, c, rfl⟩ : ∃ a b c, rd = [a, b, c] := by
      match rd, k3 with
      | [a, b, c], _ => exact ⟨a, b, c, rfl⟩
    rw [(hg a (by simp)).2.2 rfl, (hg b (by simp)).2.2 rfl, (hg c (by simp)).2.2 rfl]
  · rw [if_neg c1] at h; exact absurd h c1
theorem down_mk {d : List UInt8 × List UInt8} (h : dCheck d = 0) : chkW freshS d false [-1, -1, -1] = 0 := by
  unfold chkW
  rw [(dRecover_back h).1, if_pos rfl, if_neg (by decide)]
  decide +kernel
theorem rdE_mk {n : Int} {up : Bool} : ∀ {rd : List Int}, (∀ v ∈ rd, -1 ≤ v ∧ v ≤ n ∧ (up = false → v = -1)) → rdE n up rd = 0
  | [], _ => rfl
  | v :: r, h => by
    obtain ⟨h1, h2, h3⟩ := h v (by simp)
    rw [rdE, if_neg (by rintro (q | q | ⟨q1, q2⟩); omega; omega; exact q2 (h3 q1))]
    exact rdE_mk fun u hu => h u (List.mem_cons_of_mem _ hu)
theorem rdE_set {n : Int} {rd : List Int} (h : rdE n true rd = 0) {v : Int} (h1 : -1 ≤ v) (h2 : v ≤ n) (i : Nat) : rdE n true (rd.set i v) = 0 := by
  have hg := rdE_get h
  refine rdE_mk fun u hu => ?_
  rcases List.mem_or_eq_of_mem_set hu with hu | rfl
  · exact hg u hu
  · exact ⟨h1, h2, fun h => by cases h⟩
theorem rdE_up {n m : Int} {rd : List Int} (h : rdE n true rd = 0) (hm : n ≤ m) : rdE m true rd = 0 :=
  rdE_mk fun u hu => by obtain ⟨a, b, _⟩ := rdE_get h u hu; exact ⟨a, by omega, fun h => by cases h⟩
theorem wr_up {L : List Rc} {s : Shf} {rd : List Int} {n : Int} {r : Rc} (h1 : (replayR L).2 = 0) (h2 : (replayR L).1 = s) (he : (wrP (s, (textL L, []), true, rd) false n r).2 = 0) :
    (wrP (s, (textL L, []), true, rd) false n r).1 = ((nextS s r).1, (textL (L ++ [r]), []), true, rd) ∧ (nextS s r).2 = 0 ∧ (replayR (L ++ [r])).2 = 0 ∧ (replayR (L ++ [r])).1 = (nextS s r).1 := by
  obtain ⟨a1, _, a3⟩ := replayR_len h1
  unfold wrP at he ⊢
  simp only at he ⊢
  by_cases c1 : (nextS s r).2 = 0
  · rw [if_pos c1] at he ⊢
    by_cases c2 : (dPut (textL L, []) r).2 = 0
    · obtain ⟨hr, hp⟩ := dPut_is c2
      simp only [List.nil_append] at hp
      rw [if_pos c2, if_neg (by decide), hp] at he ⊢
      by_cases c3 : (dSync (textL L, lineT r)).2 = 0
      · have e : textL L ++ lineT r = textL (L ++ [r]) := by rw [textL_app]; simp [textL]
        have hs : (dSync (textL L, lineT r)).1 = (textL (L ++ [r]), []) ∧ dCheck (textL (L ++ [r]), []) = 0 := by
          unfold dSync at c3 ⊢
          by_cases q : dCheck (textL L, lineT r) = 0
          · rw [if_pos q] at c3 ⊢
            simp only [e] at c3 ⊢
            by_cases q2 : dCheck (textL (L ++ [r]), []) = 0
            · rw [if_pos q2]; exact ⟨rfl, q2⟩
            · rw [if_neg q2] at c3; exact absurd c3 q2
          · rw [if_neg q] at c3; exact absurd c3 q
        have hlen : L.length < 60 := by
          have hh : ∀ q ∈ L ++ [r], chkRec q = 0 := by
            intro q hq
            rcases List.mem_append.1 hq with hq | hq
            · exact a3 q hq
            · rw [List.mem_singleton.1 hq]; exact hr
          obtain ⟨L', k1, k2, k3, _⟩ := dCheck_back hs.2
          refine Classical.byContradiction fun hlt => ?_
          have h60 : L.length = 60 := by omega
          have h7 := dCheck_safe (s := textL (L ++ [r])) (w := []) hs.2
          unfold lnP at h7
          have e3 : sp 10 (textL (L ++ [r])) = sp 10 (textL L ++ lineT r) := by rw [e]
          rw [e3, lnW_text 60 _ L (lineT r) [] a3 (by simp; omega), show lineT r = textR r ++ 10 :: [] from rfl, sp_app 10 _ _ (textR_line hr), lnW, if_neg (sp_ne 10 _), parse_print hr, if_pos rfl, if_pos (by simp; omega)] at h7
          cases h7
        obtain ⟨g1, g2⟩ := replay_one (r := r) h1 hlen (by rw [h2]; exact c1)
        rw [if_pos c3, hs.1]
        exact ⟨rfl, c1, g1, by rw [g2, h2]⟩
      · rw [if_neg c3] at he; exact absurd he c3
    · rw [if_neg c2] at he; exact absurd he c2
  · rw [if_neg c1] at he; exact absurd he c1
theorem tear_up {L : List Rc} {s : Shf} {rd : List Int} {n : Int} {r : Rc} (he : (wrP (s, (textL L, []), true, rd) true n r).2 = 0) :
    (nextS s r).2 = 0 ∧ chkRec r = 0 ∧ ∃ k, (wrP (s, (textL L, []), true, rd) true n r).1 = (freshS, (textL L, (lineT r).take k), false, [-1, -1, -1]) ∧ dCheck (textL L, (lineT r).take k) = 0 := by
  unfold wrP at he ⊢
  simp only at he ⊢
  by_cases c1 : (nextS s r).2 = 0
  · rw [if_pos c1] at he ⊢
    by_cases c2 : (dPut (textL L, []) r).2 = 0
    · obtain ⟨hr, hp⟩ := dPut_is c2
      simp only [List.nil_append] at hp
      rw [if_pos c2, if_pos trivial] at he ⊢
      generalize max 0 (min n ((dPut (textL L, []) r).1.2.length : Int)) = m at he ⊢
      by_cases c3 : (dCrash (dPut (textL L, []) r).1 m).2 = 0
      · obtain ⟨q1, q2⟩ := dCrash_is c3
        rw [if_pos c3, q2]
        rw [hp] at q1 ⊢
        exact ⟨c1, hr, m.toNat, rfl, dCheck_less q1 (by rw [List.length_take]; omega)⟩
      · rw [if_neg c3] at he; exact absurd he c3
    · rw [if_neg c2] at he; exact absurd he c2
  · rw [if_neg c1] at he; exact absurd he c1
theorem hap_up {L : List Rc} {s : Shf} {rd : List Int} {x : Hp} (h1 : (replayR L).2 = 0) (h2 : (replayR L).1 = s) (h3 : rd.length = 3) (he : (hapP (s, (textL L, []), true, rd) x).2 = 0) :
    (∃ r, x.1 ≤ 4 ∧ (hapP (s, (textL L, []), true, rd) x).1 = ((nextS s r).1, (textL (L ++ [r]), []), true, rd) ∧ (nextS s r).2 = 0 ∧ (replayR (L ++ [r])).2 = 0 ∧ (replayR (L ++ [r])).1 = (nextS s r).1) ∨
    (∃ v, (hapP (s, (textL L, []), true, rd) x).1 = (s, (textL L, []), true, rd.set x.2.2.1.toNat v) ∧ 0 ≤ x.2.2.1 ∧ x.2.2.1 < 3 ∧ ((x.1 = 5 ∧ v = L.length) ∨ (x.1 = 6 ∧ v = -1))) ∨
    (x.1 = 7 ∧ (hapP (s, (textL L, []), true, rd) x).1 = (freshS, (textL L, []), false, [-1, -1, -1])) ∨
    (x.1 = 9 ∧ ∃ r k, (hapP (s, (textL L, []), true, rd) x).1 = (freshS, (textL L, (lineT r).take k), false, [-1, -1, -1]) ∧ chkRec r = 0 ∧ (nextS s r).2 = 0 ∧ dCheck (textL L, (lineT r).take k) = 0) := by
  obtain ⟨a1, _, a3⟩ := replayR_len h1
  have hrec := (rec_text a3 a1).2
  unfold hapP at he ⊢
  by_cases c1 : x.1 < 1
  · rw [if_pos c1] at he; cases he
  rw [if_neg c1] at he ⊢
  by_cases c2 : 9 < x.1
  · rw [if_pos c2] at he; cases he
  rw [if_neg c2] at he ⊢
  by_cases c3 : (s, (textL L, ([] : List UInt8)), true, rd).2.2.1 = decide (x.1 = 8)
  · rw [if_pos c3] at he; cases he
  rw [if_neg c3] at he ⊢
  have opG : ∀ b, (opP (s, (textL L, []), true, rd) b x.2.2.1).2 = 0 → ∃ v, (opP (s, (textL L, []), true, rd) b x.2.2.1).1 = (s, (textL L, []), true, rd.set x.2.2.1.toNat v) ∧ 0 ≤ x.2.2.1 ∧ x.2.2.1 < 3 ∧ ((b = false ∧ v = L.length) ∨ (b = true ∧ v = -1)) := by
    intro b hb
    unfold opP at hb ⊢
    by_cases q1 : x.2.2.1 < 0
    · rw [if_pos q1] at hb; cases hb
    rw [if_neg q1] at hb ⊢
    simp only at hb ⊢
    by_cases q2 : (rd.length : Int) ≤ x.2.2.1
    · rw [if_pos q2] at hb; cases hb
    rw [if_neg q2] at hb ⊢
    cases b with
    | true => rw [if_pos rfl]; exact ⟨-1, rfl, by omega, by omega, .inr ⟨rfl, rfl⟩⟩
    | false =>
      rw [if_neg (by decide), hrec, if_pos rfl]
      exact ⟨(L.length : Int), rfl, by omega, by omega, .inl ⟨rfl, rfl⟩⟩
  by_cases k5 : x.1 = 5
  · rw [if_pos k5] at he ⊢
    obtain ⟨v, g1, g2, g3, g4⟩ := opG false he
    exact .inr (.inl ⟨v, g1, g2, g3, by rcases g4 with g | g; exact .inl ⟨k5, g.2⟩; cases g.1⟩)
  rw [if_neg k5] at he ⊢
  by_cases k6 : x.1 = 6
  · rw [if_pos k6] at he ⊢
    obtain ⟨v, g1, g2, g3, g4⟩ := opG true he
    exact .inr (.inl ⟨v, g1, g2, g3, by rcases g4 with g | g; cases g.1; exact .inr ⟨k6, g.2⟩⟩)
  rw [if_neg k6] at he ⊢
  by_cases k7 : x.1 = 7
  · rw [if_pos k7]; exact .inr (.inr (.inl ⟨k7, rfl⟩))
  rw [if_neg k7] at he ⊢
  by_cases k8 : x.1 = 8
  · exact absurd (show true = decide (x.1 = 8) by rw [decide_eq_true k8]) c3
  rw [if_neg k8] at he ⊢
  by_cases k1 : x.1 = 1
  · rw [if_pos k1] at he ⊢
    exact .inl ⟨_, by omega, wr_up h1 h2 he⟩
  rw [if_neg k1] at he ⊢
  by_cases k9 : x.1 = 9
  · rw [if_pos k9] at he ⊢
    obtain ⟨g1, g2, k, g3, g4⟩ := tear_up he
    exact .inr (.inr (.inr ⟨k9, _, k, g3, g2, g1, g4⟩))
  rw [if_neg k9] at he ⊢
  by_cases k4 : x.1 = 4
  · rw [if_pos k4] at he ⊢
    exact .inl ⟨_, by omega, wr_up h1 h2 he⟩
  rw [if_neg k4] at he ⊢
  have k8' : x.1 ≠ 8 := k8
  exact .inl ⟨_, by omega, wr_up h1 h2 he⟩
theorem hap_down {d : List UInt8 × List UInt8} {x : Hp} (hc : dCheck d = 0) (he : (hapP (freshS, d, false, [-1, -1, -1]) x).2 = 0) :
    x.1 = 8 ∧ (replayR (dRecover d).2.1).2 = 0 ∧ (hapP (freshS, d, false, [-1, -1, -1]) x).1 = ((replayR (dRecover d).2.1).1, (textL (dRecover d).2.1, []), true, [-1, -1, -1]) := by
  have hb := (dRecover_back hc).1
  unfold hapP at he ⊢
  by_cases c1 : x.1 < 1
  · rw [if_pos c1] at he; cases he
  rw [if_neg c1] at he ⊢
  by_cases c2 : 9 < x.1
  · rw [if_pos c2] at he; cases he
  rw [if_neg c2] at he ⊢
  by_cases c3 : (freshS, d, false, ([-1, -1, -1] : List Int)).2.2.1 = decide (x.1 = 8)
  · rw [if_pos c3] at he; cases he
  rw [if_neg c3] at he ⊢
  have k8 : x.1 = 8 := Classical.byContradiction fun h => c3 (by rw [decide_eq_false h])
  rw [if_neg (by omega), if_neg (by omega), if_neg (by omega), if_pos k8] at he ⊢
  unfold bootP at he ⊢
  simp only at he ⊢
  have e2 : (dRecover d).2.2 = 0 := by rw [hb]
  have e1 : (dRecover d).1 = (textL (dRecover d).2.1, []) := by rw [hb]
  rw [if_pos e2] at he ⊢
  by_cases c5 : (replayR (dRecover d).2.1).2 = 0
  · rw [if_pos c5, e1]; exact ⟨k8, c5, rfl⟩
  · rw [if_neg c5] at he; exact absurd he c5
theorem hapP_keeps {w : Wd} {x : Hp} (h : chkW w.1 w.2.1 w.2.2.1 w.2.2.2 = 0) (he : (hapP w x).2 = 0) : chkW (hapP w x).1.1 (hapP w x).1.2.1 (hapP w x).1.2.2.1 (hapP w x).1.2.2.2 = 0 := by
  obtain ⟨s, d, up, rd⟩ := w
  cases up with
  | true =>
    obtain ⟨L, rfl, _, h1, h2, h3, h4⟩ := up_of h
    obtain ⟨a1, _, a3⟩ := replayR_len h1
    rcases hap_up h1 h2 h3 he with ⟨r, _, g1, g2, g3, g4⟩ | ⟨v, g1, g2, g3, g4⟩ | ⟨_, g1⟩ | ⟨_, r, k, g1, g2, g3, g4⟩
    · rw [g1]
      exact up_mk g3 g4 h3 (rdE_up h4 (by simp only [List.length_append, List.length_cons, List.length_nil]; omega))
    · rw [g1]
      exact up_mk h1 h2 (by rw [List.length_set]; exact h3) (rdE_set h4 (by rcases g4 with g | g <;> omega) (by rcases g4 with g | g <;> omega) _)
    · rw [g1]; exact down_mk (rec_text a3 a1).1
    · rw [g1]; exact down_mk g4
  | false =>
    obtain ⟨rfl, rfl, hd⟩ := down_of h
    obtain ⟨_, g1, g2⟩ := hap_down hd he
    rw [g2]
    exact up_mk g1 rfl rfl (rdE_mk (by intro v hv; simp at hv; omega))
end Go.Proofs.Y
namespace Go.Proofs.Y
open Go.Rb Go.Kx
set_option maxRecDepth 100000
end Go.Proofs.Y
namespace Go.Proofs.Y
open Go.Rb Go.Kx
set_option maxRecDepth 100000
end Go.Proofs.Y
namespace Go.Proofs.Y
open Go.Rb Go.Kx
end Go.Proofs.Y
namespace Go.Proofs.Y
open Go.Rb Go.Kx
set_option maxRecDepth 100000
end Go.Proofs.Y
namespace Go.Proofs.Y
open Go.Rb Go.Kx
set_option maxRecDepth 100000
end Go.Proofs.Y
namespace Go.Proofs.Y
open Go.Rb Go.Kx
abbrev okc (w : Wd) : Int := chkW w.1 w.2.1 w.2.2.1 w.2.2.2
theorem okc_len {w : Wd} (h : okc w = 0) : w.2.1.1.length + w.2.1.2.length ≤ 60000 ∧ w.2.2.2.length = 3 ∧ okS w.1 := by
  obtain ⟨⟨o1, o2, o3⟩, _⟩ := chkW_zero h
  exact ⟨o2, o3, okS_of o1⟩
theorem do_ok {w : Wd} {x : Hp} (h : okc w = 0) (hx : x.2.2.2.length < 4611686018427387904) : F_world_Do (wvd w) x = some (if (hapP w x).2 = 0 then (wvd (hapP w x).1, 0) else (zW, (hapP w x).2)) := by
  obtain ⟨h1, h2, _⟩ := okc_len h
  rw [do_eq w x (by omega) (by omega) (by omega) hx, if_pos h]
theorem read_ok {w : Wd} (h : okc w = 0) (k i a b : Int) : F_world_Read (wvd w) k i a b = some (readP w k i a b) := by
  obtain ⟨h1, h2, _⟩ := okc_len h
  exact wread_eq w k i a b (by omega) (by omega) (by omega)
end Go.Proofs.Y
