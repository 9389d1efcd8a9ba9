/-
  What is proved, part by part: what world.Run comes to. what happens to a world, in plain words; Do and Run come to it. what happens to a world, as a plain function; Do comes to it. what world.Read comes to. Do, Run and Read of worlds: what the program's functions come to, in plain words. what rainbooklaw.watched$1 comes to. what slices.Equal[[]api.Errno,api.Errno] comes to. what rainbooklaw.watched comes to. what rainbooklaw.WorldStands$1 comes to. what slices.IndexFunc[[]int,int] comes to. what slices.ContainsFunc[[]int,int] comes to. what rainbooklaw.WorldStands comes to. a world that loses its power and is up again is as it was, in plain words; the closed fact on worlds. what rainbooklaw.WorldSame comes to. to seal, to merge, to drop: what is read of a world stays, in plain words. a line that is torn is there wholly, or not at all. what rainbooklaw.batch comes to. what rainbooklaw.stored comes to. what slices.EqualFunc[[]api.Rec,[]api.Rec,api.Rec,api.Rec] comes to. what rainbooklaw.StoreParts comes to. StoreParts: what the law's body comes to is true: records one by one, or at once; and what a disk keeps of them. what rainbooklaw.WorldTorn comes to. a batch that is torn is there wholly, or not at all: the law's body is true, in plain words. WorldTorn: the law's body is true, in plain words. strconv.ParseInt of Go's library is known by its answer. strconv.FormatInt of Go's library is known by its answer. what rainbookref.RecRead comes to. a text read as a record by the document's function: it is what the program's function reads. Conditions: none.
-/
import Derived.Test.YtnkegapccacndaaGreatDoorKPA
import Derived.Test.YtnkegapccacndaaGreatDoorKPD
import Derived.Test.YtnkegapccacndaaGreatDoorKPB
import Derived.Test.YtnkegapccacndaaGreatDoorKPC
import Derived.Lib.ParseIntBTie
set_option linter.unusedVariables false
set_option linter.unusedSimpArgs false
set_option linter.unnecessarySimpa false
set_option maxRecDepth 4000
namespace Go.Proofs.Y
open Go.Rb Go.Kx
noncomputable def zeY : Code := zg Tryz.f17
noncomputable def zeZ : FuncId → Option GS := tabG [(24, VY), (60, z6s), (61, zde)]
theorem zog : ΓOK Tryz.prog zeZ := z8 (VJ) (z8 (z7Q) (z8 (zdf) (ze)))
def zf0 : HT := ⟨tabL [(9, .it [] (dyn [.a 8 33 (.one (.int .i64)), .t 27 (.int .i64), .c 2 0 (.sl 95 (.cons (.sl 126 (.cons (.int .i64) (.cons (.int .i64) (.cons (.int .i64) (.one (.sl 4 (.one .bool))))))) (.one (.sl 73 (.cons (.int .i64) (.one (.int .i64))))))), .c 2 1 (.sl 5 (.one (.int .u8))), .c 2 2 (.sl 5 (.one (.int .u8))), .c 2 3 (.bool), .c 2 4 (.sl 3 (.one (.int .i64)))]))], tabH [(7, [.frzc 2 4]), (14, [.frzc 11 4])]⟩
abbrev z6v : List IT := [.v (.cons (.sl 95 (.cons (.sl 126 (.cons (.int .i64) (.cons (.int .i64) (.cons (.int .i64) (.one (.sl 4 (.one .bool))))))) (.one (.sl 73 (.cons (.int .i64) (.one (.int .i64))))))) (.cons (.sl 5 (.one (.int .u8))) (.cons (.sl 5 (.one (.int .u8))) (.cons (.bool) (.one (.sl 3 (.one (.int .i64)))))))) true, .v (.one (.sl 41 (.cons (.int .i64) (.cons (.int .i64) (.cons (.int .i64) (.one (.sl 77 (.cons (.int .i64) (.cons (.int .i64) (.one (.int .i64))))))))))) false]
abbrev zdg : List OT := [⟨.cons (.sl 95 (.cons (.sl 126 (.cons (.int .i64) (.cons (.int .i64) (.cons (.int .i64) (.one (.sl 4 (.one .bool))))))) (.one (.sl 73 (.cons (.int .i64) (.one (.int .i64))))))) (.cons (.sl 5 (.one (.int .u8))) (.cons (.sl 5 (.one (.int .u8))) (.cons (.bool) (.one (.sl 3 (.one (.int .i64))))))), true, []⟩, ⟨.one (.sl 33 (.one (.int .i64))), false, []⟩, ⟨.one (.int .i64), false, []⟩]
set_option maxRecDepth 100000
noncomputable def vq : List (List (Int × Int × Int × List Bool) × List (Int × Int)) × List Int × List Int × Bool × List Int → List (Int × Int × Int × List (Int × Int × Int)) → Option ((List (List (Int × Int × Int × List Bool) × List (Int × Int)) × List Int × List Int × Bool × List Int) × List Int × Int) := fun a b => z6 (yd (a.1, a.2.1, a.2.2.1, a.2.2.2.1, a.2.2.2.2)) fun y => ifB (neI y 0) (some (([], [], [], false, []), [], y)) (ifB (gtI (lenI b) 100) (some (([], [], [], false, []), [], 2)) (z6 (yp (a.1, a.2.1, a.2.2.1, a.2.2.2.1, a.2.2.2.2)) fun y => zk maxR (fun (x : Int × List (List (Int × Int × Int × List Bool) × List (Int × Int)) × List Int × List Int × Bool × List Int × List Int) => ifB (ltI x.1 (lenI b)) (z6 (atI b x.1) fun y => z6 (yp (x.2.1, x.2.2.1, x.2.2.2.1, x.2.2.2.2.1, x.2.2.2.2.2.1)) fun y_1 => ifB (ltI y.1 1) (ifB (zh 8 x.2.2.2.2.2.2 [4]) (some (Sum.inl (wadd .i64 x.1 1, x.2.1, x.2.2.1, x.2.2.2.1, x.2.2.2.2.1, x.2.2.2.2.2.1, cat x.2.2.2.2.2.2 [4]))) none) (ifB (gtI y.1 9) (ifB (zh 8 x.2.2.2.2.2.2 [4]) (some (Sum.inl (wadd .i64 x.1 1, x.2.1, x.2.2.1, x.2.2.2.1, x.2.2.2.2.1, x.2.2.2.2.2.1, cat x.2.2.2.2.2.2 [4]))) none) (ifB (eqB y_1.2.2.2.1 (eqI y.1 8)) (ifB (zh 8 x.2.2.2.2.2.2 [7]) (some (Sum.inl (wadd .i64 x.1 1, x.2.1, x.2.2.1, x.2.2.2.1, x.2.2.2.2.1, x.2.2.2.2.2.1, cat x.2.2.2.2.2.2 [7]))) none) (ifB (eqI y.1 5) (ifB (ltI y.2.2.1 0) (ifB (zh 8 x.2.2.2.2.2.2 [5]) (some (Sum.inl (wadd .i64 x.1 1, x.2.1, x.2.2.1, x.2.2.2.1, x.2.2.2.2.1, x.2.2.2.2.2.1, cat x.2.2.2.2.2.2 [5]))) none) (ifB (geI y.2.2.1 (lenI y_1.2.2.2.2)) (ifB (zh 8 x.2.2.2.2.2.2 [5]) (some (Sum.inl (wadd .i64 x.1 1, x.2.1, x.2.2.1, x.2.2.2.1, x.2.2.2.2.1, x.2.2.2.2.2.1, cat x.2.2.2.2.2.2 [5]))) none) (ifB (eqI y.1 6) (ifB (ltL y.2.2.1 y_1.2.2.2.2) (z6 (atN y_1.2.2.2.2 (natI y.2.2.1)) fun y_2 => ifB (zh 8 x.2.2.2.2.2.2 [0]) (some (Sum.inl (wadd .i64 x.1 1, y_1.1, y_1.2.1, y_1.2.2.1, y_1.2.2.2.1, setN y_1.2.2.2.2 (natI y.2.2.1) (-1), cat x.2.2.2.2.2.2 [0]))) none) none) (z6 (ZO (y_1.2.1, y_1.2.2.1)) fun y_2 => ifB (eqI y_2.2.2 0) (ifB (ltL y.2.2.1 y_1.2.2.2.2) (z6 (atN y_1.2.2.2.2 (natI y.2.2.1)) fun y_3 => ifB (eqI y_2.2.2 0) (ifB (zh 8 x.2.2.2.2.2.2 [y_2.2.2]) (some (Sum.inl (wadd .i64 x.1 1, y_1.1, y_1.2.1, y_1.2.2.1, y_1.2.2.2.1, setN y_1.2.2.2.2 (natI y.2.2.1) (lenI y_2.2.1), cat x.2.2.2.2.2.2 [y_2.2.2]))) none) (ifB (zh 8 x.2.2.2.2.2.2 [y_2.2.2]) (some (Sum.inl (wadd .i64 x.1 1, x.2.1, x.2.2.1, x.2.2.2.1, x.2.2.2.2.1, x.2.2.2.2.2.1, cat x.2.2.2.2.2.2 [y_2.2.2]))) none)) none) (ifB (eqI y_2.2.2 0) (ifB (zh 8 x.2.2.2.2.2.2 [y_2.2.2]) (some (Sum.inl (wadd .i64 x.1 1, y_1.1, y_1.2.1, y_1.2.2.1, y_1.2.2.2.1, y_1.2.2.2.2, cat x.2.2.2.2.2.2 [y_2.2.2]))) none) (ifB (zh 8 x.2.2.2.2.2.2 [y_2.2.2]) (some (Sum.inl (wadd .i64 x.1 1, x.2.1, x.2.2.1, x.2.2.2.1, x.2.2.2.2.1, x.2.2.2.2.2.1, cat x.2.2.2.2.2.2 [y_2.2.2]))) none)))))) (ifB (eqI y.1 6) (ifB (ltI y.2.2.1 0) (ifB (zh 8 x.2.2.2.2.2.2 [5]) (some (Sum.inl (wadd .i64 x.1 1, x.2.1, x.2.2.1, x.2.2.2.1, x.2.2.2.2.1, x.2.2.2.2.2.1, cat x.2.2.2.2.2.2 [5]))) none) (ifB (geI y.2.2.1 (lenI y_1.2.2.2.2)) (ifB (zh 8 x.2.2.2.2.2.2 [5]) (some (Sum.inl (wadd .i64 x.1 1, x.2.1, x.2.2.1, x.2.2.2.1, x.2.2.2.2.1, x.2.2.2.2.2.1, cat x.2.2.2.2.2.2 [5]))) none) (ifB (eqI y.1 6) (ifB (ltL y.2.2.1 y_1.2.2.2.2) (z6 (atN y_1.2.2.2.2 (natI y.2.2.1)) fun y_2 => ifB (zh 8 x.2.2.2.2.2.2 [0]) (some (Sum.inl (wadd .i64 x.1 1, y_1.1, y_1.2.1, y_1.2.2.1, y_1.2.2.2.1, setN y_1.2.2.2.2 (natI y.2.2.1) (-1), cat x.2.2.2.2.2.2 [0]))) none) none) (z6 (ZO (y_1.2.1, y_1.2.2.1)) fun y_2 => ifB (eqI y_2.2.2 0) (ifB (ltL y.2.2.1 y_1.2.2.2.2) (z6 (atN y_1.2.2.2.2 (natI y.2.2.1)) fun y_3 => ifB (eqI y_2.2.2 0) (ifB (zh 8 x.2.2.2.2.2.2 [y_2.2.2]) (some (Sum.inl (wadd .i64 x.1 1, y_1.1, y_1.2.1, y_1.2.2.1, y_1.2.2.2.1, setN y_1.2.2.2.2 (natI y.2.2.1) (lenI y_2.2.1), cat x.2.2.2.2.2.2 [y_2.2.2]))) none) (ifB (zh 8 x.2.2.2.2.2.2 [y_2.2.2]) (some (Sum.inl (wadd .i64 x.1 1, x.2.1, x.2.2.1, x.2.2.2.1, x.2.2.2.2.1, x.2.2.2.2.2.1, cat x.2.2.2.2.2.2 [y_2.2.2]))) none)) none) (ifB (eqI y_2.2.2 0) (ifB (zh 8 x.2.2.2.2.2.2 [y_2.2.2]) (some (Sum.inl (wadd .i64 x.1 1, y_1.1, y_1.2.1, y_1.2.2.1, y_1.2.2.2.1, y_1.2.2.2.2, cat x.2.2.2.2.2.2 [y_2.2.2]))) none) (ifB (zh 8 x.2.2.2.2.2.2 [y_2.2.2]) (some (Sum.inl (wadd .i64 x.1 1, x.2.1, x.2.2.1, x.2.2.2.1, x.2.2.2.2.1, x.2.2.2.2.2.1, cat x.2.2.2.2.2.2 [y_2.2.2]))) none)))))) (ifB (eqI y.1 7) (z6 yu fun y => z6 ye fun y_2 => ifB (zh 8 x.2.2.2.2.2.2 [0]) (some (Sum.inl (wadd .i64 x.1 1, y, y_1.2.1, y_1.2.2.1, false, y_2, cat x.2.2.2.2.2.2 [0]))) none) (ifB (eqI y.1 8) (z6 (ZO (y_1.2.1, y_1.2.2.1)) fun y => ifB (neI y.2.2 0) (ifB (eqI y.2.2 0) (ifB (zh 8 x.2.2.2.2.2.2 [y.2.2]) (some (Sum.inl (wadd .i64 x.1 1, y_1.1, y_1.2.1, y_1.2.2.1, y_1.2.2.2.1, y_1.2.2.2.2, cat x.2.2.2.2.2.2 [y.2.2]))) none) (ifB (zh 8 x.2.2.2.2.2.2 [y.2.2]) (some (Sum.inl (wadd .i64 x.1 1, x.2.1, x.2.2.1, x.2.2.2.1, x.2.2.2.2.1, x.2.2.2.2.2.1, cat x.2.2.2.2.2.2 [y.2.2]))) none)) (z6 (y0 y.2.1) fun y_2 => ifB (eqI y_2.2 0) (ifB (eqI y_2.2 0) (ifB (zh 8 x.2.2.2.2.2.2 [y_2.2]) (some (Sum.inl (wadd .i64 x.1 1, y_2.1, y.1.1, y.1.2, true, y_1.2.2.2.2, cat x.2.2.2.2.2.2 [y_2.2]))) none) (ifB (zh 8 x.2.2.2.2.2.2 [y_2.2]) (some (Sum.inl (wadd .i64 x.1 1, x.2.1, x.2.2.1, x.2.2.2.1, x.2.2.2.2.1, x.2.2.2.2.2.1, cat x.2.2.2.2.2.2 [y_2.2]))) none)) (ifB (eqI y_2.2 0) (ifB (zh 8 x.2.2.2.2.2.2 [y_2.2]) (some (Sum.inl (wadd .i64 x.1 1, y_1.1, y_1.2.1, y_1.2.2.1, y_1.2.2.2.1, y_1.2.2.2.2, cat x.2.2.2.2.2.2 [y_2.2]))) none) (ifB (zh 8 x.2.2.2.2.2.2 [y_2.2]) (some (Sum.inl (wadd .i64 x.1 1, x.2.1, x.2.2.1, x.2.2.2.1, x.2.2.2.2.1, x.2.2.2.2.2.1, cat x.2.2.2.2.2.2 [y_2.2]))) none)))) (ifB (eqI y.1 1) (z6 (y5 y_1.1 (1, 0, 0, y.2.2.2)) fun y_2 => ifB (neI y_2.2 0) (ifB (eqI y_2.2 0) (ifB (zh 8 x.2.2.2.2.2.2 [y_2.2]) (some (Sum.inl (wadd .i64 x.1 1, y_1.1, y_1.2.1, y_1.2.2.1, y_1.2.2.2.1, y_1.2.2.2.2, cat x.2.2.2.2.2.2 [y_2.2]))) none) (ifB (zh 8 x.2.2.2.2.2.2 [y_2.2]) (some (Sum.inl (wadd .i64 x.1 1, x.2.1, x.2.2.1, x.2.2.2.1, x.2.2.2.2.1, x.2.2.2.2.2.1, cat x.2.2.2.2.2.2 [y_2.2]))) none)) (z6 (yU (y_1.2.1, y_1.2.2.1) (1, 0, 0, y.2.2.2)) fun y_3 => ifB (neI y_3.2 0) (ifB (eqI y_3.2 0) (ifB (zh 8 x.2.2.2.2.2.2 [y_3.2]) (some (Sum.inl (wadd .i64 x.1 1, y_1.1, y_1.2.1, y_1.2.2.1, y_1.2.2.2.1, y_1.2.2.2.2, cat x.2.2.2.2.2.2 [y_3.2]))) none) (ifB (zh 8 x.2.2.2.2.2.2 [y_3.2]) (some (Sum.inl (wadd .i64 x.1 1, x.2.1, x.2.2.1, x.2.2.2.1, x.2.2.2.2.1, x.2.2.2.2.2.1, cat x.2.2.2.2.2.2 [y_3.2]))) none)) (ifB (eqI y.1 9) (z6 (Yw (y_3.1.1, y_3.1.2) (maxI 0 (minI y.2.2.1 (lenI y_3.1.2)))) fun y => ifB (eqI y.2 0) (z6 yu fun y_4 => z6 ye fun y_5 => ifB (eqI y.2 0) (ifB (zh 8 x.2.2.2.2.2.2 [y.2]) (some (Sum.inl (wadd .i64 x.1 1, y_4, y.1.1, y.1.2, false, y_5, cat x.2.2.2.2.2.2 [y.2]))) none) (ifB (zh 8 x.2.2.2.2.2.2 [y.2]) (some (Sum.inl (wadd .i64 x.1 1, x.2.1, x.2.2.1, x.2.2.2.1, x.2.2.2.2.1, x.2.2.2.2.2.1, cat x.2.2.2.2.2.2 [y.2]))) none)) (ifB (eqI y.2 0) (ifB (zh 8 x.2.2.2.2.2.2 [y.2]) (some (Sum.inl (wadd .i64 x.1 1, y_1.1, y_1.2.1, y_1.2.2.1, y_1.2.2.2.1, y_1.2.2.2.2, cat x.2.2.2.2.2.2 [y.2]))) none) (ifB (zh 8 x.2.2.2.2.2.2 [y.2]) (some (Sum.inl (wadd .i64 x.1 1, x.2.1, x.2.2.1, x.2.2.2.1, x.2.2.2.2.1, x.2.2.2.2.2.1, cat x.2.2.2.2.2.2 [y.2]))) none))) (z6 (yC (y_3.1.1, y_3.1.2)) fun y => ifB (eqI y.2 0) (ifB (eqI y.2 0) (ifB (zh 8 x.2.2.2.2.2.2 [y.2]) (some (Sum.inl (wadd .i64 x.1 1, y_2.1, y.1.1, y.1.2, y_1.2.2.2.1, y_1.2.2.2.2, cat x.2.2.2.2.2.2 [y.2]))) none) (ifB (zh 8 x.2.2.2.2.2.2 [y.2]) (some (Sum.inl (wadd .i64 x.1 1, x.2.1, x.2.2.1, x.2.2.2.1, x.2.2.2.2.1, x.2.2.2.2.2.1, cat x.2.2.2.2.2.2 [y.2]))) none)) (ifB (eqI y.2 0) (ifB (zh 8 x.2.2.2.2.2.2 [y.2]) (some (Sum.inl (wadd .i64 x.1 1, y_1.1, y_1.2.1, y_1.2.2.1, y_1.2.2.2.1, y_1.2.2.2.2, cat x.2.2.2.2.2.2 [y.2]))) none) (ifB (zh 8 x.2.2.2.2.2.2 [y.2]) (some (Sum.inl (wadd .i64 x.1 1, x.2.1, x.2.2.1, x.2.2.2.1, x.2.2.2.2.1, x.2.2.2.2.2.1, cat x.2.2.2.2.2.2 [y.2]))) none)))))) (ifB (eqI y.1 9) (z6 (y5 y_1.1 (1, 0, 0, y.2.2.2)) fun y_2 => ifB (neI y_2.2 0) (ifB (eqI y_2.2 0) (ifB (zh 8 x.2.2.2.2.2.2 [y_2.2]) (some (Sum.inl (wadd .i64 x.1 1, y_1.1, y_1.2.1, y_1.2.2.1, y_1.2.2.2.1, y_1.2.2.2.2, cat x.2.2.2.2.2.2 [y_2.2]))) none) (ifB (zh 8 x.2.2.2.2.2.2 [y_2.2]) (some (Sum.inl (wadd .i64 x.1 1, x.2.1, x.2.2.1, x.2.2.2.1, x.2.2.2.2.1, x.2.2.2.2.2.1, cat x.2.2.2.2.2.2 [y_2.2]))) none)) (z6 (yU (y_1.2.1, y_1.2.2.1) (1, 0, 0, y.2.2.2)) fun y_3 => ifB (neI y_3.2 0) (ifB (eqI y_3.2 0) (ifB (zh 8 x.2.2.2.2.2.2 [y_3.2]) (some (Sum.inl (wadd .i64 x.1 1, y_1.1, y_1.2.1, y_1.2.2.1, y_1.2.2.2.1, y_1.2.2.2.2, cat x.2.2.2.2.2.2 [y_3.2]))) none) (ifB (zh 8 x.2.2.2.2.2.2 [y_3.2]) (some (Sum.inl (wadd .i64 x.1 1, x.2.1, x.2.2.1, x.2.2.2.1, x.2.2.2.2.1, x.2.2.2.2.2.1, cat x.2.2.2.2.2.2 [y_3.2]))) none)) (ifB (eqI y.1 9) (z6 (Yw (y_3.1.1, y_3.1.2) (maxI 0 (minI y.2.2.1 (lenI y_3.1.2)))) fun y => ifB (eqI y.2 0) (z6 yu fun y_4 => z6 ye fun y_5 => ifB (eqI y.2 0) (ifB (zh 8 x.2.2.2.2.2.2 [y.2]) (some (Sum.inl (wadd .i64 x.1 1, y_4, y.1.1, y.1.2, false, y_5, cat x.2.2.2.2.2.2 [y.2]))) none) (ifB (zh 8 x.2.2.2.2.2.2 [y.2]) (some (Sum.inl (wadd .i64 x.1 1, x.2.1, x.2.2.1, x.2.2.2.1, x.2.2.2.2.1, x.2.2.2.2.2.1, cat x.2.2.2.2.2.2 [y.2]))) none)) (ifB (eqI y.2 0) (ifB (zh 8 x.2.2.2.2.2.2 [y.2]) (some (Sum.inl (wadd .i64 x.1 1, y_1.1, y_1.2.1, y_1.2.2.1, y_1.2.2.2.1, y_1.2.2.2.2, cat x.2.2.2.2.2.2 [y.2]))) none) (ifB (zh 8 x.2.2.2.2.2.2 [y.2]) (some (Sum.inl (wadd .i64 x.1 1, x.2.1, x.2.2.1, x.2.2.2.1, x.2.2.2.2.1, x.2.2.2.2.2.1, cat x.2.2.2.2.2.2 [y.2]))) none))) (z6 (yC (y_3.1.1, y_3.1.2)) fun y => ifB (eqI y.2 0) (ifB (eqI y.2 0) (ifB (zh 8 x.2.2.2.2.2.2 [y.2]) (some (Sum.inl (wadd .i64 x.1 1, y_2.1, y.1.1, y.1.2, y_1.2.2.2.1, y_1.2.2.2.2, cat x.2.2.2.2.2.2 [y.2]))) none) (ifB (zh 8 x.2.2.2.2.2.2 [y.2]) (some (Sum.inl (wadd .i64 x.1 1, x.2.1, x.2.2.1, x.2.2.2.1, x.2.2.2.2.1, x.2.2.2.2.2.1, cat x.2.2.2.2.2.2 [y.2]))) none)) (ifB (eqI y.2 0) (ifB (zh 8 x.2.2.2.2.2.2 [y.2]) (some (Sum.inl (wadd .i64 x.1 1, y_1.1, y_1.2.1, y_1.2.2.1, y_1.2.2.2.1, y_1.2.2.2.2, cat x.2.2.2.2.2.2 [y.2]))) none) (ifB (zh 8 x.2.2.2.2.2.2 [y.2]) (some (Sum.inl (wadd .i64 x.1 1, x.2.1, x.2.2.1, x.2.2.2.1, x.2.2.2.2.1, x.2.2.2.2.2.1, cat x.2.2.2.2.2.2 [y.2]))) none)))))) (ifB (eqI y.1 4) (z6 (y5 y_1.1 (4, 0, y.2.2.1, [])) fun y_2 => ifB (neI y_2.2 0) (ifB (eqI y_2.2 0) (ifB (zh 8 x.2.2.2.2.2.2 [y_2.2]) (some (Sum.inl (wadd .i64 x.1 1, y_1.1, y_1.2.1, y_1.2.2.1, y_1.2.2.2.1, y_1.2.2.2.2, cat x.2.2.2.2.2.2 [y_2.2]))) none) (ifB (zh 8 x.2.2.2.2.2.2 [y_2.2]) (some (Sum.inl (wadd .i64 x.1 1, x.2.1, x.2.2.1, x.2.2.2.1, x.2.2.2.2.1, x.2.2.2.2.2.1, cat x.2.2.2.2.2.2 [y_2.2]))) none)) (z6 (yU (y_1.2.1, y_1.2.2.1) (4, 0, y.2.2.1, [])) fun y => ifB (neI y.2 0) (ifB (eqI y.2 0) (ifB (zh 8 x.2.2.2.2.2.2 [y.2]) (some (Sum.inl (wadd .i64 x.1 1, y_1.1, y_1.2.1, y_1.2.2.1, y_1.2.2.2.1, y_1.2.2.2.2, cat x.2.2.2.2.2.2 [y.2]))) none) (ifB (zh 8 x.2.2.2.2.2.2 [y.2]) (some (Sum.inl (wadd .i64 x.1 1, x.2.1, x.2.2.1, x.2.2.2.1, x.2.2.2.2.1, x.2.2.2.2.2.1, cat x.2.2.2.2.2.2 [y.2]))) none)) (z6 (yC (y.1.1, y.1.2)) fun y => ifB (eqI y.2 0) (ifB (eqI y.2 0) (ifB (zh 8 x.2.2.2.2.2.2 [y.2]) (some (Sum.inl (wadd .i64 x.1 1, y_2.1, y.1.1, y.1.2, y_1.2.2.2.1, y_1.2.2.2.2, cat x.2.2.2.2.2.2 [y.2]))) none) (ifB (zh 8 x.2.2.2.2.2.2 [y.2]) (some (Sum.inl (wadd .i64 x.1 1, x.2.1, x.2.2.1, x.2.2.2.1, x.2.2.2.2.1, x.2.2.2.2.2.1, cat x.2.2.2.2.2.2 [y.2]))) none)) (ifB (eqI y.2 0) (ifB (zh 8 x.2.2.2.2.2.2 [y.2]) (some (Sum.inl (wadd .i64 x.1 1, y_1.1, y_1.2.1, y_1.2.2.1, y_1.2.2.2.1, y_1.2.2.2.2, cat x.2.2.2.2.2.2 [y.2]))) none) (ifB (zh 8 x.2.2.2.2.2.2 [y.2]) (some (Sum.inl (wadd .i64 x.1 1, x.2.1, x.2.2.1, x.2.2.2.1, x.2.2.2.2.1, x.2.2.2.2.2.1, cat x.2.2.2.2.2.2 [y.2]))) none))))) (z6 (y5 y_1.1 (y.1, y.2.1, y.2.2.1, [])) fun y_2 => ifB (neI y_2.2 0) (ifB (eqI y_2.2 0) (ifB (zh 8 x.2.2.2.2.2.2 [y_2.2]) (some (Sum.inl (wadd .i64 x.1 1, y_1.1, y_1.2.1, y_1.2.2.1, y_1.2.2.2.1, y_1.2.2.2.2, cat x.2.2.2.2.2.2 [y_2.2]))) none) (ifB (zh 8 x.2.2.2.2.2.2 [y_2.2]) (some (Sum.inl (wadd .i64 x.1 1, x.2.1, x.2.2.1, x.2.2.2.1, x.2.2.2.2.1, x.2.2.2.2.2.1, cat x.2.2.2.2.2.2 [y_2.2]))) none)) (z6 (yU (y_1.2.1, y_1.2.2.1) (y.1, y.2.1, y.2.2.1, [])) fun y => ifB (neI y.2 0) (ifB (eqI y.2 0) (ifB (zh 8 x.2.2.2.2.2.2 [y.2]) (some (Sum.inl (wadd .i64 x.1 1, y_1.1, y_1.2.1, y_1.2.2.1, y_1.2.2.2.1, y_1.2.2.2.2, cat x.2.2.2.2.2.2 [y.2]))) none) (ifB (zh 8 x.2.2.2.2.2.2 [y.2]) (some (Sum.inl (wadd .i64 x.1 1, x.2.1, x.2.2.1, x.2.2.2.1, x.2.2.2.2.1, x.2.2.2.2.2.1, cat x.2.2.2.2.2.2 [y.2]))) none)) (z6 (yC (y.1.1, y.1.2)) fun y => ifB (eqI y.2 0) (ifB (eqI y.2 0) (ifB (zh 8 x.2.2.2.2.2.2 [y.2]) (some (Sum.inl (wadd .i64 x.1 1, y_2.1, y.1.1, y.1.2, y_1.2.2.2.1, y_1.2.2.2.2, cat x.2.2.2.2.2.2 [y.2]))) none) (ifB (zh 8 x.2.2.2.2.2.2 [y.2]) (some (Sum.inl (wadd .i64 x.1 1, x.2.1, x.2.2.1, x.2.2.2.1, x.2.2.2.2.1, x.2.2.2.2.2.1, cat x.2.2.2.2.2.2 [y.2]))) none)) (ifB (eqI y.2 0) (ifB (zh 8 x.2.2.2.2.2.2 [y.2]) (some (Sum.inl (wadd .i64 x.1 1, y_1.1, y_1.2.1, y_1.2.2.1, y_1.2.2.2.1, y_1.2.2.2.2, cat x.2.2.2.2.2.2 [y.2]))) none) (ifB (zh 8 x.2.2.2.2.2.2 [y.2]) (some (Sum.inl (wadd .i64 x.1 1, x.2.1, x.2.2.1, x.2.2.2.1, x.2.2.2.2.1, x.2.2.2.2.2.1, cat x.2.2.2.2.2.2 [y.2]))) none))))))))))))))) (mapO Sum.inr (some ((x.2.1, x.2.2.1, x.2.2.2.1, x.2.2.2.2.1, x.2.2.2.2.2.1), x.2.2.2.2.2.2, 0)))) (0, y.1, y.2.1, y.2.2.1, y.2.2.2.1, y.2.2.2.2, [])))
theorem ziq (x : PI z6v) : vq (x.1) (x.2) = fnE T zeZ zf0 zeY (zo Tryz.f17) z6v zdg x := by kernel_rfl
noncomputable abbrev zf1 : GS := zp false z6v zdg fun x => vq (x.1) (x.2)
theorem zir : GSOK Tryz.prog 17 zf1 := zm tok zog fmo (Ht := zf0) (fn := Tryz.f17) (Tryz.func17) (c := zeY) (by kernel_rfl) (by kernel_rfl) (by kernel_rfl) (by decide +kernel) (by decide) ziq
end Go.Proofs.Y
namespace Go.Proofs.Y
open Go.Rb Go.Kx
abbrev Hp := Int × Int × Int × List Ent
noncomputable def wrC {α : Type} (K : Wv → Int → Option α) (tear : Bool) (n : Int) (r : Rc) (y : Wv) : Option α :=
 z6 (y5 y.1 r) fun (y_1 : Shf × Int) => ifB (neI y_1.2 0) (K y y_1.2)
  (z6 (yU (y.2.1, y.2.2.1) r) fun (y_2 : (List Int × List Int) × Int) => ifB (neI y_2.2 0) (K y y_2.2)
   (ifB tear
    (z6 (Yw y_2.1 (maxI 0 (minI n (lenI y_2.1.2)))) fun (y_3 : (List Int × List Int) × Int) => ifB (eqI y_3.2 0)
     (z6 yu fun (s : Shf) => z6 ye fun (c : List Int) => K (s, y_3.1.1, y_3.1.2, false, c) y_3.2) (K y y_3.2))
    (z6 (yC y_2.1) fun (y_3 : (List Int × List Int) × Int) => ifB (eqI y_3.2 0) (K (y_1.1, y_3.1.1, y_3.1.2, y.2.2.2.1, y.2.2.2.2) y_3.2) (K y y_3.2))))
noncomputable def opC {α : Type} (K : Wv → Int → Option α) (shut : Bool) (n : Int) (y : Wv) : Option α :=
 ifB (ltI n 0) (K y 5) (ifB (geI n (lenI y.2.2.2.2)) (K y 5) (ifB shut
  (ifB (ltL n y.2.2.2.2) (z6 (atN y.2.2.2.2 (natI n)) fun (_ : Int) => K (y.1, y.2.1, y.2.2.1, y.2.2.2.1, setN y.2.2.2.2 (natI n) (-1)) 0) none)
  (z6 (ZO (y.2.1, y.2.2.1)) fun (y_1 : (List Int × List Int) × List Rc × Int) => ifB (eqI y_1.2.2 0)
   (ifB (ltL n y.2.2.2.2) (z6 (atN y.2.2.2.2 (natI n)) fun (_ : Int) => K (y.1, y.2.1, y.2.2.1, y.2.2.2.1, setN y.2.2.2.2 (natI n) (lenI y_1.2.1)) y_1.2.2) none) (K y y_1.2.2))))
noncomputable def hapC {α : Type} (K : Wv → Int → Option α) (x : Hp) (y : Wv) : Option α :=
 ifB (ltI x.1 1) (K y 4) (ifB (gtI x.1 9) (K y 4) (ifB (eqB y.2.2.2.1 (eqI x.1 8)) (K y 7)
  (ifB (eqI x.1 5) (opC K (eqI x.1 6) x.2.2.1 y) (ifB (eqI x.1 6) (opC K (eqI x.1 6) x.2.2.1 y)
  (ifB (eqI x.1 7) (z6 yu fun (s : Shf) => z6 ye fun (c : List Int) => K (s, y.2.1, y.2.2.1, false, c) 0)
  (ifB (eqI x.1 8) (z6 (ZO (y.2.1, y.2.2.1)) fun (y_1 : (List Int × List Int) × List Rc × Int) => ifB (neI y_1.2.2 0) (K y y_1.2.2)
   (z6 (y0 y_1.2.1) fun (y_2 : Shf × Int) => ifB (eqI y_2.2 0) (K (y_2.1, y_1.1.1, y_1.1.2, true, y.2.2.2.2) y_2.2) (K y y_2.2)))
  (ifB (eqI x.1 1) (wrC K (eqI x.1 9) x.2.2.1 (1, 0, 0, x.2.2.2) y) (ifB (eqI x.1 9) (wrC K (eqI x.1 9) x.2.2.1 (1, 0, 0, x.2.2.2) y)
  (ifB (eqI x.1 4) (wrC K false 0 (4, 0, x.2.2.1, []) y) (wrC K false 0 (x.1, x.2.1, x.2.2.1, []) y))))))))))
def zW : Wv := ([], [], [], false, [])
theorem zuA (w : Wv) (x : Hp) : z2F w x = z6 (yd w) fun (c : Int) => ifB (neI c 0) (some (zW, c)) (z6 (yp w) fun (y : Wv) => hapC (fun w e => ifB (neI e 0) (some (zW, e)) (some (w, 0))) x y) := by kernel_rfl
theorem ztp (w : Wv) (l : List Hp) : vq w l = z6 (yd w) fun (c : Int) => ifB (neI c 0) (some (zW, [], c)) (ifB (gtI (lenI l) 100) (some (zW, [], 2)) (z6 (yp w) fun (y : Wv) =>
  zk maxR (fun (x : Int × Shf × List Int × List Int × Bool × List Int × List Int) => ifB (ltI x.1 (lenI l))
   (z6 (atI l x.1) fun (h : Hp) => z6 (yp (x.2.1, x.2.2.1, x.2.2.2.1, x.2.2.2.2.1, x.2.2.2.2.2.1)) fun (y_1 : Wv) =>
    hapC (fun v e => ifB (eqI e 0)
     (ifB (zh 8 x.2.2.2.2.2.2 [e]) (some (Sum.inl (wadd IntKind.i64 x.1 1, v.1, v.2.1, v.2.2.1, v.2.2.2.1, v.2.2.2.2, cat x.2.2.2.2.2.2 [e]))) none)
     (ifB (zh 8 x.2.2.2.2.2.2 [e]) (some (Sum.inl (wadd IntKind.i64 x.1 1, x.2.1, x.2.2.1, x.2.2.2.1, x.2.2.2.2.1, x.2.2.2.2.2.1, cat x.2.2.2.2.2.2 [e]))) none)) h y_1)
   (mapO Sum.inr (some ((x.2.1, x.2.2.1, x.2.2.2.1, x.2.2.2.2.1, x.2.2.2.2.2.1), x.2.2.2.2.2.2, 0)))) (0, y.1, y.2.1, y.2.2.1, y.2.2.2.1, y.2.2.2.2, []))) := by kernel_rfl
end Go.Proofs.Y
namespace Go.Proofs.Y
open Go.Rb Go.Kx
abbrev Wd := Shf × (List UInt8 × List UInt8) × Bool × List Int
def wvd (w : Wd) : Wv := wv w.1 w.2.1 w.2.2.1 w.2.2.2
def wrP (w : Wd) (tear : Bool) (n : Int) (r : Rc) : Wd × Int :=
 if (ZN w.1 r).2 = 0 then (if (dPut w.2.1 r).2 = 0 then
  (if tear = true then (if (vB (dPut w.2.1 r).1 (max 0 (min n (dPut w.2.1 r).1.2.length))).2 = 0 then ((yG, (vB (dPut w.2.1 r).1 (max 0 (min n (dPut w.2.1 r).1.2.length))).1, false, [-1, -1, -1]), 0) else (w, (vB (dPut w.2.1 r).1 (max 0 (min n (dPut w.2.1 r).1.2.length))).2))
  else (if (vJ (dPut w.2.1 r).1).2 = 0 then (((ZN w.1 r).1, (vJ (dPut w.2.1 r).1).1, w.2.2.1, w.2.2.2), 0) else (w, (vJ (dPut w.2.1 r).1).2)))
  else (w, (dPut w.2.1 r).2)) else (w, (ZN w.1 r).2)
def opP (w : Wd) (shut : Bool) (n : Int) : Wd × Int :=
 if n < 0 then (w, 5) else if (w.2.2.2.length : Int) ≤ n then (w, 5) else if shut = true then ((w.1, w.2.1, w.2.2.1, w.2.2.2.set n.toNat (-1)), 0) else
  if (zq w.2.1).2.2 = 0 then ((w.1, w.2.1, w.2.2.1, w.2.2.2.set n.toNat ((zq w.2.1).2.1.length : Int)), 0) else (w, (zq w.2.1).2.2)
def zdP (w : Wd) : Wd × Int :=
 if (zq w.2.1).2.2 = 0 then (if (zE (zq w.2.1).2.1).2 = 0 then (((zE (zq w.2.1).2.1).1, (zq w.2.1).1, true, w.2.2.2), 0) else (w, (zE (zq w.2.1).2.1).2)) else (w, (zq w.2.1).2.2)
def hapP (w : Wd) (x : Hp) : Wd × Int :=
 if x.1 < 1 then (w, 4) else if 9 < x.1 then (w, 4) else if w.2.2.1 = decide (x.1 = 8) then (w, 7) else
 if x.1 = 5 then opP w false x.2.2.1 else if x.1 = 6 then opP w true x.2.2.1 else
 if x.1 = 7 then ((yG, w.2.1, false, [-1, -1, -1]), 0) else if x.1 = 8 then zdP w else
 if x.1 = 1 then wrP w false x.2.2.1 (1, 0, 0, x.2.2.2) else if x.1 = 9 then wrP w true x.2.2.1 (1, 0, 0, x.2.2.2) else
 if x.1 = 4 then wrP w false 0 (4, 0, x.2.2.1, []) else wrP w false 0 (x.1, x.2.1, x.2.2.1, [])
theorem zfE {d : List UInt8 × List UInt8} {r : Rc} (h : (dPut d r).2 = 0) : (dPut d r).1.1.length + (dPut d r).1.2.length ≤ 60000 := by
 unfold dPut at h ⊢
 split at h
 ·rename_i h1
  rw [if_pos h1]
  split at h
  ·rename_i h2
   rw [if_pos h2]
   split at h
   ·cases h
   ·rename_i h3
    rw [if_neg h3]
    have : (Yy r).length = (yx r).length + 1 := by simp [Yy]
    simp only [List.length_append]
    omega
  ·rename_i h2; exact absurd h h2
 ·rename_i h1; exact absurd h h1
theorem zdh : ye = some [-1, -1, -1] := rfl
theorem zhw {α : Type} (K : Wv → Int → Option α) (tear : Bool) (n : Int) (r : Rc) (w : Wd) (hs : okS w.1) (hd : w.2.1.1.length + w.2.1.2.length ≤ 60000) (hr : r.2.2.2.length < 4611686018427387904) :
  wrC K tear n r (wvd w) = K (wvd (wrP w tear n r).1) (wrP w tear n r).2 := by
 unfold wrC wrP
 simp only [wvd, wv]
 rw [zp7 _ _ hs hr, z7, zj]
 by_cases c1 : (ZN w.1 r).2 = 0
 ·rw [if_pos c1, if_pos c1, zuz w.2.1 r (by omega) (by omega) hr, z7]
  simp only
  rw [zj]
  by_cases c2 : (dPut w.2.1 r).2 = 0
  ·have hl := zfE c2
   rw [if_pos c2, if_pos c2]
   cases tear with
   | true =>
    rw [Z0, if_pos rfl]
    simp only [bD, zb, ZC]
    rw [show maxI 0 (minI n ((dPut w.2.1 r).1.2.length : Int)) = max 0 (min n ((dPut w.2.1 r).1.2.length : Int)) from rfl, zrP (dPut w.2.1 r).1 _ (by omega) (by omega), z7]
    generalize vB (dPut w.2.1 r).1 (max 0 (min n ((dPut w.2.1 r).1.2.length : Int))) = z
    simp only [bD]
    rw [zf]
    by_cases c3 : z.2 = 0
    ·rw [if_pos c3, if_pos c3, zgU, z7, zdh, z7, c3]
    ·rw [if_neg c3, if_neg c3]
   | false =>
    rw [ZA, if_neg (by decide)]
    simp only [bD]
    rw [ztm (dPut w.2.1 r).1 (by omega) (by omega), z7]
    generalize vJ (dPut w.2.1 r).1 = z
    simp only [bD]
    rw [zf]
    by_cases c3 : z.2 = 0
    ·rw [if_pos c3, if_pos c3, c3]
    ·rw [if_neg c3, if_neg c3]
  ·rw [if_neg c2, if_neg c2]
 ·rw [if_neg c1, if_neg c1]
theorem zrT {α : Type} (K : Wv → Int → Option α) (shut : Bool) (n : Int) (w : Wd) (hd : w.2.1.1.length + w.2.1.2.length ≤ 60000) :
  opC K shut n (wvd w) = K (wvd (opP w shut n).1) (opP w shut n).2 := by
 unfold opC opP
 simp only [wvd, wv]
 rw [zi, zP, zb]
 by_cases c1 : n < 0
 ·rw [if_pos c1, if_pos c1]
 rw [if_neg c1, if_neg c1]
 by_cases c2 : (w.2.2.2.length : Int) ≤ n
 ·rw [if_pos c2, if_pos c2]
 rw [if_neg c2, if_neg c2]
 have hn : n.toNat < w.2.2.2.length := by omega
 have hat := yw hn
 cases shut with
 | true =>
  rw [Z0, if_pos rfl, zH, if_pos ⟨by omega, by omega⟩, zL, hat, z7, Zi]
 | false =>
  rw [ZA, if_neg (by decide), z3L w.2.1 (by omega) (by omega), z7]
  simp only
  rw [zf]
  by_cases c3 : (zq w.2.1).2.2 = 0
  ·rw [if_pos c3, if_pos c3, zH, if_pos ⟨by omega, by omega⟩, zL, hat, z7, Zi, c3, zb]
  ·rw [if_neg c3, if_neg c3]
theorem zpa {α : Type} (K : Wv → Int → Option α) (x : Hp) (w : Wd) (hs : okS w.1) (hd : w.2.1.1.length + w.2.1.2.length ≤ 60000) (hx : x.2.2.2.length < 4611686018427387904) :
  hapC K x (wvd w) = K (wvd (hapP w x).1) (hapP w x).2 := by
 unfold hapC hapP
 rw [zi, zy]
 by_cases c1 : x.1 < 1
 ·rw [if_pos c1, if_pos c1]
 rw [if_neg c1, if_neg c1]
 by_cases c2 : 9 < x.1
 ·rw [if_pos c2, if_pos c2]
 rw [if_neg c2, if_neg c2, ZK]
 have e8 : eqI x.1 8 = decide (x.1 = 8) := by by_cases h : x.1 = 8 <;> simp [eqI, h]
 rw [e8, show (wvd w).2.2.2.1 = w.2.2.1 from rfl]
 by_cases c3 : w.2.2.1 = decide (x.1 = 8)
 ·rw [if_pos c3, if_pos c3]
 rw [if_neg c3, if_neg c3, zf, zf, zf, zO, zf, zf, zf]
 by_cases k5 : x.1 = 5
 ·rw [if_pos k5, if_pos k5, k5]
  exact zrT K false _ w hd
 rw [if_neg k5, if_neg k5]
 by_cases k6 : x.1 = 6
 ·rw [if_pos k6, if_pos k6, k6]
  exact zrT K true _ w hd
 rw [if_neg k6, if_neg k6]
 by_cases k7 : x.1 = 7
 ·rw [if_pos k7, if_pos k7, zgU, z7, zdh, z7]
  rfl
 rw [if_neg k7, if_neg k7]
 by_cases k8 : x.1 = 8
 ·rw [if_pos k8, if_pos k8]
  unfold zdP
  simp only [wvd, wv]
  rw [z3L w.2.1 (by omega) (by omega), z7]
  simp only
  rw [zj]
  by_cases c4 : (zq w.2.1).2.2 = 0
  ·have hn := zfD w.2.1 c4
   have hok := zdO w.2.1
   rw [if_pos c4, if_pos c4, zcD _ (by omega) (fun r hr => z45 (hok r hr)), z7, zf]
   by_cases c5 : (zE (zq w.2.1).2.1).2 = 0
   ·rw [if_pos c5, if_pos c5, c5]; rfl
   ·rw [if_neg c5, if_neg c5]
  ·rw [if_neg c4, if_neg c4]
 rw [if_neg k8, if_neg k8]
 by_cases k1 : x.1 = 1
 ·rw [if_pos k1, if_pos k1, k1]
  exact zhw K false _ _ w hs hd hx
 rw [if_neg k1, if_neg k1]
 by_cases k9 : x.1 = 9
 ·rw [if_pos k9, if_pos k9, k9]
  exact zhw K true _ _ w hs hd hx
 rw [if_neg k9, if_neg k9]
 by_cases k4 : x.1 = 4
 ·rw [if_pos k4, if_pos k4]
  exact zhw K false _ _ w hs hd (by simp)
 rw [if_neg k4, if_neg k4]
 exact zhw K false _ _ w hs hd (by simp)
end Go.Proofs.Y
namespace Go.Proofs.Y
open Go.Rb Go.Kx
noncomputable def zdi : Code := zg Tryz.f47
noncomputable def zdj : FuncId → Option GS := tabG [(24, VY), (34, JC), (28, Jv), (46, zaP)]
theorem zn9 : ΓOK Tryz.prog zdj := z8 (VJ) (z8 (z0j) (z8 (z0i) (z8 (zfn) (ze))))
def zdk : HT := ⟨tabL [], tabH []⟩
abbrev z4z : List IT := [.v (.cons (.sl 95 (.cons (.sl 126 (.cons (.int .i64) (.cons (.int .i64) (.cons (.int .i64) (.one (.sl 4 (.one .bool))))))) (.one (.sl 73 (.cons (.int .i64) (.one (.int .i64))))))) (.cons (.sl 5 (.one (.int .u8))) (.cons (.sl 5 (.one (.int .u8))) (.cons (.bool) (.one (.sl 3 (.one (.int .i64)))))))) true, .v (.one (.int .i64)) false, .v (.one (.int .i64)) false, .v (.one (.int .i64)) false, .v (.one (.int .i64)) false]
abbrev zb0 : List OT := [⟨.one (.sl 73 (.cons (.int .i64) (.one (.int .i64)))), false, []⟩, ⟨.one (.int .i64), false, []⟩]
set_option maxRecDepth 100000
noncomputable def vC : List (List (Int × Int × Int × List Bool) × List (Int × Int)) × List Int × List Int × Bool × List Int → Int → Int → Int → Int → Option (List (Int × Int) × Int) := fun a b c d e => z6 (yd (a.1, a.2.1, a.2.2.1, a.2.2.2.1, a.2.2.2.2)) fun y => ifB (neI y 0) (some ([], y)) (ifB (ltI b 0) (some ([], 5)) (ifB (geI b (lenI a.2.2.2.2)) (some ([], 5)) (z6 (atI a.2.2.2.2 b) fun y => ifB (ltI y 0) (some ([], 7)) (z6 (ZO (a.2.1, a.2.2.1)) fun y => z6 (atI a.2.2.2.2 b) fun y_1 => ifB (in1 y.2.1 y_1) (z6 (y0 (YE y.2.1 y_1)) fun y => ifB (neI y.2 0) (some ([], y.2)) (z6 (VW y.1 c d e) fun y => some (y.1, y.2))) none))))
theorem zhx (x : PI z4z) : vC (x.1) (x.2.1) (x.2.2.1) (x.2.2.2.1) (x.2.2.2.2) = fnE T zdj zdk zdi (zo Tryz.f47) z4z zb0 x := by kernel_rfl
noncomputable abbrev zdl : GS := zp false z4z zb0 fun x => vC (x.1) (x.2.1) (x.2.2.1) (x.2.2.2.1) (x.2.2.2.2)
theorem zhy : GSOK Tryz.prog 47 zdl := zm tok zn9 fmo (Ht := zdk) (fn := Tryz.f47) (Tryz.func47) (c := zdi) (by kernel_rfl) (by kernel_rfl) (by kernel_rfl) (by decide +kernel) (by decide) zhx
end Go.Proofs.Y
namespace Go.Proofs.Y
open Go.Rb Go.Kx
theorem zdm {s : Shf} {l : List Rc} {up : Bool} {rd : List Int} (h : chkL s l up rd = 0) : (zE l).2 = 0 ∧ (zE l).1 = s ∧ rd.length = 3 ∧ rdE l.length up rd = 0 := by
 unfold chkL at h
 by_cases c1 : (zE l).2 = 0
 ·rw [if_pos c1] at h
  by_cases c2 : (zE l).1 = s
  ·rw [if_pos c2] at h
   by_cases c3 : rd.length = 3
   ·rw [if_pos c3] at h; exact ⟨c1, c2, c3, h⟩
   ·rw [if_neg c3] at h; cases h
  ·rw [if_neg c2] at h; cases h
 ·rw [if_neg c1] at h; exact absurd h c1
def okW (w : Wd) : Prop := chkS w.1 = 0 ∧ w.2.1.1.length + w.2.1.2.length ≤ 60000 ∧ w.2.2.2.length = 3
theorem VZ {d : List UInt8 × List UInt8} (h : (zq d).2.2 = 0) : zM d = 0 ∧ (zq d).1.1.length + (zq d).1.2.length ≤ 60000 := by
 unfold zq at h ⊢
 by_cases hc : zM d = 0
 ·have := Yz hc
  rw [if_pos hc]
  refine ⟨hc, ?_⟩
  simp only [List.length_append, List.length_nil, List.length_take]
  omega
 ·rw [if_neg hc] at h; exact absurd h hc
theorem V3 {w : Wd} (h : chkW w.1 w.2.1 w.2.2.1 w.2.2.2 = 0) : okW w ∧ (zq w.2.1).2.2 = 0 ∧ (w.2.2.1 = true → w.2.1.2 = [] ∧ (zE (zq w.2.1).2.1).2 = 0 ∧ (zE (zq w.2.1).2.1).1 = w.1) ∧ rdE (if w.2.2.1 = true then (zq w.2.1).2.1.length else 0) w.2.2.1 w.2.2.2 = 0 := by
 unfold chkW at h
 by_cases c1 : (zq w.2.1).2.2 = 0
 ·rw [if_pos c1] at h
  have hd := Yz (VZ c1).1
  by_cases c2 : w.2.2.1 = true
  ·rw [if_pos c2] at h
   by_cases c3 : 0 < w.2.1.2.length
   ·rw [if_pos c3] at h; cases h
   ·rw [if_neg c3] at h
    obtain ⟨k1, k2, k3, k4⟩ := zdm h
    exact ⟨⟨by rw [← k2]; exact (Va k1).2.1, hd, k3⟩, c1, fun _ => ⟨List.eq_nil_of_length_eq_zero (by omega), k1, k2⟩, by rw [if_pos c2]; exact k4⟩
  ·rw [if_neg c2] at h
   obtain ⟨k1, k2, k3, k4⟩ := zdm h
   exact ⟨⟨by rw [← k2]; exact (Va k1).2.1, hd, k3⟩, c1, fun h => absurd h c2, by rw [if_neg c2]; exact k4⟩
 ·rw [if_neg c1] at h; exact absurd h c1
theorem zvX (w : Wd) (x : Hp) (h1 : w.2.1.1.length < 4611686018427387904) (h2 : w.2.1.2.length < 4611686018427387904) (hrd : w.2.2.2.length < 4611686018427387904) (hx : x.2.2.2.length < 4611686018427387904) :
  z2F (wvd w) x = some (if chkW w.1 w.2.1 w.2.2.1 w.2.2.2 = 0 then (if (hapP w x).2 = 0 then (wvd (hapP w x).1, 0) else (zW, (hapP w x).2)) else (zW, chkW w.1 w.2.1 w.2.2.1 w.2.2.2)) := by
 rw [zuA, show yd (wvd w) = _ from z0Y _ _ _ _ h1 h2 hrd, z7, zj]
 by_cases hc : chkW w.1 w.2.1 w.2.2.1 w.2.2.2 = 0
 ·obtain ⟨⟨o1, o2, o3⟩, _⟩ := V3 hc
  rw [if_pos hc, if_pos hc, show yp (wvd w) = some (wvd w) from z6u _ _ _ _ o1 o2 o3, z7, zpa _ x w (J4 o1) o2 hx, zj]
  split <;> rfl
 ·rw [if_neg hc, if_neg hc]
theorem zhz {w : Wd} {t : Bool} {n : Int} {r : Rc} (h : okW w) (he : (wrP w t n r).2 = 0) : okW (wrP w t n r).1 := by
 unfold wrP at he ⊢
 by_cases c1 : (ZN w.1 r).2 = 0
 ·rw [if_pos c1] at he ⊢
  by_cases c2 : (dPut w.2.1 r).2 = 0
  ·have hl := zfE c2
   rw [if_pos c2] at he ⊢
   cases t with
   | true =>
    rw [if_pos rfl] at he ⊢
    generalize hz : vB (dPut w.2.1 r).1 (max 0 (min n ((dPut w.2.1 r).1.2.length : Int))) = z at *
    by_cases c3 : z.2 = 0
    ·rw [if_pos c3]
     refine ⟨z3v, ?_, rfl⟩
     subst hz
     unfold vB at c3 ⊢
     by_cases q : zM (dPut w.2.1 r).1 = 0
     ·rw [if_pos q] at c3 ⊢
      split at c3
      ·cases c3
      ·rename_i q2; rw [if_neg q2]; simp only [List.length_take]; omega
     ·rw [if_neg q] at c3; exact absurd c3 q
    ·rw [if_neg c3] at he; exact absurd he c3
   | false =>
    rw [if_neg (by decide)] at he ⊢
    generalize hz : vJ (dPut w.2.1 r).1 = z at *
    by_cases c3 : z.2 = 0
    ·rw [if_pos c3]
     refine ⟨(z6j c1).2.2.2, ?_, h.2.2⟩
     subst hz
     unfold vJ at c3 ⊢
     by_cases q : zM (dPut w.2.1 r).1 = 0
     ·rw [if_pos q] at c3 ⊢
      split at c3
      ·rename_i q2; rw [if_pos q2]; simp only [List.length_append, List.length_nil]; omega
      ·rename_i q2; exact absurd c3 q2
     ·rw [if_neg q] at c3; exact absurd c3 q
    ·rw [if_neg c3] at he; exact absurd he c3
  ·rw [if_neg c2] at he; exact absurd he c2
 ·rw [if_neg c1] at he; exact absurd he c1
theorem zrU {w : Wd} {t : Bool} {n : Int} (h : okW w) : okW (opP w t n).1 := by
 unfold opP
 split
 ·exact h
 ·split
  ·exact h
  ·split
   ·exact ⟨h.1, h.2.1, by simp only [List.length_set]; exact h.2.2⟩
   ·split
    ·exact ⟨h.1, h.2.1, by simp only [List.length_set]; exact h.2.2⟩
    ·exact h
theorem zuB {w : Wd} {x : Hp} (h : okW w) (he : (hapP w x).2 = 0) : okW (hapP w x).1 := by
 unfold hapP at he ⊢
 by_cases c1 : x.1 < 1
 ·rw [if_pos c1]; exact h
 rw [if_neg c1] at he ⊢
 by_cases c2 : 9 < x.1
 ·rw [if_pos c2]; exact h
 rw [if_neg c2] at he ⊢
 by_cases c3 : w.2.2.1 = decide (x.1 = 8)
 ·rw [if_pos c3]; exact h
 rw [if_neg c3] at he ⊢
 by_cases k5 : x.1 = 5
 ·rw [if_pos k5]; exact zrU h
 rw [if_neg k5] at he ⊢
 by_cases k6 : x.1 = 6
 ·rw [if_pos k6]; exact zrU h
 rw [if_neg k6] at he ⊢
 by_cases k7 : x.1 = 7
 ·rw [if_pos k7]; exact ⟨z3v, h.2.1, rfl⟩
 rw [if_neg k7] at he ⊢
 by_cases k8 : x.1 = 8
 ·rw [if_pos k8] at he ⊢
  unfold zdP at he ⊢
  by_cases c4 : (zq w.2.1).2.2 = 0
  ·rw [if_pos c4] at he ⊢
   by_cases c5 : (zE (zq w.2.1).2.1).2 = 0
   ·rw [if_pos c5]; exact ⟨(Va c5).2.1, (VZ c4).2, h.2.2⟩
   ·rw [if_neg c5]; exact h
  ·rw [if_neg c4]; exact h
 rw [if_neg k8] at he ⊢
 by_cases k1 : x.1 = 1
 ·rw [if_pos k1] at he ⊢; exact zhz h he
 rw [if_neg k1] at he ⊢
 by_cases k9 : x.1 = 9
 ·rw [if_pos k9] at he ⊢; exact zhz h he
 rw [if_neg k9] at he ⊢
 by_cases k4 : x.1 = 4
 ·rw [if_pos k4] at he ⊢; exact zhz h he
 rw [if_neg k4] at he ⊢
 exact zhz h he
def runP : List Hp → Wd → List Int → Wd × List Int
 | [], w, said => (w, said)
 | x :: l, w, said => runP l (if (hapP w x).2 = 0 then (hapP w x).1 else w) (said ++ [(hapP w x).2])
theorem zrV (w : Wd) (l : List Hp) (h1 : w.2.1.1.length < 4611686018427387904) (h2 : w.2.1.2.length < 4611686018427387904) (hrd : w.2.2.2.length < 4611686018427387904) (hx : ∀ x ∈ l, x.2.2.2.length < 4611686018427387904) :
  vq (wvd w) l = some (if chkW w.1 w.2.1 w.2.2.1 w.2.2.2 = 0 then (if 100 < l.length then (zW, [], 2) else (wvd (runP l w []).1, (runP l w []).2, 0)) else (zW, [], chkW w.1 w.2.1 w.2.2.1 w.2.2.2)) := by
 rw [ztp, show yd (wvd w) = _ from z0Y _ _ _ _ h1 h2 hrd, z7, zj]
 by_cases hc : chkW w.1 w.2.1 w.2.2.1 w.2.2.2 = 0
 ·obtain ⟨ho, _⟩ := V3 hc
  rw [if_pos hc, if_pos hc, zy, zb]
  by_cases hl : 100 < l.length
  ·rw [if_pos (by omega), if_pos hl]
  rw [if_neg (by omega), if_neg hl, show yp (wvd w) = some (wvd w) from z6u _ _ _ _ ho.1 ho.2.1 ho.2.2, z7]
  refine zQ l (fun j (s : Wd × List Int) => ((j : Int), (wvd s.1).1, (wvd s.1).2.1, (wvd s.1).2.2.1, (wvd s.1).2.2.2.1, (wvd s.1).2.2.2.2, s.2)) (G := fun rest s => some (wvd (runP rest s.1 s.2).1, (runP rest s.1 s.2).2, 0)) (P := fun j s => okW s.1 ∧ s.2.length = j) (s0 := (w, [])) ?_ ?_ ⟨ho, rfl⟩ (by omega)
  ·rintro j ⟨v, said⟩ hj ⟨hv, hs⟩ k hk
   have hat := zN hj
   have hm : l.getD j default ∈ l := by simp only [List.getD, List.getElem?_eq_getElem hj, Option.getD_some]; exact List.getElem_mem hj
   have hxx := hx _ hm
   generalize l.getD j default = x at *
   simp only at hv hs ⊢
   rw [za, zx, zi, if_pos (by omega), hat, z7, zx, show yp ((wvd v).1, (wvd v).2.1, (wvd v).2.2.1, (wvd v).2.2.2.1, (wvd v).2.2.2.2) = some (wvd v) from z6u _ _ _ _ hv.1 hv.2.1 hv.2.2, z7, zpa _ x v (J4 hv.1) hv.2.1 hxx, runP, za, zf]
   by_cases he : (hapP v x).2 = 0
   ·rw [if_pos he, if_pos he, za, zz, if_pos (by simp; omega), zu, zF (by omega), zY]
    exact hk ((hapP v x).1, said ++ [(hapP v x).2]) ⟨zuB hv he, by simp; omega⟩
   ·rw [if_neg he, if_neg he, za, zz, if_pos (by simp; omega), zu, zF (by omega), zY]
    exact hk (v, said ++ [(hapP v x).2]) ⟨hv, by simp; omega⟩
  ·rintro ⟨v, said⟩ ⟨hv, hs⟩ k
   rw [za, zd, zi, if_neg (by simp only; omega)]
   rfl
 ·rw [if_neg hc, if_neg hc]
def zdQ (w : Wd) (k i a b : Int) : List Pt × Int :=
 if chkW w.1 w.2.1 w.2.2.1 w.2.2.2 = 0 then (if k < 0 then ([], 5) else if (w.2.2.2.length : Int) ≤ k then ([], 5) else if w.2.2.2.getD k.toNat default < 0 then ([], 7) else
  if (zE ((zq w.2.1).2.1.take (w.2.2.2.getD k.toNat default).toNat)).2 = 0 then
   (if (allS (zE ((zq w.2.1).2.1.take (w.2.2.2.getD k.toNat default).toNat)).1 i).2 = 0 then (z41 (allS (zE ((zq w.2.1).2.1.take (w.2.2.2.getD k.toNat default).toNat)).1 i).1 a b, 0) else ([], (allS (zE ((zq w.2.1).2.1.take (w.2.2.2.getD k.toNat default).toNat)).1 i).2))
   else ([], (zE ((zq w.2.1).2.1.take (w.2.2.2.getD k.toNat default).toNat)).2)) else ([], chkW w.1 w.2.1 w.2.2.1 w.2.2.2)
theorem z9o {n : Int} {up : Bool} : ∀ {rd : List Int}, rdE n up rd = 0 → ∀ v ∈ rd, -1 ≤ v ∧ v ≤ n ∧ (up = false → v = -1)
 | [], _, v, hv => by cases hv
 | u :: r, h, v, hv => by
  rw [rdE] at h
  by_cases c : u < -1 ∨ n < u ∨ (up = false ∧ ¬ u = -1)
  ·rw [if_pos c] at h; cases h
  ·rw [if_neg c] at h
   rcases List.mem_cons.1 hv with rfl | hv
   ·exact ⟨by omega, by omega, fun hu => Classical.byContradiction fun h2 => c (.inr (.inr ⟨hu, h2⟩))⟩
   ·exact z9o h v hv
theorem zfF (w : Wd) (k i a b : Int) (h1 : w.2.1.1.length < 4611686018427387904) (h2 : w.2.1.2.length < 4611686018427387904) (hrd : w.2.2.2.length < 4611686018427387904) : vC (wvd w) k i a b = some (zdQ w k i a b) := by
 unfold vC zdQ
 rw [show yd ((wvd w).1, (wvd w).2.1, (wvd w).2.2.1, (wvd w).2.2.2.1, (wvd w).2.2.2.2) = _ from z0Y w.1 w.2.1 w.2.2.1 w.2.2.2 h1 h2 hrd, z7, zj]
 by_cases hc : chkW w.1 w.2.1 w.2.2.1 w.2.2.2 = 0
 ·obtain ⟨⟨o1, o2, o3⟩, o4, o5, o6⟩ := V3 hc
  rw [if_pos hc, if_pos hc]
  simp only [wvd, wv]
  rw [zi, zP, zb]
  by_cases c1 : k < 0
  ·rw [if_pos c1, if_pos c1]
  rw [if_neg c1, if_neg c1]
  by_cases c2 : (w.2.2.2.length : Int) ≤ k
  ·rw [if_pos c2, if_pos c2]
  rw [if_neg c2, if_neg c2]
  have hat : atI w.2.2.2 k = some (w.2.2.2.getD k.toNat default) := zoV (by omega) (by omega)
  have hm : w.2.2.2.getD k.toNat default ∈ w.2.2.2 := by simp only [List.getD, List.getElem?_eq_getElem (show k.toNat < w.2.2.2.length by omega), Option.getD_some]; exact List.getElem_mem _
  have hg := z9o o6 _ hm
  have hrec := zdO w.2.1
  have hrl := zfD w.2.1 o4
  rw [hat, z7]
  generalize w.2.2.2.getD k.toNat default = v at *
  rw [zi]
  by_cases c3 : v < 0
  ·rw [if_pos c3, if_pos c3]
  rw [if_neg c3, if_neg c3, z3L w.2.1 (by omega) (by omega), z7]
  have hup : w.2.2.1 = true := by
   cases hu : w.2.2.1 with
   | true => rfl
   | false => have := hg.2.2 hu; omega
  have hv2 := hg.2.1
  rw [if_pos hup] at hv2
  rw [z7, zI, if_pos ⟨by omega, hv2⟩, zU, zcD _ (by rw [List.length_take]; omega) (fun r hr => z45 (hrec r (List.mem_of_mem_take hr))), z7, zj]
  by_cases c4 : (zE ((zq w.2.1).2.1.take v.toNat)).2 = 0
  ·rw [if_pos c4, if_pos c4, zt1 _ _ _ _ (z8l _), z7]
  ·rw [if_neg c4, if_neg c4]
 ·rw [if_neg hc, if_neg hc]
end Go.Proofs.Y
namespace Go.Proofs.Y
open Go.Rb Go.Kx
noncomputable def JX : Code := zg Tryz.f65
noncomputable def JY : FuncId → Option GS := tabG []
theorem z6S : ΓOK Tryz.prog JY := ze
def JZ : HT := ⟨tabL [], tabH []⟩
abbrev vD : List IT := [.v (.one (.int .i64)) false]
abbrev J7 : List OT := [⟨.cons (.int .i64) (.cons (.int .i64) (.cons (.int .i64) (.one (.sl 77 (.cons (.int .i64) (.cons (.int .i64) (.one (.int .i64)))))))), true, []⟩]
set_option maxRecDepth 100000
noncomputable def Zk : Int → Option (Int × Int × Int × List (Int × Int × Int)) := fun a => some (1, 0, 0, [(1, a, wmul .i64 2 a)])
theorem z4A (x : PI vD) : Zk x = fnE T JY JZ JX (zo Tryz.f65) vD J7 x := by kernel_rfl
noncomputable abbrev z00 : GS := zp false vD J7 fun x => Zk x
theorem z4B : GSOK Tryz.prog 65 z00 := zm tok z6S fmo (Ht := JZ) (fn := Tryz.f65) (Tryz.func65) (c := JX) (by kernel_rfl) (by kernel_rfl) (by kernel_rfl) (by decide +kernel) (by decide) z4A
end Go.Proofs.Y
namespace Go.Proofs.Y
open Go.Rb Go.Kx
noncomputable def zjW : Code := zg Tryz.f22
noncomputable def zjX : FuncId → Option GS := tabG []
theorem zrW : ΓOK Tryz.prog zjX := ze
def zjY : HT := ⟨tabL [(4, .it [] (dyn [.t 13 (.int .i64)]))], tabH []⟩
abbrev zaa : List IT := [.v (.one (.sl 33 (.one (.int .i64)))) false, .v (.one (.sl 33 (.one (.int .i64)))) false]
abbrev zhA : List OT := [⟨.one .bool, false, []⟩]
set_option maxRecDepth 100000
noncomputable def z1y : List Int → List Int → Option Bool := fun a b => ifB (neI (lenI a) (lenI b)) (some false) (zk maxR (fun (x : Int) => ifB (ltI x (lenI a)) (z6 (atI a x) fun y => z6 (atI b x) fun y_1 => ifB (neI y y_1) (mapO Sum.inr (some false)) (some (Sum.inl (wadd .i64 x 1)))) (mapO Sum.inr (some true))) 0)
theorem zna (x : PI zaa) : z1y (x.1) (x.2) = fnE T zjX zjY zjW (zo Tryz.f22) zaa zhA x := by kernel_rfl
noncomputable abbrev zjZ : GS := zp false zaa zhA fun x => z1y (x.1) (x.2)
theorem znb : GSOK Tryz.prog 22 zjZ := zm tok zrW fmo (Ht := zjY) (fn := Tryz.f22) (Tryz.func22) (c := zjW) (by kernel_rfl) (by kernel_rfl) (by kernel_rfl) (by decide +kernel) (by decide) zna
end Go.Proofs.Y
namespace Go.Proofs.Y
open Go.Rb Go.Kx
noncomputable def z1z : Code := zg Tryz.f19
noncomputable def z1A : FuncId → Option GS := tabG [(65, z00), (26, z8p), (17, zf1), (47, zdl), (48, z8f), (22, zjZ), (44, z9W)]
theorem z9p : ΓOK Tryz.prog z1A := z8 (z4B) (z8 (z9n) (z8 (zir) (z8 (zhy) (z8 (z98) (z8 (znb) (z8 (z8e) (ze)))))))
def z1B : HT := ⟨tabL [], tabH []⟩
abbrev Vb : List IT := []
abbrev z0H : List OT := [⟨.one .bool, false, []⟩]
set_option maxRecDepth 100000
noncomputable def Yi : Option Bool :=  z6 jc fun y => z6 (Zk 5) fun y_1 => z6 (Zk 6) fun y_2 => z6 (Zk 6) fun y_3 => z6 (vq (y.1, y.2.1, y.2.2.1, y.2.2.2.1, y.2.2.2.2) [(y_1.1, y_1.2.1, y_1.2.2.1, y_1.2.2.2), (5, 0, 2, []), (y_2.1, y_2.2.1, y_2.2.2.1, y_2.2.2.2), (y_3.1, y_3.2.1, y_3.2.2.1, y_3.2.2.2), (2, 1, 2, []), (4, 0, 9, [])]) fun y => z6 (vC (y.1.1, y.1.2.1, y.1.2.2.1, y.1.2.2.2.1, y.1.2.2.2.2) 2 1 0 100) fun y_4 => z6 (vC (y.1.1, y.1.2.1, y.1.2.2.1, y.1.2.2.2.1, y.1.2.2.2.2) 1 1 0 100) fun y_5 => z6 (ja y.1.1 1) fun y_6 => z6 (Zk 7) fun y_7 => z6 (vq (y.1.1, y.1.2.1, y.1.2.2.1, y.1.2.2.2.1, y.1.2.2.2.2) [(7, 0, 0, []), (y_7.1, y_7.2.1, y_7.2.2.1, y_7.2.2.2), (8, 0, 0, [])]) fun y_8 => z6 (vC (y_8.1.1, y_8.1.2.1, y_8.1.2.2.1, y_8.1.2.2.2.1, y_8.1.2.2.2.2) 2 1 0 100) fun y_9 => ifB (eqI y.2.2 0) (ifB (eqI y_4.2 0) (ifB (eqI y_5.2 7) (ifB (eqI y_6.2 0) (ifB (eqI y_8.2.2 0) (ifB (eqI y_9.2 7) (z6 (z1y y.2.1 [0, 0, 0, 7, 0, 0]) fun y => ifB y (z6 (z1y y_8.2.1 [0, 7, 0]) fun y => ifB y (z6 (z3m y_4.1 [(5, 10)]) fun y => ifB y (ifB (eqI (lenI y_6.1) 0) (some y_8.1.2.2.2.1) (some false)) (some false)) (some false)) (some false)) (some false)) (some false)) (some false)) (some false)) (some false)) (some false)
theorem z6w (x : PI Vb) : Yi  = fnE T z1A z1B z1z (zo Tryz.f19) Vb z0H x := by kernel_rfl
noncomputable abbrev z1C : GS := zp false Vb z0H fun x => Yi 
theorem z6x : GSOK Tryz.prog 19 z1C := zm tok z9p fmo (Ht := z1B) (fn := Tryz.f19) (Tryz.func19) (c := z1z) (by kernel_rfl) (by kernel_rfl) (by kernel_rfl) (by decide +kernel) (by decide) z6w
end Go.Proofs.Y
namespace Go.Proofs.Y
open Go.Rb Go.Kx
set_option maxRecDepth 100000
end Go.Proofs.Y
namespace Go.Proofs.Y
open Go.Rb Go.Kx
end Go.Proofs.Y
namespace Go.Proofs.Y
open Go.Rb Go.Kx
end Go.Proofs.Y
namespace Go.Proofs.Y
open Go.Rb Go.Kx
set_option maxRecDepth 100000
end Go.Proofs.Y
namespace Go.Proofs.Y
open Go.Rb Go.Kx
theorem Zb {α β : Type} {o : Option α} {a : α} (h : o = some a) (f : α → Option β) : z6 o f = f a := by rw [h]; rfl
theorem zhB (s t : List Int) (h : s.length < 4611686018427387904) : z1y s t = some (decide (s = t)) := by
 unfold z1y
 have := z3Z (fun x y : Int => !(neI x y)) (fun x y => by by_cases h : x = y <;> simp [neI, h]) s t h
 simp only [notB, Bool.not_not] at this
 exact this
def w0 : Wd := (yG, ([], []), true, [-1, -1, -1])
def l1 : List Hp := [(1, 0, 0, [(1, 5, 10)]), (5, 0, 2, []), (1, 0, 0, [(1, 6, 12)]), (1, 0, 0, [(1, 6, 12)]), (2, 1, 2, []), (4, 0, 9, [])]
def wA : Wd := (runP l1 w0 []).1
def l2 : List Hp := [(7, 0, 0, []), (1, 0, 0, [(1, 7, 14)]), (8, 0, 0, [])]
def wB : Wd := (runP l2 wA []).1
theorem zk0 : jc = some (wvd w0) := by
 unfold jc
 rw [zgU, z7, zdh, z7]; rfl
theorem chk0 : chkW w0.1 w0.2.1 w0.2.2.1 w0.2.2.2 = 0 := by decide +kernel
theorem zvY : (runP l1 w0 []).2 = [0, 0, 0, 7, 0, 0] := by decide +kernel
theorem chkA : chkW wA.1 wA.2.1 wA.2.2.1 wA.2.2.2 = 0 := by decide +kernel
theorem zvZ : (runP l2 wA []).2 = [0, 7, 0] := by decide +kernel
theorem chkB : chkW wB.1 wB.2.1 wB.2.2.1 wB.2.2.2 = 0 := by decide +kernel
theorem upB : wB.2.2.1 = true := by decide +kernel
theorem rd1 : (zdQ wA 2 1 0 100).2 = 0 ∧ (zdQ wA 2 1 0 100).1 = [(5, 10)] := by decide +kernel
theorem rd2 : (zdQ wA 1 1 0 100).2 = 7 := by decide +kernel
theorem rd3 : (zdQ wB 2 1 0 100).2 = 7 := by decide +kernel
theorem all1 : (allS wA.1 1).2 = 0 ∧ (allS wA.1 1).1.length = 0 := by decide +kernel
theorem run1 : vq (wvd w0) l1 = some (wvd wA, [0, 0, 0, 7, 0, 0], 0) := by
 rw [zrV w0 l1 (by decide) (by decide) (by decide) (by decide), if_pos chk0, if_neg (by decide), zvY]; rfl
theorem run2 : vq (wvd wA) l2 = some (wvd wB, [0, 7, 0], 0) := by
 obtain ⟨⟨_, o2, o3⟩, _⟩ := V3 chkA
 rw [zrV wA l2 (by omega) (by omega) (by omega) (by decide), if_pos chkA, if_neg (by decide), zvZ]; rfl
theorem zqk : Yi = some true := by
 obtain ⟨⟨a1, a2, a3⟩, _⟩ := V3 chkA
 obtain ⟨⟨b1, b2, b3⟩, _⟩ := V3 chkB
 unfold Yi
 refine (Zb zk0 _).trans ?_
 refine (Zb (show Zk 5 = some (1, 0, 0, [(1, 5, 10)]) from rfl) _).trans ?_
 refine (Zb (show Zk 6 = some (1, 0, 0, [(1, 6, 12)]) from rfl) _).trans ?_
 refine (Zb (show Zk 6 = some (1, 0, 0, [(1, 6, 12)]) from rfl) _).trans ?_
 refine (Zb run1 _).trans ?_
 refine (Zb (zfF wA 2 1 0 100 (by omega) (by omega) (by omega)) _).trans ?_
 refine (Zb (zfF wA 1 1 0 100 (by omega) (by omega) (by omega)) _).trans ?_
 refine (Zb (zp4 wA.1 1 (J4 a1)) _).trans ?_
 refine (Zb (show Zk 7 = some (1, 0, 0, [(1, 7, 14)]) from rfl) _).trans ?_
 refine (Zb run2 _).trans ?_
 refine (Zb (zfF wB 2 1 0 100 (by omega) (by omega) (by omega)) _).trans ?_
 simp only [rd1.1, rd1.2, rd2, rd3, all1.1, all1.2, zb, zf, if_true]
 rw [zhB _ _ (by decide), z7, zhB _ _ (by decide), z7, zcx (by decide), z7]
 simp only [decide_true, Z0]
 show some wB.2.2.1 = some true
 rw [upB]
end Go.Proofs.Y
namespace Go.Proofs.Y
open Go.Rb Go.Kx
set_option maxRecDepth 100000
end Go.Proofs.Y
namespace Go.Proofs.Y
open Go.Rb Go.Kx
end Go.Proofs.Y
namespace Go.Proofs.Y
open Go.Rb Go.Kx
theorem zfG (most all : Int) : ∀ (ws : List (List UInt8)) (acc : List Rc), (acc.length : Int) ≤ most → ((lnW most all ws acc).1.length : Int) ≤ most
 | [], acc, h => h
 | w :: ws, acc, h => by
  rw [lnW]
  split
  ·split
   ·exact h
   ·exact h
  ·split
   ·split
    ·exact h
    ·exact zfG most all ws _ (by simp only [List.length_append, List.length_cons, List.length_nil]; omega)
   ·exact h
theorem znc (s : List UInt8) : (lnP 60 s).1.length ≤ 60 := by
 have := zfG 60 s.length (sp 10 s) [] (by simp)
 unfold lnP
 omega
end Go.Proofs.Y
namespace Go.Proofs.Y
open Go.Rb Go.Kx
set_option maxRecDepth 100000
end Go.Proofs.Y
namespace Go.Proofs.Y
open Go.Rb Go.Kx
set_option maxRecDepth 100000
end Go.Proofs.Y
namespace Go.Proofs.Y
open Go.Rb Go.Kx
end Go.Proofs.Y
namespace Go.Proofs.Y
open Go.Rb Go.Kx
set_option maxRecDepth 100000
end Go.Proofs.Y
namespace Go.Proofs.Y
open Go.Rb Go.Kx
theorem znd {s : Shf} {r : Rc} {l : List Rc} (h : (yc s (r :: l)).2 = 0) : (ZN s r).2 = 0 ∧ yc (ZN s r).1 l = yc s (r :: l) := by
 rw [yc] at h ⊢
 by_cases hn : (ZN s r).2 = 0
 ·rw [if_pos hn]; exact ⟨hn, rfl⟩
 ·rw [if_neg hn] at h; exact absurd h hn
theorem zk1 : ∀ {l : List Rc}, (∀ r ∈ l, zA r = 0) → (zD l).length ≤ 701 * l.length
 | [], _ => by simp [zD]
 | r :: l, h => by
  have h1 := zk1 fun q hq => h q (List.mem_cons_of_mem r hq)
  have h2 := z44 (h r (by simp))
  have e : (zD (r :: l)).length = (yx r).length + 1 + (zD l).length := by simp [zD, Yy]; omega
  rw [e, List.length_cons]; omega
end Go.Proofs.Y
namespace Go.Proofs.Y
open Go.Rb Go.Kx
set_option maxRecDepth 100000
end Go.Proofs.Y
namespace Go.Proofs.Y
open Go.Rb Go.Kx
theorem z3M {s w : List UInt8} (h : zM (s, w) = 0) : (lnP 60 s).2.2 = 0 := by
 unfold zM at h
 split at h
 ·cases h
 ·split at h
  ·cases h
  ·exact h
theorem zoh {s w v : List UInt8} (h : zM (s, w) = 0) (hl : v.length ≤ w.length) : zM (s, v) = 0 := by
 have h1 := Yz h
 have h2 := z3M h
 unfold zM
 rw [if_neg (by simp only at h1 ⊢; omega), if_neg (by simp only at h1 ⊢; omega)]
 exact h2
theorem zql {L : List Rc} {r : Rc} (h : (zE L).2 = 0) (hn : L.length < 60) (hr : (ZN (zE L).1 r).2 = 0) : (zE (L ++ [r])).2 = 0 ∧ (zE (L ++ [r])).1 = (ZN (zE L).1 r).1 := by
 have e1 : zE L = yc yG L := by unfold zE; rw [if_neg (by omega)]
 have e2 : zE (L ++ [r]) = yc yG (L ++ [r]) := by unfold zE; rw [if_neg (by simp; omega)]
 have key : ∀ (L : List Rc) (s : Shf), (yc s L).2 = 0 → yc s (L ++ [r]) = yc (yc s L).1 [r] := by
  intro L
  induction L with
  | nil => intro s _; rfl
  | cons q L ih =>
   intro s hs
   obtain ⟨q1, q2⟩ := znd hs
   rw [List.cons_append, yc, if_pos q1, ih _ (by rw [q2]; exact hs), q2]
 rw [e1] at h hr ⊢
 rw [e2, key L yG h, yc, if_pos hr]
 exact ⟨rfl, rfl⟩
end Go.Proofs.Y
namespace Go.Proofs.Y
open Go.Rb Go.Kx
theorem zis {d : List UInt8 × List UInt8} {r : Rc} (h : (dPut d r).2 = 0) : zA r = 0 ∧ (dPut d r).1 = (d.1, d.2 ++ Yy r) := by
 unfold dPut at h ⊢
 by_cases c1 : zM d = 0
 ·rw [if_pos c1] at h ⊢
  by_cases c2 : zA r = 0
  ·rw [if_pos c2] at h ⊢
   split at h
   ·cases h
   ·rename_i c3; rw [if_neg c3]; exact ⟨c2, rfl⟩
  ·rw [if_neg c2] at h; exact absurd h c2
 ·rw [if_neg c1] at h; exact absurd h c1
theorem zrX {d : List UInt8 × List UInt8} {n : Int} (h : (vB d n).2 = 0) : zM d = 0 ∧ (vB d n).1 = (d.1, d.2.take n.toNat) := by
 unfold vB at h ⊢
 by_cases c1 : zM d = 0
 ·rw [if_pos c1] at h ⊢
  split at h
  ·cases h
  ·rename_i c3; rw [if_neg c3]; exact ⟨c1, rfl⟩
 ·rw [if_neg c1] at h; exact absurd h c1
end Go.Proofs.Y
namespace Go.Proofs.Y
open Go.Rb Go.Kx
noncomputable abbrev zhC : GS := .r (libS [.v (.one .str) false, .v (.one (.int .i64)) false, .v (.one (.int .i64)) false] (fun x => z1U (x.1) (x.2.1) (x.2.2)) gErr)
theorem zkx : GSOK Tryz.prog 156 zhC := zt8
end Go.Proofs.Y
namespace Go.Proofs.Y
open Go.Rb Go.Kx
noncomputable abbrev zne : GS := .r (libS [.v (.one (.int .i64)) false, .v (.one (.int .i64)) false] (fun x => fmtO (x.1) (x.2)) gStr)
theorem zoi : GSOK Tryz.prog 157 zne := zvj
end Go.Proofs.Y
namespace Go.Proofs.Y
open Go.Rb Go.Kx
noncomputable def z1D : Code := zg Tryz.f129
noncomputable def z1E : FuncId → Option GS := tabG [(122, zqc), (156, zhC), (157, zne), (103, Y5)]
theorem z9q : ΓOK Tryz.prog z1E := z8 (zmE) (z8 (zkx) (z8 (zoi) (z8 (Yl) (ze))))
def z1F : HT := ⟨tabL [(3, .it [] (dyn [.t 5 (.str), .t 6 (.bool), .a 7 3 (.one (.int .i64)), .c 2 0 (.int .i64), .c 2 1 (.int .i64), .c 2 2 (.int .i64), .c 2 3 (.sl 77 (.cons (.int .i64) (.cons (.int .i64) (.one (.int .i64)))))])), (14, .it [] (dyn [.t 7 (.sl 3 (.one (.int .i64))), .b 11 3 77 (.cons (.int .i64) (.cons (.int .i64) (.one (.int .i64))))]))], tabH [(12, [.frz 7])]⟩
abbrev Vc : List IT := [.v (.one .str) false]
abbrev z0I : List OT := [⟨.cons (.int .i64) (.cons (.int .i64) (.cons (.int .i64) (.one (.sl 77 (.cons (.int .i64) (.cons (.int .i64) (.one (.int .i64)))))))), true, []⟩, ⟨.one (.int .i64), false, []⟩]
set_option maxRecDepth 100000
noncomputable def Yj : List UInt8 → Option ((Int × Int × Int × List (Int × Int × Int)) × Int) := fun a => z6 (cutO a [32]) fun y => zk maxR (fun (x : List UInt8 × Bool × Int × Int × Int × List (Int × Int × Int) × List Int) => ifB x.2.1 (z6 (cutO x.1 [32]) fun y => z6 (z1U y.1 10 64) fun y_1 => ifB y_1.2 (mapO Sum.inr (some ((0, 0, 0, []), 1))) (z6 (fmtO y_1.1 10) fun y_2 => ifB (notB (eqS y_2 y.1)) (mapO Sum.inr (some ((0, 0, 0, []), 1))) (ifB (zh 8 x.2.2.2.2.2.2 [y_1.1]) (some (Sum.inl (y.2.1, y.2.2, x.2.2.1, x.2.2.2.1, x.2.2.2.2.1, x.2.2.2.2.2.1, cat x.2.2.2.2.2.2 [y_1.1]))) none))) (mapO Sum.inr (ifB (eqS y.1 [98, 97, 116, 99, 104]) (ifB (eqI (wrem (lenI x.2.2.2.2.2.2) 3) 0) (zk maxR (fun (x : List Int × List (Int × Int × Int)) => ifB (gtI (lenI x.1) 0) (z6 (atI x.1 0) fun y => z6 (atI x.1 1) fun y_1 => z6 (atI x.1 2) fun y_2 => ifB (zh 24 x.2 [(y, y_1, y_2)]) (ifB (in1 x.1 3) (some (Sum.inl (yF x.1 3, cat x.2 [(y, y_1, y_2)]))) none) none) (mapO Sum.inr (z6 (zn (1, 0, 0, x.2)) fun y => ifB (neI y 0) (some ((0, 0, 0, []), y)) (some ((1, 0, 0, x.2), 0))))) (x.2.2.2.2.2.2, [])) (ifB (eqS y.1 [115, 101, 97, 108]) (ifB (eqI (lenI x.2.2.2.2.2.2) 2) (z6 (atI x.2.2.2.2.2.2 0) fun y => z6 (atI x.2.2.2.2.2.2 1) fun y_1 => z6 (zn (2, y, y_1, [])) fun y_2 => ifB (neI y_2 0) (some ((0, 0, 0, []), y_2)) (some ((2, y, y_1, []), 0))) (ifB (eqS y.1 [109, 101, 114, 103, 101]) (ifB (eqI (lenI x.2.2.2.2.2.2) 2) (z6 (atI x.2.2.2.2.2.2 0) fun y => z6 (atI x.2.2.2.2.2.2 1) fun y_1 => z6 (zn (3, y, y_1, [])) fun y_2 => ifB (neI y_2 0) (some ((0, 0, 0, []), y_2)) (some ((3, y, y_1, []), 0))) (ifB (eqS y.1 [100, 114, 111, 112]) (ifB (eqI (lenI x.2.2.2.2.2.2) 1) (z6 (atI x.2.2.2.2.2.2 0) fun y => z6 (zn (4, 0, y, [])) fun y_1 => ifB (neI y_1 0) (some ((0, 0, 0, []), y_1)) (some ((4, 0, y, []), 0))) (some ((0, 0, 0, []), 1))) (some ((0, 0, 0, []), 1)))) (ifB (eqS y.1 [100, 114, 111, 112]) (ifB (eqI (lenI x.2.2.2.2.2.2) 1) (z6 (atI x.2.2.2.2.2.2 0) fun y => z6 (zn (4, 0, y, [])) fun y_1 => ifB (neI y_1 0) (some ((0, 0, 0, []), y_1)) (some ((4, 0, y, []), 0))) (some ((0, 0, 0, []), 1))) (some ((0, 0, 0, []), 1))))) (ifB (eqS y.1 [109, 101, 114, 103, 101]) (ifB (eqI (lenI x.2.2.2.2.2.2) 2) (z6 (atI x.2.2.2.2.2.2 0) fun y => z6 (atI x.2.2.2.2.2.2 1) fun y_1 => z6 (zn (3, y, y_1, [])) fun y_2 => ifB (neI y_2 0) (some ((0, 0, 0, []), y_2)) (some ((3, y, y_1, []), 0))) (ifB (eqS y.1 [100, 114, 111, 112]) (ifB (eqI (lenI x.2.2.2.2.2.2) 1) (z6 (atI x.2.2.2.2.2.2 0) fun y => z6 (zn (4, 0, y, [])) fun y_1 => ifB (neI y_1 0) (some ((0, 0, 0, []), y_1)) (some ((4, 0, y, []), 0))) (some ((0, 0, 0, []), 1))) (some ((0, 0, 0, []), 1)))) (ifB (eqS y.1 [100, 114, 111, 112]) (ifB (eqI (lenI x.2.2.2.2.2.2) 1) (z6 (atI x.2.2.2.2.2.2 0) fun y => z6 (zn (4, 0, y, [])) fun y_1 => ifB (neI y_1 0) (some ((0, 0, 0, []), y_1)) (some ((4, 0, y, []), 0))) (some ((0, 0, 0, []), 1))) (some ((0, 0, 0, []), 1)))))) (ifB (eqS y.1 [115, 101, 97, 108]) (ifB (eqI (lenI x.2.2.2.2.2.2) 2) (z6 (atI x.2.2.2.2.2.2 0) fun y => z6 (atI x.2.2.2.2.2.2 1) fun y_1 => z6 (zn (2, y, y_1, [])) fun y_2 => ifB (neI y_2 0) (some ((0, 0, 0, []), y_2)) (some ((2, y, y_1, []), 0))) (ifB (eqS y.1 [109, 101, 114, 103, 101]) (ifB (eqI (lenI x.2.2.2.2.2.2) 2) (z6 (atI x.2.2.2.2.2.2 0) fun y => z6 (atI x.2.2.2.2.2.2 1) fun y_1 => z6 (zn (3, y, y_1, [])) fun y_2 => ifB (neI y_2 0) (some ((0, 0, 0, []), y_2)) (some ((3, y, y_1, []), 0))) (ifB (eqS y.1 [100, 114, 111, 112]) (ifB (eqI (lenI x.2.2.2.2.2.2) 1) (z6 (atI x.2.2.2.2.2.2 0) fun y => z6 (zn (4, 0, y, [])) fun y_1 => ifB (neI y_1 0) (some ((0, 0, 0, []), y_1)) (some ((4, 0, y, []), 0))) (some ((0, 0, 0, []), 1))) (some ((0, 0, 0, []), 1)))) (ifB (eqS y.1 [100, 114, 111, 112]) (ifB (eqI (lenI x.2.2.2.2.2.2) 1) (z6 (atI x.2.2.2.2.2.2 0) fun y => z6 (zn (4, 0, y, [])) fun y_1 => ifB (neI y_1 0) (some ((0, 0, 0, []), y_1)) (some ((4, 0, y, []), 0))) (some ((0, 0, 0, []), 1))) (some ((0, 0, 0, []), 1))))) (ifB (eqS y.1 [109, 101, 114, 103, 101]) (ifB (eqI (lenI x.2.2.2.2.2.2) 2) (z6 (atI x.2.2.2.2.2.2 0) fun y => z6 (atI x.2.2.2.2.2.2 1) fun y_1 => z6 (zn (3, y, y_1, [])) fun y_2 => ifB (neI y_2 0) (some ((0, 0, 0, []), y_2)) (some ((3, y, y_1, []), 0))) (ifB (eqS y.1 [100, 114, 111, 112]) (ifB (eqI (lenI x.2.2.2.2.2.2) 1) (z6 (atI x.2.2.2.2.2.2 0) fun y => z6 (zn (4, 0, y, [])) fun y_1 => ifB (neI y_1 0) (some ((0, 0, 0, []), y_1)) (some ((4, 0, y, []), 0))) (some ((0, 0, 0, []), 1))) (some ((0, 0, 0, []), 1)))) (ifB (eqS y.1 [100, 114, 111, 112]) (ifB (eqI (lenI x.2.2.2.2.2.2) 1) (z6 (atI x.2.2.2.2.2.2 0) fun y => z6 (zn (4, 0, y, [])) fun y_1 => ifB (neI y_1 0) (some ((0, 0, 0, []), y_1)) (some ((4, 0, y, []), 0))) (some ((0, 0, 0, []), 1))) (some ((0, 0, 0, []), 1)))))))) (y.2.1, y.2.2, 0, 0, 0, [], [])
theorem z6y (x : PI Vc) : Yj x = fnE T z1E z1F z1D (zo Tryz.f129) Vc z0I x := by kernel_rfl
noncomputable abbrev z1G : GS := zp false Vc z0I fun x => Yj x
theorem z6z : GSOK Tryz.prog 129 z1G := zm tok z9q fmo (Ht := z1F) (fn := Tryz.f129) (Tryz.func129) (c := z1D) (by kernel_rfl) (by kernel_rfl) (by kernel_rfl) (by decide +kernel) (by decide) z6y
end Go.Proofs.Y
namespace Go.Proofs.Y
open Go.Rb Go.Kx
noncomputable def rrK (k a b : Int) : Option (Rc × Int) := z6 (zn (k, a, b, [])) fun (e : Int) => ifB (neI e 0) (some ((0, 0, 0, []), e)) (some ((k, a, b, []), 0))
noncomputable def rrD (w : List UInt8) (ns : List Int) : Option (Rc × Int) := ifB (eqS w [100, 114, 111, 112]) (ifB (eqI (lenI ns) 1) (z6 (atI ns 0) fun (y : Int) => rrK 4 0 y) (some ((0, 0, 0, []), 1))) (some ((0, 0, 0, []), 1))
noncomputable def rrM (w : List UInt8) (ns : List Int) : Option (Rc × Int) := ifB (eqS w [109, 101, 114, 103, 101]) (ifB (eqI (lenI ns) 2) (z6 (atI ns 0) fun (y : Int) => z6 (atI ns 1) fun (z : Int) => rrK 3 y z) (rrD w ns)) (rrD w ns)
noncomputable def rrS (w : List UInt8) (ns : List Int) : Option (Rc × Int) := ifB (eqS w [115, 101, 97, 108]) (ifB (eqI (lenI ns) 2) (z6 (atI ns 0) fun (y : Int) => z6 (atI ns 1) fun (z : Int) => rrK 2 y z) (rrM w ns)) (rrM w ns)
noncomputable def rrL (ns : List Int) : Option (Rc × Int) := zk maxR (fun (x : List Int × List Ent) => ifB (gtI (lenI x.1) 0) (z6 (atI x.1 0) fun (y : Int) => z6 (atI x.1 1) fun (z : Int) => z6 (atI x.1 2) fun (v : Int) =>
  ifB (zh 24 x.2 [(y, z, v)]) (ifB (in1 x.1 3) (some (Sum.inl (yF x.1 3, cat x.2 [(y, z, v)]))) none) none)
 (mapO Sum.inr (z6 (zn (1, 0, 0, x.2)) fun (e : Int) => ifB (neI e 0) (some ((0, 0, 0, []), e)) (some ((1, 0, 0, x.2), 0))))) (ns, [])
noncomputable def rrB (w : List UInt8) (ns : List Int) : Option (Rc × Int) := ifB (eqS w [98, 97, 116, 99, 104]) (ifB (eqI (wrem (lenI ns) 3) 0) (rrL ns) (rrS w ns)) (rrS w ns)
theorem znf (a : List UInt8) : Yj a = z6 (cutO a [32]) fun (y : List UInt8 × List UInt8 × Bool) =>
  zk maxR (fun (x : List UInt8 × Bool × Int × Int × Int × List Ent × List Int) => ifB x.2.1
   (z6 (cutO x.1 [32]) fun (y : List UInt8 × List UInt8 × Bool) => z6 (z1U y.1 10 64) fun (v : Int × Bool) => ifB v.2 (mapO Sum.inr (some ((0, 0, 0, []), 1)))
    (z6 (fmtO v.1 10) fun (t : List UInt8) => ifB (notB (eqS t y.1)) (mapO Sum.inr (some ((0, 0, 0, []), 1))) (ifB (zh 8 x.2.2.2.2.2.2 [v.1]) (some (Sum.inl (y.2.1, y.2.2, x.2.2.1, x.2.2.2.1, x.2.2.2.2.1, x.2.2.2.2.2.1, cat x.2.2.2.2.2.2 [v.1]))) none)))
   (mapO Sum.inr (rrB y.1 x.2.2.2.2.2.2))) (y.2.1, y.2.2, 0, 0, 0, [], []) := by kernel_rfl
theorem zvp (k a b : Int) : rrK k a b = some (if zA (k, a, b, []) = 0 then ((k, a, b, []), 0) else (vi, zA (k, a, b, []))) := by
 unfold rrK
 rw [z0F (k, a, b, []) (by simp), z7, zj]
 split <;> rfl
theorem zvq (ns : List Int) (h3 : ns.length % 3 = 0) (hl : ns.length ≤ 100000) : rrL ns = some (if zA (1, 0, 0, trip ns) = 0 then ((1, 0, 0, trip ns), 0) else (vi, zA (1, 0, 0, trip ns))) := by
 unfold rrL
 have key := yD (f := fun (x : List Int × List Ent) => ifB (gtI (lenI x.1) 0) (z6 (atI x.1 0) fun (y : Int) => z6 (atI x.1 1) fun (z : Int) => z6 (atI x.1 2) fun (v : Int) =>
   ifB (zh 24 x.2 [(y, z, v)]) (ifB (in1 x.1 3) (some (Sum.inl (yF x.1 3, cat x.2 [(y, z, v)]))) none) none)
  (mapO Sum.inr (z6 (zn (1, 0, 0, x.2)) fun (e : Int) => ifB (neI e 0) (some (((0, 0, 0, []) : Rc), e)) (some ((1, 0, 0, x.2), 0)))))
  (G := fun x => some (if zA (1, 0, 0, x.2 ++ trip x.1) = 0 then ((1, 0, 0, x.2 ++ trip x.1), 0) else (vi, zA (1, 0, 0, x.2 ++ trip x.1)))) (P := fun x => x.1.length % 3 = 0 ∧ x.1.length + x.2.length ≤ 100000) (μ := fun x => x.1.length) ?_ maxR (ns, []) ⟨h3, by simpa using hl⟩ (by unfold maxR; simp only; omega)
 ·simpa using key
 ·rintro ⟨l, acc⟩ ⟨p1, p2⟩ k hk
  simp only at p1 p2 hk ⊢
  rw [za, zy, zb]
  match l, p1, p2, hk with
  | [], p1, p2, hk =>
   rw [if_neg (by simp), zd, z0F (1, 0, 0, acc) (by simp at p2 ⊢; omega), z7, zj]
   simp only [trip, List.append_nil]
   split <;> rfl
  | [_], p1, _, _ => simp at p1
  | [_, _], p1, _, _ => simp at p1
  | a :: b :: c :: l, p1, p2, hk =>
   simp only [List.length_cons] at p1 p2 hk
   rw [if_pos (by simp only [List.length_cons]; omega)]
   show yJ (z6 (some a) fun (y : Int) => z6 (some b) fun (z : Int) => z6 (some c) _) k = _
   rw [z7, z7, z7, za, zz, if_pos (by simp only [List.length_cons, List.length_nil]; omega), za, zI, if_pos ⟨by omega, by simp only [List.length_cons]; omega⟩, zu, Z6, zY]
   have := hk (l, acc ++ [(a, b, c)]) ⟨by simp only; omega, by simp only [List.length_append, List.length_cons, List.length_nil]; omega⟩ (by simp only; omega)
   refine Eq.trans this ?_
   simp only [trip, List.append_assoc, List.singleton_append]
   rfl
theorem zpb (w v : List UInt8) : eqS w v = decide (w = v) := by unfold eqS; by_cases h : w = v <;> simp [h]
theorem zvr (w : List UInt8) (ns : List Int) (hl : ns.length ≤ 100000) : rrB w ns = some (endP (ixW kindW w 0) ns) := by
 unfold rrB rrS rrM rrD
 simp only [zpb, zO, zf, zb, ztQ, zvp]
 by_cases c1 : w = [98, 97, 116, 99, 104]
 ·have n2 : ¬ w = [115, 101, 97, 108] := by rw [c1]; decide
  have n3 : ¬ w = [109, 101, 114, 103, 101] := by rw [c1]; decide
  have n4 : ¬ w = [100, 114, 111, 112] := by rw [c1]; decide
  have e : ixW kindW w 0 = 1 := by rw [c1]; decide
  rw [e, if_pos c1, if_neg n2, if_neg n3, if_neg n4]
  unfold endP V2
  by_cases c2 : ns.length % 3 = 0
  ·rw [if_pos (by omega), zvq ns c2 hl, if_pos rfl, if_pos c2]
  ·rw [if_neg (by omega), if_pos rfl, if_neg c2]; rfl
 rw [if_neg c1]
 by_cases c2 : w = [115, 101, 97, 108]
 ·have n3 : ¬ w = [109, 101, 114, 103, 101] := by rw [c2]; decide
  have n4 : ¬ w = [100, 114, 111, 112] := by rw [c2]; decide
  have e : ixW kindW w 0 = 2 := by rw [c2]; decide
  rw [e, if_pos c2, if_neg n3, if_neg n4]
  match ns with
  | [a, b] => rfl
  | [] => rfl
  | [_] => rfl
  | _ :: _ :: _ :: _ => rw [if_neg (by simp only [List.length_cons]; omega)]; rfl
 rw [if_neg c2]
 by_cases c3 : w = [109, 101, 114, 103, 101]
 ·have n4 : ¬ w = [100, 114, 111, 112] := by rw [c3]; decide
  have e : ixW kindW w 0 = 3 := by rw [c3]; decide
  rw [e, if_pos c3, if_neg n4]
  match ns with
  | [a, b] => rfl
  | [] => rfl
  | [_] => rfl
  | _ :: _ :: _ :: _ => rw [if_neg (by simp only [List.length_cons]; omega)]; rfl
 rw [if_neg c3]
 by_cases c4 : w = [100, 114, 111, 112]
 ·have e : ixW kindW w 0 = 4 := by rw [c4]; decide
  rw [e, if_pos c4]
  match ns with
  | [a] => rfl
  | [] => rfl
  | _ :: _ :: _ => rw [if_neg (by simp only [List.length_cons]; omega)]; rfl
 rw [if_neg c4]
 have e : ixW kindW w 0 = 0 ∨ ixW kindW w 0 = -1 := by
  unfold kindW
  by_cases c0 : w = []
  ·rw [c0]; exact .inl (by decide)
  ·refine .inr ?_
   simp only [ixW, if_neg c0, if_neg c1, if_neg c2, if_neg c3, if_neg c4]
 rcases e with e | e <;> rw [e] <;> rfl
def z9r (more : Bool) (s : List UInt8) : List (List UInt8) := if more = true then sp 32 s else []
theorem zrY (x : List UInt8) (r : List (List UInt8)) : nums (x :: r) = match Lib.atoiAll x with | .ok v => if Lib.itoa v = x then (nums r).map (v :: ·) else none | _ => none := rfl
theorem zpc {s : List UInt8} (h : s.length ≤ 100000) : cutO s [32] = some (Lib.cut s [32]) := by unfold cutO; rw [if_pos (by omega)]
theorem zrZ {s : List UInt8} (h : s.length ≤ 100000) : z1U s 10 64 = some (endO (Lib.atoiAll s) (Lib.atoiSat s)) := by
 unfold z1U
 rw [if_pos ⟨by omega, rfl, rfl⟩, Lib.parseIntB_64, Lib.intSat_64]
theorem zqm (s : List UInt8) (hs : s.length ≤ 60000) : Yj s = some (yN s) := by
 have hp : yN s = zd6 ((sp 32 s).headD []) (sp 32 s).tail := by unfold yN; rw [if_neg (by omega)]
 rw [znf, zpc (by omega), z7, hp]
 obtain ⟨w, l, m, e, hl, hh, ht⟩ : ∃ w l m, Lib.cut s [32] = (w, l, m) ∧ l.length ≤ 60000 ∧ (sp 32 s).headD [] = w ∧ (sp 32 s).tail = z9r m l := by
  rcases za5 32 s with hn | ⟨w, l, rfl, hn⟩
  ·exact ⟨s, [], false, zfx hn, by simp, by rw [z9i 32 hn]; rfl, by rw [z9i 32 hn]; rfl⟩
  ·refine ⟨w, l, true, zfy hn, ?_, by rw [z43 32 w l hn]; rfl, by rw [z43 32 w l hn]; rfl⟩
   simp only [List.length_append, List.length_cons] at hs; omega
 rw [e, hh, ht]
 simp only
 have key := yD (f := fun (x : List UInt8 × Bool × Int × Int × Int × List Ent × List Int) => ifB x.2.1
   (z6 (cutO x.1 [32]) fun (y : List UInt8 × List UInt8 × Bool) => z6 (z1U y.1 10 64) fun (v : Int × Bool) => ifB v.2 (mapO Sum.inr (some (((0, 0, 0, []) : Rc), (1 : Int))))
    (z6 (fmtO v.1 10) fun (t : List UInt8) => ifB (notB (eqS t y.1)) (mapO Sum.inr (some ((0, 0, 0, []), 1))) (ifB (zh 8 x.2.2.2.2.2.2 [v.1]) (some (Sum.inl (y.2.1, y.2.2, x.2.2.1, x.2.2.2.1, x.2.2.2.2.1, x.2.2.2.2.2.1, cat x.2.2.2.2.2.2 [v.1]))) none)))
   (mapO Sum.inr (rrB w x.2.2.2.2.2.2)))
  (G := fun x => some (match nums (z9r x.2.1 x.1) with | none => (vi, 1) | some ns => endP (ixW kindW w 0) (x.2.2.2.2.2.2 ++ ns))) (P := fun x => x.1.length + (if x.2.1 = true then 1 else 0) + x.2.2.2.2.2.2.length ≤ 60001) (μ := fun x => if x.2.1 = true then x.1.length + 1 else 0) ?_ maxR (l, m, 0, 0, 0, [], []) (by simp only [List.length_nil]; split <;> omega) (by unfold maxR; simp only; split <;> omega)
 ·refine key.trans ?_
  rw [zjI]; rfl
 ·rintro ⟨t, more, z1, z2, z3, z4, acc⟩ hp k hk
  simp only at hp hk ⊢
  rw [za]
  cases more with
  | false =>
   rw [if_neg (by decide)] at hp
   rw [ZA, zd, zvr w acc (by omega)]
   show some (endP (ixW kindW w 0) acc) = some (endP (ixW kindW w 0) (acc ++ []))
   rw [List.append_nil]
  | true =>
   rw [if_pos rfl] at hp
   rw [Z0, zpc (by omega), z7]
   obtain ⟨v, r, m2, e2, hv, hr, hw, hlt⟩ : ∃ v r m2, Lib.cut t [32] = (v, r, m2) ∧ v.length ≤ t.length ∧ r.length ≤ t.length ∧ z9r true t = v :: z9r m2 r ∧ (m2 = true → r.length < t.length) := by
    rcases za5 32 t with hn | ⟨v, r, rfl, hn⟩
    ·exact ⟨t, [], false, zfx hn, by omega, by simp, by show sp 32 t = _; rw [z9i 32 hn]; rfl, by simp⟩
    ·refine ⟨v, r, true, zfy hn, by simp, by simp only [List.length_append, List.length_cons]; omega, by show sp 32 _ = _; rw [z43 32 v r hn]; rfl, fun _ => by simp only [List.length_append, List.length_cons]; omega⟩
   rw [e2, hw, zrY]
   simp only
   rw [zrZ (by omega), z7]
   rcases hx : Lib.atoiAll v with n | _ | _
   ·have hb := Lib.atoiAll_bounds hx
    have hf : fmtO n 10 = some (Lib.itoa n) := by unfold fmtO; rw [if_pos ⟨rfl, hb.1, hb.2⟩]
    simp only [endO]
    rw [za, ZA, hf, z7, za, zC, zpb, zO]
    by_cases c : Lib.itoa n = v
    ·rw [if_pos c, if_pos c, za, zz, if_pos (by simp only [List.length_cons, List.length_nil]; omega), zu, zY]
     refine Eq.trans (hk (r, m2, z1, z2, z3, z4, acc ++ [n]) ?_ ?_) ?_
     ·simp only [List.length_append, List.length_cons, List.length_nil]
      cases m2 with
      | true => have := hlt rfl; rw [if_pos rfl]; omega
      | false => rw [if_neg (by decide)]; omega
     ·cases m2 with
      | true => have := hlt rfl; simp only [if_true]; omega
      | false => simp
     ·simp only
      cases nums (z9r m2 r) <;> simp
    ·rw [if_neg c, if_neg c]; rfl
   ·simp only [endO]; rw [za, Z0]; rfl
   ·simp only [endO]; rw [za, Z0]; rfl
end Go.Proofs.Y
