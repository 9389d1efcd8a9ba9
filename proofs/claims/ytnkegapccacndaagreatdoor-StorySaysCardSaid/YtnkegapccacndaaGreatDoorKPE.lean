/-
  What is proved, part by part: what world.Run comes to. what happens to a world, in plain words; Do and Run come to it. what happens to a world, as a plain function; Do comes to it. what world.Read comes to. Do, Run and Read of worlds: what the program's functions come to, in plain words. what rainbooklaw.watched$1 comes to. what slices.Equal[[]api.Errno,api.Errno] comes to. what rainbooklaw.watched comes to. what rainbooklaw.WorldStands$1 comes to. what slices.IndexFunc[[]int,int] comes to. what slices.ContainsFunc[[]int,int] comes to. what rainbooklaw.WorldStands comes to. a world that loses its power and is up again is as it was, in plain words; the closed fact on worlds. what rainbooklaw.WorldSame comes to. to seal, to merge, to drop: what is read of a world stays, in plain words. a line that is torn is there wholly, or not at all. what rainbooklaw.batch comes to. what rainbooklaw.stored comes to. what slices.EqualFunc[[]api.Rec,[]api.Rec,api.Rec,api.Rec] comes to. what rainbooklaw.StoreParts comes to. StoreParts: what the law's body comes to is true: records one by one, or at once; and what a disk keeps of them. what rainbooklaw.WorldTorn comes to. a batch that is torn is there wholly, or not at all: the law's body is true, in plain words. WorldTorn: the law's body is true, in plain words. strconv.ParseInt of Go's library is known by its answer. strconv.FormatInt of Go's library is known by its answer. what rainbookref.RecRead comes to. a text read as a record by the document's function: it is what the program's function reads. Conditions: none.
-/
import Derived.Test.YtnkegapccacndaaGreatDoorKPA
import Derived.Test.YtnkegapccacndaaGreatDoorKPD
import Derived.Test.YtnkegapccacndaaGreatDoorKPB
import Derived.Test.YtnkegapccacndaaGreatDoorKPC
import Derived.Lib.ParseIntBTie
set_option linter.unusedVariables false
set_option linter.unusedSimpArgs false
set_option linter.unnecessarySimpa false
set_option maxRecDepth 4000
namespace Go.Proofs.Y
open Go.Rb Go.Kx
noncomputable def zbG : Code := zl Tryz.f17
noncomputable def zbH : FuncId → Option GS := tabG [(24, JD), (60, zac), (61, zga)]
theorem zk3 : ΓOK Tryz.prog zbH := z8 (JH) (z8 (zdW) (z8 (zjc) (zg)))
def zbI : HT := ⟨tabL [(9, .it [] (dyn [.a 8 33 (.one (.int .i64)), .t 27 (.int .i64), .c 2 0 (.sl 95 (.cons (.sl 126 (.cons (.int .i64) (.cons (.int .i64) (.cons (.int .i64) (.one (.sl 4 (.one .bool))))))) (.one (.sl 73 (.cons (.int .i64) (.one (.int .i64))))))), .c 2 1 (.sl 5 (.one (.int .u8))), .c 2 2 (.sl 5 (.one (.int .u8))), .c 2 3 (.bool), .c 2 4 (.sl 3 (.one (.int .i64)))]))], tabH [(7, [.frzc 2 4]), (14, [.frzc 11 4])]⟩
abbrev z4g : List IT := [.v (.cons (.sl 95 (.cons (.sl 126 (.cons (.int .i64) (.cons (.int .i64) (.cons (.int .i64) (.one (.sl 4 (.one .bool))))))) (.one (.sl 73 (.cons (.int .i64) (.one (.int .i64))))))) (.cons (.sl 5 (.one (.int .u8))) (.cons (.sl 5 (.one (.int .u8))) (.cons (.bool) (.one (.sl 3 (.one (.int .i64)))))))) true, .v (.one (.sl 41 (.cons (.int .i64) (.cons (.int .i64) (.cons (.int .i64) (.one (.sl 77 (.cons (.int .i64) (.cons (.int .i64) (.one (.int .i64))))))))))) false]
abbrev zag : List OT := [⟨.cons (.sl 95 (.cons (.sl 126 (.cons (.int .i64) (.cons (.int .i64) (.cons (.int .i64) (.one (.sl 4 (.one .bool))))))) (.one (.sl 73 (.cons (.int .i64) (.one (.int .i64))))))) (.cons (.sl 5 (.one (.int .u8))) (.cons (.sl 5 (.one (.int .u8))) (.cons (.bool) (.one (.sl 3 (.one (.int .i64))))))), true, []⟩, ⟨.one (.sl 33 (.one (.int .i64))), false, []⟩, ⟨.one (.int .i64), false, []⟩]
set_option maxRecDepth 100000
noncomputable def Vl : List (List (Int × Int × Int × List Bool) × List (Int × Int)) × List Int × List Int × Bool × List Int → List (Int × Int × Int × List (Int × Int × Int)) → Option ((List (List (Int × Int × Int × List Bool) × List (Int × Int)) × List Int × List Int × Bool × List Int) × List Int × Int) := fun a b => z6 (yR (a.1, a.2.1, a.2.2.1, a.2.2.2.1, a.2.2.2.2)) fun y => ifB (neI y 0) (some (([], [], [], false, []), [], y)) (ifB (gtI (lenI b) 100) (some (([], [], [], false, []), [], 2)) (z6 (yN (a.1, a.2.1, a.2.2.1, a.2.2.2.1, a.2.2.2.2)) fun y => zk maxR (fun (x : Int × List (List (Int × Int × Int × List Bool) × List (Int × Int)) × List Int × List Int × Bool × List Int × List Int) => ifB (ltI x.1 (lenI b)) (z6 (atI b x.1) fun y => z6 (yN (x.2.1, x.2.2.1, x.2.2.2.1, x.2.2.2.2.1, x.2.2.2.2.2.1)) fun y_1 => ifB (ltI y.1 1) (ifB (ze 8 x.2.2.2.2.2.2 [4]) (some (Sum.inl (wadd .i64 x.1 1, x.2.1, x.2.2.1, x.2.2.2.1, x.2.2.2.2.1, x.2.2.2.2.2.1, cat x.2.2.2.2.2.2 [4]))) none) (ifB (gtI y.1 9) (ifB (ze 8 x.2.2.2.2.2.2 [4]) (some (Sum.inl (wadd .i64 x.1 1, x.2.1, x.2.2.1, x.2.2.2.1, x.2.2.2.2.1, x.2.2.2.2.2.1, cat x.2.2.2.2.2.2 [4]))) none) (ifB (eqB y_1.2.2.2.1 (eqI y.1 8)) (ifB (ze 8 x.2.2.2.2.2.2 [7]) (some (Sum.inl (wadd .i64 x.1 1, x.2.1, x.2.2.1, x.2.2.2.1, x.2.2.2.2.1, x.2.2.2.2.2.1, cat x.2.2.2.2.2.2 [7]))) none) (ifB (eqI y.1 5) (ifB (ltI y.2.2.1 0) (ifB (ze 8 x.2.2.2.2.2.2 [5]) (some (Sum.inl (wadd .i64 x.1 1, x.2.1, x.2.2.1, x.2.2.2.1, x.2.2.2.2.1, x.2.2.2.2.2.1, cat x.2.2.2.2.2.2 [5]))) none) (ifB (geI y.2.2.1 (lenI y_1.2.2.2.2)) (ifB (ze 8 x.2.2.2.2.2.2 [5]) (some (Sum.inl (wadd .i64 x.1 1, x.2.1, x.2.2.1, x.2.2.2.1, x.2.2.2.2.1, x.2.2.2.2.2.1, cat x.2.2.2.2.2.2 [5]))) none) (ifB (eqI y.1 6) (ifB (ltL y.2.2.1 y_1.2.2.2.2) (z6 (atN y_1.2.2.2.2 (natI y.2.2.1)) fun y_2 => ifB (ze 8 x.2.2.2.2.2.2 [0]) (some (Sum.inl (wadd .i64 x.1 1, y_1.1, y_1.2.1, y_1.2.2.1, y_1.2.2.2.1, setN y_1.2.2.2.2 (natI y.2.2.1) (-1), cat x.2.2.2.2.2.2 [0]))) none) none) (z6 (ZT (y_1.2.1, y_1.2.2.1)) fun y_2 => ifB (eqI y_2.2.2 0) (ifB (ltL y.2.2.1 y_1.2.2.2.2) (z6 (atN y_1.2.2.2.2 (natI y.2.2.1)) fun y_3 => ifB (eqI y_2.2.2 0) (ifB (ze 8 x.2.2.2.2.2.2 [y_2.2.2]) (some (Sum.inl (wadd .i64 x.1 1, y_1.1, y_1.2.1, y_1.2.2.1, y_1.2.2.2.1, setN y_1.2.2.2.2 (natI y.2.2.1) (lenI y_2.2.1), cat x.2.2.2.2.2.2 [y_2.2.2]))) none) (ifB (ze 8 x.2.2.2.2.2.2 [y_2.2.2]) (some (Sum.inl (wadd .i64 x.1 1, x.2.1, x.2.2.1, x.2.2.2.1, x.2.2.2.2.1, x.2.2.2.2.2.1, cat x.2.2.2.2.2.2 [y_2.2.2]))) none)) none) (ifB (eqI y_2.2.2 0) (ifB (ze 8 x.2.2.2.2.2.2 [y_2.2.2]) (some (Sum.inl (wadd .i64 x.1 1, y_1.1, y_1.2.1, y_1.2.2.1, y_1.2.2.2.1, y_1.2.2.2.2, cat x.2.2.2.2.2.2 [y_2.2.2]))) none) (ifB (ze 8 x.2.2.2.2.2.2 [y_2.2.2]) (some (Sum.inl (wadd .i64 x.1 1, x.2.1, x.2.2.1, x.2.2.2.1, x.2.2.2.2.1, x.2.2.2.2.2.1, cat x.2.2.2.2.2.2 [y_2.2.2]))) none)))))) (ifB (eqI y.1 6) (ifB (ltI y.2.2.1 0) (ifB (ze 8 x.2.2.2.2.2.2 [5]) (some (Sum.inl (wadd .i64 x.1 1, x.2.1, x.2.2.1, x.2.2.2.1, x.2.2.2.2.1, x.2.2.2.2.2.1, cat x.2.2.2.2.2.2 [5]))) none) (ifB (geI y.2.2.1 (lenI y_1.2.2.2.2)) (ifB (ze 8 x.2.2.2.2.2.2 [5]) (some (Sum.inl (wadd .i64 x.1 1, x.2.1, x.2.2.1, x.2.2.2.1, x.2.2.2.2.1, x.2.2.2.2.2.1, cat x.2.2.2.2.2.2 [5]))) none) (ifB (eqI y.1 6) (ifB (ltL y.2.2.1 y_1.2.2.2.2) (z6 (atN y_1.2.2.2.2 (natI y.2.2.1)) fun y_2 => ifB (ze 8 x.2.2.2.2.2.2 [0]) (some (Sum.inl (wadd .i64 x.1 1, y_1.1, y_1.2.1, y_1.2.2.1, y_1.2.2.2.1, setN y_1.2.2.2.2 (natI y.2.2.1) (-1), cat x.2.2.2.2.2.2 [0]))) none) none) (z6 (ZT (y_1.2.1, y_1.2.2.1)) fun y_2 => ifB (eqI y_2.2.2 0) (ifB (ltL y.2.2.1 y_1.2.2.2.2) (z6 (atN y_1.2.2.2.2 (natI y.2.2.1)) fun y_3 => ifB (eqI y_2.2.2 0) (ifB (ze 8 x.2.2.2.2.2.2 [y_2.2.2]) (some (Sum.inl (wadd .i64 x.1 1, y_1.1, y_1.2.1, y_1.2.2.1, y_1.2.2.2.1, setN y_1.2.2.2.2 (natI y.2.2.1) (lenI y_2.2.1), cat x.2.2.2.2.2.2 [y_2.2.2]))) none) (ifB (ze 8 x.2.2.2.2.2.2 [y_2.2.2]) (some (Sum.inl (wadd .i64 x.1 1, x.2.1, x.2.2.1, x.2.2.2.1, x.2.2.2.2.1, x.2.2.2.2.2.1, cat x.2.2.2.2.2.2 [y_2.2.2]))) none)) none) (ifB (eqI y_2.2.2 0) (ifB (ze 8 x.2.2.2.2.2.2 [y_2.2.2]) (some (Sum.inl (wadd .i64 x.1 1, y_1.1, y_1.2.1, y_1.2.2.1, y_1.2.2.2.1, y_1.2.2.2.2, cat x.2.2.2.2.2.2 [y_2.2.2]))) none) (ifB (ze 8 x.2.2.2.2.2.2 [y_2.2.2]) (some (Sum.inl (wadd .i64 x.1 1, x.2.1, x.2.2.1, x.2.2.2.1, x.2.2.2.2.1, x.2.2.2.2.2.1, cat x.2.2.2.2.2.2 [y_2.2.2]))) none)))))) (ifB (eqI y.1 7) (z6 yK fun y => z6 yw fun y_2 => ifB (ze 8 x.2.2.2.2.2.2 [0]) (some (Sum.inl (wadd .i64 x.1 1, y, y_1.2.1, y_1.2.2.1, false, y_2, cat x.2.2.2.2.2.2 [0]))) none) (ifB (eqI y.1 8) (z6 (ZT (y_1.2.1, y_1.2.2.1)) fun y => ifB (neI y.2.2 0) (ifB (eqI y.2.2 0) (ifB (ze 8 x.2.2.2.2.2.2 [y.2.2]) (some (Sum.inl (wadd .i64 x.1 1, y_1.1, y_1.2.1, y_1.2.2.1, y_1.2.2.2.1, y_1.2.2.2.2, cat x.2.2.2.2.2.2 [y.2.2]))) none) (ifB (ze 8 x.2.2.2.2.2.2 [y.2.2]) (some (Sum.inl (wadd .i64 x.1 1, x.2.1, x.2.2.1, x.2.2.2.1, x.2.2.2.2.1, x.2.2.2.2.2.1, cat x.2.2.2.2.2.2 [y.2.2]))) none)) (z6 (ZS y.2.1) fun y_2 => ifB (eqI y_2.2 0) (ifB (eqI y_2.2 0) (ifB (ze 8 x.2.2.2.2.2.2 [y_2.2]) (some (Sum.inl (wadd .i64 x.1 1, y_2.1, y.1.1, y.1.2, true, y_1.2.2.2.2, cat x.2.2.2.2.2.2 [y_2.2]))) none) (ifB (ze 8 x.2.2.2.2.2.2 [y_2.2]) (some (Sum.inl (wadd .i64 x.1 1, x.2.1, x.2.2.1, x.2.2.2.1, x.2.2.2.2.1, x.2.2.2.2.2.1, cat x.2.2.2.2.2.2 [y_2.2]))) none)) (ifB (eqI y_2.2 0) (ifB (ze 8 x.2.2.2.2.2.2 [y_2.2]) (some (Sum.inl (wadd .i64 x.1 1, y_1.1, y_1.2.1, y_1.2.2.1, y_1.2.2.2.1, y_1.2.2.2.2, cat x.2.2.2.2.2.2 [y_2.2]))) none) (ifB (ze 8 x.2.2.2.2.2.2 [y_2.2]) (some (Sum.inl (wadd .i64 x.1 1, x.2.1, x.2.2.1, x.2.2.2.1, x.2.2.2.2.1, x.2.2.2.2.2.1, cat x.2.2.2.2.2.2 [y_2.2]))) none)))) (ifB (eqI y.1 1) (z6 (yi y_1.1 (1, 0, 0, y.2.2.2)) fun y_2 => ifB (neI y_2.2 0) (ifB (eqI y_2.2 0) (ifB (ze 8 x.2.2.2.2.2.2 [y_2.2]) (some (Sum.inl (wadd .i64 x.1 1, y_1.1, y_1.2.1, y_1.2.2.1, y_1.2.2.2.1, y_1.2.2.2.2, cat x.2.2.2.2.2.2 [y_2.2]))) none) (ifB (ze 8 x.2.2.2.2.2.2 [y_2.2]) (some (Sum.inl (wadd .i64 x.1 1, x.2.1, x.2.2.1, x.2.2.2.1, x.2.2.2.2.1, x.2.2.2.2.2.1, cat x.2.2.2.2.2.2 [y_2.2]))) none)) (z6 (YE (y_1.2.1, y_1.2.2.1) (1, 0, 0, y.2.2.2)) fun y_3 => ifB (neI y_3.2 0) (ifB (eqI y_3.2 0) (ifB (ze 8 x.2.2.2.2.2.2 [y_3.2]) (some (Sum.inl (wadd .i64 x.1 1, y_1.1, y_1.2.1, y_1.2.2.1, y_1.2.2.2.1, y_1.2.2.2.2, cat x.2.2.2.2.2.2 [y_3.2]))) none) (ifB (ze 8 x.2.2.2.2.2.2 [y_3.2]) (some (Sum.inl (wadd .i64 x.1 1, x.2.1, x.2.2.1, x.2.2.2.1, x.2.2.2.2.1, x.2.2.2.2.2.1, cat x.2.2.2.2.2.2 [y_3.2]))) none)) (ifB (eqI y.1 9) (z6 (YX (y_3.1.1, y_3.1.2) (maxI 0 (minI y.2.2.1 (lenI y_3.1.2)))) fun y => ifB (eqI y.2 0) (z6 yK fun y_4 => z6 yw fun y_5 => ifB (eqI y.2 0) (ifB (ze 8 x.2.2.2.2.2.2 [y.2]) (some (Sum.inl (wadd .i64 x.1 1, y_4, y.1.1, y.1.2, false, y_5, cat x.2.2.2.2.2.2 [y.2]))) none) (ifB (ze 8 x.2.2.2.2.2.2 [y.2]) (some (Sum.inl (wadd .i64 x.1 1, x.2.1, x.2.2.1, x.2.2.2.1, x.2.2.2.2.1, x.2.2.2.2.2.1, cat x.2.2.2.2.2.2 [y.2]))) none)) (ifB (eqI y.2 0) (ifB (ze 8 x.2.2.2.2.2.2 [y.2]) (some (Sum.inl (wadd .i64 x.1 1, y_1.1, y_1.2.1, y_1.2.2.1, y_1.2.2.2.1, y_1.2.2.2.2, cat x.2.2.2.2.2.2 [y.2]))) none) (ifB (ze 8 x.2.2.2.2.2.2 [y.2]) (some (Sum.inl (wadd .i64 x.1 1, x.2.1, x.2.2.1, x.2.2.2.1, x.2.2.2.2.1, x.2.2.2.2.2.1, cat x.2.2.2.2.2.2 [y.2]))) none))) (z6 (Yl (y_3.1.1, y_3.1.2)) fun y => ifB (eqI y.2 0) (ifB (eqI y.2 0) (ifB (ze 8 x.2.2.2.2.2.2 [y.2]) (some (Sum.inl (wadd .i64 x.1 1, y_2.1, y.1.1, y.1.2, y_1.2.2.2.1, y_1.2.2.2.2, cat x.2.2.2.2.2.2 [y.2]))) none) (ifB (ze 8 x.2.2.2.2.2.2 [y.2]) (some (Sum.inl (wadd .i64 x.1 1, x.2.1, x.2.2.1, x.2.2.2.1, x.2.2.2.2.1, x.2.2.2.2.2.1, cat x.2.2.2.2.2.2 [y.2]))) none)) (ifB (eqI y.2 0) (ifB (ze 8 x.2.2.2.2.2.2 [y.2]) (some (Sum.inl (wadd .i64 x.1 1, y_1.1, y_1.2.1, y_1.2.2.1, y_1.2.2.2.1, y_1.2.2.2.2, cat x.2.2.2.2.2.2 [y.2]))) none) (ifB (ze 8 x.2.2.2.2.2.2 [y.2]) (some (Sum.inl (wadd .i64 x.1 1, x.2.1, x.2.2.1, x.2.2.2.1, x.2.2.2.2.1, x.2.2.2.2.2.1, cat x.2.2.2.2.2.2 [y.2]))) none)))))) (ifB (eqI y.1 9) (z6 (yi y_1.1 (1, 0, 0, y.2.2.2)) fun y_2 => ifB (neI y_2.2 0) (ifB (eqI y_2.2 0) (ifB (ze 8 x.2.2.2.2.2.2 [y_2.2]) (some (Sum.inl (wadd .i64 x.1 1, y_1.1, y_1.2.1, y_1.2.2.1, y_1.2.2.2.1, y_1.2.2.2.2, cat x.2.2.2.2.2.2 [y_2.2]))) none) (ifB (ze 8 x.2.2.2.2.2.2 [y_2.2]) (some (Sum.inl (wadd .i64 x.1 1, x.2.1, x.2.2.1, x.2.2.2.1, x.2.2.2.2.1, x.2.2.2.2.2.1, cat x.2.2.2.2.2.2 [y_2.2]))) none)) (z6 (YE (y_1.2.1, y_1.2.2.1) (1, 0, 0, y.2.2.2)) fun y_3 => ifB (neI y_3.2 0) (ifB (eqI y_3.2 0) (ifB (ze 8 x.2.2.2.2.2.2 [y_3.2]) (some (Sum.inl (wadd .i64 x.1 1, y_1.1, y_1.2.1, y_1.2.2.1, y_1.2.2.2.1, y_1.2.2.2.2, cat x.2.2.2.2.2.2 [y_3.2]))) none) (ifB (ze 8 x.2.2.2.2.2.2 [y_3.2]) (some (Sum.inl (wadd .i64 x.1 1, x.2.1, x.2.2.1, x.2.2.2.1, x.2.2.2.2.1, x.2.2.2.2.2.1, cat x.2.2.2.2.2.2 [y_3.2]))) none)) (ifB (eqI y.1 9) (z6 (YX (y_3.1.1, y_3.1.2) (maxI 0 (minI y.2.2.1 (lenI y_3.1.2)))) fun y => ifB (eqI y.2 0) (z6 yK fun y_4 => z6 yw fun y_5 => ifB (eqI y.2 0) (ifB (ze 8 x.2.2.2.2.2.2 [y.2]) (some (Sum.inl (wadd .i64 x.1 1, y_4, y.1.1, y.1.2, false, y_5, cat x.2.2.2.2.2.2 [y.2]))) none) (ifB (ze 8 x.2.2.2.2.2.2 [y.2]) (some (Sum.inl (wadd .i64 x.1 1, x.2.1, x.2.2.1, x.2.2.2.1, x.2.2.2.2.1, x.2.2.2.2.2.1, cat x.2.2.2.2.2.2 [y.2]))) none)) (ifB (eqI y.2 0) (ifB (ze 8 x.2.2.2.2.2.2 [y.2]) (some (Sum.inl (wadd .i64 x.1 1, y_1.1, y_1.2.1, y_1.2.2.1, y_1.2.2.2.1, y_1.2.2.2.2, cat x.2.2.2.2.2.2 [y.2]))) none) (ifB (ze 8 x.2.2.2.2.2.2 [y.2]) (some (Sum.inl (wadd .i64 x.1 1, x.2.1, x.2.2.1, x.2.2.2.1, x.2.2.2.2.1, x.2.2.2.2.2.1, cat x.2.2.2.2.2.2 [y.2]))) none))) (z6 (Yl (y_3.1.1, y_3.1.2)) fun y => ifB (eqI y.2 0) (ifB (eqI y.2 0) (ifB (ze 8 x.2.2.2.2.2.2 [y.2]) (some (Sum.inl (wadd .i64 x.1 1, y_2.1, y.1.1, y.1.2, y_1.2.2.2.1, y_1.2.2.2.2, cat x.2.2.2.2.2.2 [y.2]))) none) (ifB (ze 8 x.2.2.2.2.2.2 [y.2]) (some (Sum.inl (wadd .i64 x.1 1, x.2.1, x.2.2.1, x.2.2.2.1, x.2.2.2.2.1, x.2.2.2.2.2.1, cat x.2.2.2.2.2.2 [y.2]))) none)) (ifB (eqI y.2 0) (ifB (ze 8 x.2.2.2.2.2.2 [y.2]) (some (Sum.inl (wadd .i64 x.1 1, y_1.1, y_1.2.1, y_1.2.2.1, y_1.2.2.2.1, y_1.2.2.2.2, cat x.2.2.2.2.2.2 [y.2]))) none) (ifB (ze 8 x.2.2.2.2.2.2 [y.2]) (some (Sum.inl (wadd .i64 x.1 1, x.2.1, x.2.2.1, x.2.2.2.1, x.2.2.2.2.1, x.2.2.2.2.2.1, cat x.2.2.2.2.2.2 [y.2]))) none)))))) (ifB (eqI y.1 4) (z6 (yi y_1.1 (4, 0, y.2.2.1, [])) fun y_2 => ifB (neI y_2.2 0) (ifB (eqI y_2.2 0) (ifB (ze 8 x.2.2.2.2.2.2 [y_2.2]) (some (Sum.inl (wadd .i64 x.1 1, y_1.1, y_1.2.1, y_1.2.2.1, y_1.2.2.2.1, y_1.2.2.2.2, cat x.2.2.2.2.2.2 [y_2.2]))) none) (ifB (ze 8 x.2.2.2.2.2.2 [y_2.2]) (some (Sum.inl (wadd .i64 x.1 1, x.2.1, x.2.2.1, x.2.2.2.1, x.2.2.2.2.1, x.2.2.2.2.2.1, cat x.2.2.2.2.2.2 [y_2.2]))) none)) (z6 (YE (y_1.2.1, y_1.2.2.1) (4, 0, y.2.2.1, [])) fun y => ifB (neI y.2 0) (ifB (eqI y.2 0) (ifB (ze 8 x.2.2.2.2.2.2 [y.2]) (some (Sum.inl (wadd .i64 x.1 1, y_1.1, y_1.2.1, y_1.2.2.1, y_1.2.2.2.1, y_1.2.2.2.2, cat x.2.2.2.2.2.2 [y.2]))) none) (ifB (ze 8 x.2.2.2.2.2.2 [y.2]) (some (Sum.inl (wadd .i64 x.1 1, x.2.1, x.2.2.1, x.2.2.2.1, x.2.2.2.2.1, x.2.2.2.2.2.1, cat x.2.2.2.2.2.2 [y.2]))) none)) (z6 (Yl (y.1.1, y.1.2)) fun y => ifB (eqI y.2 0) (ifB (eqI y.2 0) (ifB (ze 8 x.2.2.2.2.2.2 [y.2]) (some (Sum.inl (wadd .i64 x.1 1, y_2.1, y.1.1, y.1.2, y_1.2.2.2.1, y_1.2.2.2.2, cat x.2.2.2.2.2.2 [y.2]))) none) (ifB (ze 8 x.2.2.2.2.2.2 [y.2]) (some (Sum.inl (wadd .i64 x.1 1, x.2.1, x.2.2.1, x.2.2.2.1, x.2.2.2.2.1, x.2.2.2.2.2.1, cat x.2.2.2.2.2.2 [y.2]))) none)) (ifB (eqI y.2 0) (ifB (ze 8 x.2.2.2.2.2.2 [y.2]) (some (Sum.inl (wadd .i64 x.1 1, y_1.1, y_1.2.1, y_1.2.2.1, y_1.2.2.2.1, y_1.2.2.2.2, cat x.2.2.2.2.2.2 [y.2]))) none) (ifB (ze 8 x.2.2.2.2.2.2 [y.2]) (some (Sum.inl (wadd .i64 x.1 1, x.2.1, x.2.2.1, x.2.2.2.1, x.2.2.2.2.1, x.2.2.2.2.2.1, cat x.2.2.2.2.2.2 [y.2]))) none))))) (z6 (yi y_1.1 (y.1, y.2.1, y.2.2.1, [])) fun y_2 => ifB (neI y_2.2 0) (ifB (eqI y_2.2 0) (ifB (ze 8 x.2.2.2.2.2.2 [y_2.2]) (some (Sum.inl (wadd .i64 x.1 1, y_1.1, y_1.2.1, y_1.2.2.1, y_1.2.2.2.1, y_1.2.2.2.2, cat x.2.2.2.2.2.2 [y_2.2]))) none) (ifB (ze 8 x.2.2.2.2.2.2 [y_2.2]) (some (Sum.inl (wadd .i64 x.1 1, x.2.1, x.2.2.1, x.2.2.2.1, x.2.2.2.2.1, x.2.2.2.2.2.1, cat x.2.2.2.2.2.2 [y_2.2]))) none)) (z6 (YE (y_1.2.1, y_1.2.2.1) (y.1, y.2.1, y.2.2.1, [])) fun y => ifB (neI y.2 0) (ifB (eqI y.2 0) (ifB (ze 8 x.2.2.2.2.2.2 [y.2]) (some (Sum.inl (wadd .i64 x.1 1, y_1.1, y_1.2.1, y_1.2.2.1, y_1.2.2.2.1, y_1.2.2.2.2, cat x.2.2.2.2.2.2 [y.2]))) none) (ifB (ze 8 x.2.2.2.2.2.2 [y.2]) (some (Sum.inl (wadd .i64 x.1 1, x.2.1, x.2.2.1, x.2.2.2.1, x.2.2.2.2.1, x.2.2.2.2.2.1, cat x.2.2.2.2.2.2 [y.2]))) none)) (z6 (Yl (y.1.1, y.1.2)) fun y => ifB (eqI y.2 0) (ifB (eqI y.2 0) (ifB (ze 8 x.2.2.2.2.2.2 [y.2]) (some (Sum.inl (wadd .i64 x.1 1, y_2.1, y.1.1, y.1.2, y_1.2.2.2.1, y_1.2.2.2.2, cat x.2.2.2.2.2.2 [y.2]))) none) (ifB (ze 8 x.2.2.2.2.2.2 [y.2]) (some (Sum.inl (wadd .i64 x.1 1, x.2.1, x.2.2.1, x.2.2.2.1, x.2.2.2.2.1, x.2.2.2.2.2.1, cat x.2.2.2.2.2.2 [y.2]))) none)) (ifB (eqI y.2 0) (ifB (ze 8 x.2.2.2.2.2.2 [y.2]) (some (Sum.inl (wadd .i64 x.1 1, y_1.1, y_1.2.1, y_1.2.2.1, y_1.2.2.2.1, y_1.2.2.2.2, cat x.2.2.2.2.2.2 [y.2]))) none) (ifB (ze 8 x.2.2.2.2.2.2 [y.2]) (some (Sum.inl (wadd .i64 x.1 1, x.2.1, x.2.2.1, x.2.2.2.1, x.2.2.2.2.1, x.2.2.2.2.2.1, cat x.2.2.2.2.2.2 [y.2]))) none))))))))))))))) (mapO Sum.inr (some ((x.2.1, x.2.2.1, x.2.2.2.1, x.2.2.2.2.1, x.2.2.2.2.2.1), x.2.2.2.2.2.2, 0)))) (0, y.1, y.2.1, y.2.2.1, y.2.2.2.1, y.2.2.2.2, [])))
theorem zeN (x : PI z4g) : Vl (x.1) (x.2) = fnE T zbH zbI zbG (zu Tryz.f17) z4g zag x := by kernel_rfl
noncomputable abbrev zbJ : GS := zt false z4g zag fun x => Vl (x.1) (x.2)
theorem zeO : GSOK Tryz.prog 17 zbJ := zm tok zk3 fmo (Ht := zbI) (fn := Tryz.f17) (Tryz.func17) (c := zbG) (by kernel_rfl) (by kernel_rfl) (by kernel_rfl) (by decide +kernel) (by decide) zeN
end Go.Proofs.Y
namespace Go.Proofs.Y
open Go.Rb Go.Kx
abbrev Hp := Int × Int × Int × List Ent
noncomputable def wrC {α : Type} (K : Wv → Int → Option α) (tear : Bool) (n : Int) (r : Rc) (y : Wv) : Option α :=
 z6 (yi y.1 r) fun (y_1 : Shf × Int) => ifB (neI y_1.2 0) (K y y_1.2)
  (z6 (YE (y.2.1, y.2.2.1) r) fun (y_2 : (List Int × List Int) × Int) => ifB (neI y_2.2 0) (K y y_2.2)
   (ifB tear
    (z6 (YX y_2.1 (maxI 0 (minI n (lenI y_2.1.2)))) fun (y_3 : (List Int × List Int) × Int) => ifB (eqI y_3.2 0)
     (z6 yK fun (s : Shf) => z6 yw fun (c : List Int) => K (s, y_3.1.1, y_3.1.2, false, c) y_3.2) (K y y_3.2))
    (z6 (Yl y_2.1) fun (y_3 : (List Int × List Int) × Int) => ifB (eqI y_3.2 0) (K (y_1.1, y_3.1.1, y_3.1.2, y.2.2.2.1, y.2.2.2.2) y_3.2) (K y y_3.2))))
noncomputable def opC {α : Type} (K : Wv → Int → Option α) (shut : Bool) (n : Int) (y : Wv) : Option α :=
 ifB (ltI n 0) (K y 5) (ifB (geI n (lenI y.2.2.2.2)) (K y 5) (ifB shut
  (ifB (ltL n y.2.2.2.2) (z6 (atN y.2.2.2.2 (natI n)) fun (_ : Int) => K (y.1, y.2.1, y.2.2.1, y.2.2.2.1, setN y.2.2.2.2 (natI n) (-1)) 0) none)
  (z6 (ZT (y.2.1, y.2.2.1)) fun (y_1 : (List Int × List Int) × List Rc × Int) => ifB (eqI y_1.2.2 0)
   (ifB (ltL n y.2.2.2.2) (z6 (atN y.2.2.2.2 (natI n)) fun (_ : Int) => K (y.1, y.2.1, y.2.2.1, y.2.2.2.1, setN y.2.2.2.2 (natI n) (lenI y_1.2.1)) y_1.2.2) none) (K y y_1.2.2))))
noncomputable def hapC {α : Type} (K : Wv → Int → Option α) (x : Hp) (y : Wv) : Option α :=
 ifB (ltI x.1 1) (K y 4) (ifB (gtI x.1 9) (K y 4) (ifB (eqB y.2.2.2.1 (eqI x.1 8)) (K y 7)
  (ifB (eqI x.1 5) (opC K (eqI x.1 6) x.2.2.1 y) (ifB (eqI x.1 6) (opC K (eqI x.1 6) x.2.2.1 y)
  (ifB (eqI x.1 7) (z6 yK fun (s : Shf) => z6 yw fun (c : List Int) => K (s, y.2.1, y.2.2.1, false, c) 0)
  (ifB (eqI x.1 8) (z6 (ZT (y.2.1, y.2.2.1)) fun (y_1 : (List Int × List Int) × List Rc × Int) => ifB (neI y_1.2.2 0) (K y y_1.2.2)
   (z6 (ZS y_1.2.1) fun (y_2 : Shf × Int) => ifB (eqI y_2.2 0) (K (y_2.1, y_1.1.1, y_1.1.2, true, y.2.2.2.2) y_2.2) (K y y_2.2)))
  (ifB (eqI x.1 1) (wrC K (eqI x.1 9) x.2.2.1 (1, 0, 0, x.2.2.2) y) (ifB (eqI x.1 9) (wrC K (eqI x.1 9) x.2.2.1 (1, 0, 0, x.2.2.2) y)
  (ifB (eqI x.1 4) (wrC K false 0 (4, 0, x.2.2.1, []) y) (wrC K false 0 (x.1, x.2.1, x.2.2.1, []) y))))))))))
def zW : Wv := ([], [], [], false, [])
theorem zoH (w : Wv) (l : List Hp) : Vl w l = z6 (yR w) fun (c : Int) => ifB (neI c 0) (some (zW, [], c)) (ifB (gtI (lenI l) 100) (some (zW, [], 2)) (z6 (yN w) fun (y : Wv) =>
  zk maxR (fun (x : Int × Shf × List Int × List Int × Bool × List Int × List Int) => ifB (ltI x.1 (lenI l))
   (z6 (atI l x.1) fun (h : Hp) => z6 (yN (x.2.1, x.2.2.1, x.2.2.2.1, x.2.2.2.2.1, x.2.2.2.2.2.1)) fun (y_1 : Wv) =>
    hapC (fun v e => ifB (eqI e 0)
     (ifB (ze 8 x.2.2.2.2.2.2 [e]) (some (Sum.inl (wadd IntKind.i64 x.1 1, v.1, v.2.1, v.2.2.1, v.2.2.2.1, v.2.2.2.2, cat x.2.2.2.2.2.2 [e]))) none)
     (ifB (ze 8 x.2.2.2.2.2.2 [e]) (some (Sum.inl (wadd IntKind.i64 x.1 1, x.2.1, x.2.2.1, x.2.2.2.1, x.2.2.2.2.1, x.2.2.2.2.2.1, cat x.2.2.2.2.2.2 [e]))) none)) h y_1)
   (mapO Sum.inr (some ((x.2.1, x.2.2.1, x.2.2.2.1, x.2.2.2.2.1, x.2.2.2.2.2.1), x.2.2.2.2.2.2, 0)))) (0, y.1, y.2.1, y.2.2.1, y.2.2.2.1, y.2.2.2.2, []))) := by kernel_rfl
end Go.Proofs.Y
namespace Go.Proofs.Y
open Go.Rb Go.Kx
abbrev Wd := Shf × (List UInt8 × List UInt8) × Bool × List Int
def wvd (w : Wd) : Wv := wv w.1 w.2.1 w.2.2.1 w.2.2.2
def wrP (w : Wd) (tear : Bool) (n : Int) (r : Rc) : Wd × Int :=
 if (Yk w.1 r).2 = 0 then (if (dPut w.2.1 r).2 = 0 then
  (if tear = true then (if (z10 (dPut w.2.1 r).1 (max 0 (min n (dPut w.2.1 r).1.2.length))).2 = 0 then ((z0X, (z10 (dPut w.2.1 r).1 (max 0 (min n (dPut w.2.1 r).1.2.length))).1, false, [-1, -1, -1]), 0) else (w, (z10 (dPut w.2.1 r).1 (max 0 (min n (dPut w.2.1 r).1.2.length))).2))
  else (if (z3h (dPut w.2.1 r).1).2 = 0 then (((Yk w.1 r).1, (z3h (dPut w.2.1 r).1).1, w.2.2.1, w.2.2.2), 0) else (w, (z3h (dPut w.2.1 r).1).2)))
  else (w, (dPut w.2.1 r).2)) else (w, (Yk w.1 r).2)
def opP (w : Wd) (shut : Bool) (n : Int) : Wd × Int :=
 if n < 0 then (w, 5) else if (w.2.2.2.length : Int) ≤ n then (w, 5) else if shut = true then ((w.1, w.2.1, w.2.2.1, w.2.2.2.set n.toNat (-1)), 0) else
  if (zy w.2.1).2.2 = 0 then ((w.1, w.2.1, w.2.2.1, w.2.2.2.set n.toNat ((zy w.2.1).2.1.length : Int)), 0) else (w, (zy w.2.1).2.2)
def zlX (w : Wd) : Wd × Int :=
 if (zy w.2.1).2.2 = 0 then (if (Zg (zy w.2.1).2.1).2 = 0 then (((Zg (zy w.2.1).2.1).1, (zy w.2.1).1, true, w.2.2.2), 0) else (w, (Zg (zy w.2.1).2.1).2)) else (w, (zy w.2.1).2.2)
def hapP (w : Wd) (x : Hp) : Wd × Int :=
 if x.1 < 1 then (w, 4) else if 9 < x.1 then (w, 4) else if w.2.2.1 = decide (x.1 = 8) then (w, 7) else
 if x.1 = 5 then opP w false x.2.2.1 else if x.1 = 6 then opP w true x.2.2.1 else
 if x.1 = 7 then ((z0X, w.2.1, false, [-1, -1, -1]), 0) else if x.1 = 8 then zlX w else
 if x.1 = 1 then wrP w false x.2.2.1 (1, 0, 0, x.2.2.2) else if x.1 = 9 then wrP w true x.2.2.1 (1, 0, 0, x.2.2.2) else
 if x.1 = 4 then wrP w false 0 (4, 0, x.2.2.1, []) else wrP w false 0 (x.1, x.2.1, x.2.2.1, [])
theorem zjd {d : List UInt8 × List UInt8} {r : Rc} (h : (dPut d r).2 = 0) : (dPut d r).1.1.length + (dPut d r).1.2.length ≤ 60000 := by
 unfold dPut at h ⊢
 split at h
 ·rename_i h1
  rw [if_pos h1]
  split at h
  ·rename_i h2
   rw [if_pos h2]
   split at h
   ·cases h
   ·rename_i h3
    rw [if_neg h3]
    have : (zaC r).length = (vI r).length + 1 := by simp [zaC]
    simp only [List.length_append]
    omega
  ·rename_i h2; exact absurd h h2
 ·rename_i h1; exact absurd h h1
theorem zah : yw = some [-1, -1, -1] := rfl
theorem zdY {α : Type} (K : Wv → Int → Option α) (tear : Bool) (n : Int) (r : Rc) (w : Wd) (hs : okS w.1) (hd : w.2.1.1.length + w.2.1.2.length ≤ 60000) (hr : r.2.2.2.length < 4611686018427387904) :
  wrC K tear n r (wvd w) = K (wvd (wrP w tear n r).1) (wrP w tear n r).2 := by
 unfold wrC wrP
 simp only [wvd, wv]
 rw [zkO _ _ hs hr, z7, zi]
 by_cases c1 : (Yk w.1 r).2 = 0
 ·rw [if_pos c1, if_pos c1, zpN w.2.1 r (by omega) (by omega) hr, z7]
  simp only
  rw [zi]
  by_cases c2 : (dPut w.2.1 r).2 = 0
  ·have hl := zjd c2
   rw [if_pos c2, if_pos c2]
   cases tear with
   | true =>
    rw [Zi, if_pos rfl]
    simp only [bD, zb, ZU]
    rw [show maxI 0 (minI n ((dPut w.2.1 r).1.2.length : Int)) = max 0 (min n ((dPut w.2.1 r).1.2.length : Int)) from rfl, znk (dPut w.2.1 r).1 _ (by omega) (by omega), z7]
    generalize z10 (dPut w.2.1 r).1 (max 0 (min n ((dPut w.2.1 r).1.2.length : Int))) = z
    simp only [bD]
    rw [zf]
    by_cases c3 : z.2 = 0
    ·rw [if_pos c3, if_pos c3, zdt, z7, zah, z7, c3]
    ·rw [if_neg c3, if_neg c3]
   | false =>
    rw [Zv, if_neg (by decide)]
    simp only [bD]
    rw [zoE (dPut w.2.1 r).1 (by omega) (by omega), z7]
    generalize z3h (dPut w.2.1 r).1 = z
    simp only [bD]
    rw [zf]
    by_cases c3 : z.2 = 0
    ·rw [if_pos c3, if_pos c3, c3]
    ·rw [if_neg c3, if_neg c3]
  ·rw [if_neg c2, if_neg c2]
 ·rw [if_neg c1, if_neg c1]
theorem znp {α : Type} (K : Wv → Int → Option α) (shut : Bool) (n : Int) (w : Wd) (hd : w.2.1.1.length + w.2.1.2.length ≤ 60000) :
  opC K shut n (wvd w) = K (wvd (opP w shut n).1) (opP w shut n).2 := by
 unfold opC opP
 simp only [wvd, wv]
 rw [zh, zT, zb]
 by_cases c1 : n < 0
 ·rw [if_pos c1, if_pos c1]
 rw [if_neg c1, if_neg c1]
 by_cases c2 : (w.2.2.2.length : Int) ≤ n
 ·rw [if_pos c2, if_pos c2]
 rw [if_neg c2, if_neg c2]
 have hn : n.toNat < w.2.2.2.length := by omega
 have hat := yV hn
 cases shut with
 | true =>
  rw [Zi, if_pos rfl, zH, if_pos ⟨by omega, by omega⟩, zM, hat, z7, Zl]
 | false =>
  rw [Zv, if_neg (by decide), Jq w.2.1 (by omega) (by omega), z7]
  simp only
  rw [zf]
  by_cases c3 : (zy w.2.1).2.2 = 0
  ·rw [if_pos c3, if_pos c3, zH, if_pos ⟨by omega, by omega⟩, zM, hat, z7, Zl, c3, zb]
  ·rw [if_neg c3, if_neg c3]
theorem zpO {α : Type} (K : Wv → Int → Option α) (x : Hp) (w : Wd) (hs : okS w.1) (hd : w.2.1.1.length + w.2.1.2.length ≤ 60000) (hx : x.2.2.2.length < 4611686018427387904) :
  hapC K x (wvd w) = K (wvd (hapP w x).1) (hapP w x).2 := by
 unfold hapC hapP
 rw [zh, zx]
 by_cases c1 : x.1 < 1
 ·rw [if_pos c1, if_pos c1]
 rw [if_neg c1, if_neg c1]
 by_cases c2 : 9 < x.1
 ·rw [if_pos c2, if_pos c2]
 rw [if_neg c2, if_neg c2, ZF]
 have e8 : eqI x.1 8 = decide (x.1 = 8) := by by_cases h : x.1 = 8 <;> simp [eqI, h]
 rw [e8, show (wvd w).2.2.2.1 = w.2.2.1 from rfl]
 by_cases c3 : w.2.2.1 = decide (x.1 = 8)
 ·rw [if_pos c3, if_pos c3]
 rw [if_neg c3, if_neg c3, zf, zf, zf, zL, zf, zf, zf]
 by_cases k5 : x.1 = 5
 ·rw [if_pos k5, if_pos k5, k5]
  exact znp K false _ w hd
 rw [if_neg k5, if_neg k5]
 by_cases k6 : x.1 = 6
 ·rw [if_pos k6, if_pos k6, k6]
  exact znp K true _ w hd
 rw [if_neg k6, if_neg k6]
 by_cases k7 : x.1 = 7
 ·rw [if_pos k7, if_pos k7, zdt, z7, zah, z7]
  rfl
 rw [if_neg k7, if_neg k7]
 by_cases k8 : x.1 = 8
 ·rw [if_pos k8, if_pos k8]
  unfold zlX
  simp only [wvd, wv]
  rw [Jq w.2.1 (by omega) (by omega), z7]
  simp only
  rw [zi]
  by_cases c4 : (zy w.2.1).2.2 = 0
  ·have hn := zcg w.2.1 c4
   have hok := zaD w.2.1
   rw [if_pos c4, if_pos c4, z9I _ (by omega) (fun r hr => z22 (hok r hr)), z7, zf]
   by_cases c5 : (Zg (zy w.2.1).2.1).2 = 0
   ·rw [if_pos c5, if_pos c5, c5]; rfl
   ·rw [if_neg c5, if_neg c5]
  ·rw [if_neg c4, if_neg c4]
 rw [if_neg k8, if_neg k8]
 by_cases k1 : x.1 = 1
 ·rw [if_pos k1, if_pos k1, k1]
  exact zdY K false _ _ w hs hd hx
 rw [if_neg k1, if_neg k1]
 by_cases k9 : x.1 = 9
 ·rw [if_pos k9, if_pos k9, k9]
  exact zdY K true _ _ w hs hd hx
 rw [if_neg k9, if_neg k9]
 by_cases k4 : x.1 = 4
 ·rw [if_pos k4, if_pos k4]
  exact zdY K false _ _ w hs hd (by simp)
 rw [if_neg k4, if_neg k4]
 exact zdY K false _ _ w hs hd (by simp)
end Go.Proofs.Y
namespace Go.Proofs.Y
open Go.Rb Go.Kx
set_option maxRecDepth 100000
end Go.Proofs.Y
namespace Go.Proofs.Y
open Go.Rb Go.Kx
theorem zgb {s : Shf} {l : List Rc} {up : Bool} {rd : List Int} (h : chkL s l up rd = 0) : (Zg l).2 = 0 ∧ (Zg l).1 = s ∧ rd.length = 3 ∧ rdE l.length up rd = 0 := by
 unfold chkL at h
 by_cases c1 : (Zg l).2 = 0
 ·rw [if_pos c1] at h
  by_cases c2 : (Zg l).1 = s
  ·rw [if_pos c2] at h
   by_cases c3 : rd.length = 3
   ·rw [if_pos c3] at h; exact ⟨c1, c2, c3, h⟩
   ·rw [if_neg c3] at h; cases h
  ·rw [if_neg c2] at h; cases h
 ·rw [if_neg c1] at h; exact absurd h c1
def okW (w : Wd) : Prop := chkS w.1 = 0 ∧ w.2.1.1.length + w.2.1.2.length ≤ 60000 ∧ w.2.2.2.length = 3
theorem z2z {d : List UInt8 × List UInt8} (h : (zy d).2.2 = 0) : ZE d = 0 ∧ (zy d).1.1.length + (zy d).1.2.length ≤ 60000 := by
 unfold zy at h ⊢
 by_cases hc : ZE d = 0
 ·have := vv hc
  rw [if_pos hc]
  refine ⟨hc, ?_⟩
  simp only [List.length_append, List.length_nil, List.length_take]
  omega
 ·rw [if_neg hc] at h; exact absurd h hc
theorem z5u {w : Wd} (h : chkW w.1 w.2.1 w.2.2.1 w.2.2.2 = 0) : okW w ∧ (zy w.2.1).2.2 = 0 ∧ (w.2.2.1 = true → w.2.1.2 = [] ∧ (Zg (zy w.2.1).2.1).2 = 0 ∧ (Zg (zy w.2.1).2.1).1 = w.1) ∧ rdE (if w.2.2.1 = true then (zy w.2.1).2.1.length else 0) w.2.2.1 w.2.2.2 = 0 := by
 unfold chkW at h
 by_cases c1 : (zy w.2.1).2.2 = 0
 ·rw [if_pos c1] at h
  have hd := vv (z2z c1).1
  by_cases c2 : w.2.2.1 = true
  ·rw [if_pos c2] at h
   by_cases c3 : 0 < w.2.1.2.length
   ·rw [if_pos c3] at h; cases h
   ·rw [if_neg c3] at h
    obtain ⟨k1, k2, k3, k4⟩ := zgb h
    exact ⟨⟨by rw [← k2]; exact (z1N k1).2.1, hd, k3⟩, c1, fun _ => ⟨List.eq_nil_of_length_eq_zero (by omega), k1, k2⟩, by rw [if_pos c2]; exact k4⟩
  ·rw [if_neg c2] at h
   obtain ⟨k1, k2, k3, k4⟩ := zgb h
   exact ⟨⟨by rw [← k2]; exact (z1N k1).2.1, hd, k3⟩, c1, fun h => absurd h c2, by rw [if_neg c2]; exact k4⟩
 ·rw [if_neg c1] at h; exact absurd h c1
theorem zdZ {w : Wd} {t : Bool} {n : Int} {r : Rc} (h : okW w) (he : (wrP w t n r).2 = 0) : okW (wrP w t n r).1 := by
 unfold wrP at he ⊢
 by_cases c1 : (Yk w.1 r).2 = 0
 ·rw [if_pos c1] at he ⊢
  by_cases c2 : (dPut w.2.1 r).2 = 0
  ·have hl := zjd c2
   rw [if_pos c2] at he ⊢
   cases t with
   | true =>
    rw [if_pos rfl] at he ⊢
    generalize hz : z10 (dPut w.2.1 r).1 (max 0 (min n ((dPut w.2.1 r).1.2.length : Int))) = z at *
    by_cases c3 : z.2 = 0
    ·rw [if_pos c3]
     refine ⟨z1B, ?_, rfl⟩
     subst hz
     unfold z10 at c3 ⊢
     by_cases q : ZE (dPut w.2.1 r).1 = 0
     ·rw [if_pos q] at c3 ⊢
      split at c3
      ·cases c3
      ·rename_i q2; rw [if_neg q2]; simp only [List.length_take]; omega
     ·rw [if_neg q] at c3; exact absurd c3 q
    ·rw [if_neg c3] at he; exact absurd he c3
   | false =>
    rw [if_neg (by decide)] at he ⊢
    generalize hz : z3h (dPut w.2.1 r).1 = z at *
    by_cases c3 : z.2 = 0
    ·rw [if_pos c3]
     refine ⟨(z49 c1).2.2.2, ?_, h.2.2⟩
     subst hz
     unfold z3h at c3 ⊢
     by_cases q : ZE (dPut w.2.1 r).1 = 0
     ·rw [if_pos q] at c3 ⊢
      split at c3
      ·rename_i q2; rw [if_pos q2]; simp only [List.length_append, List.length_nil]; omega
      ·rename_i q2; exact absurd c3 q2
     ·rw [if_neg q] at c3; exact absurd c3 q
    ·rw [if_neg c3] at he; exact absurd he c3
  ·rw [if_neg c2] at he; exact absurd he c2
 ·rw [if_neg c1] at he; exact absurd he c1
theorem znq {w : Wd} {t : Bool} {n : Int} (h : okW w) : okW (opP w t n).1 := by
 unfold opP
 split
 ·exact h
 ·split
  ·exact h
  ·split
   ·exact ⟨h.1, h.2.1, by simp only [List.length_set]; exact h.2.2⟩
   ·split
    ·exact ⟨h.1, h.2.1, by simp only [List.length_set]; exact h.2.2⟩
    ·exact h
theorem zpP {w : Wd} {x : Hp} (h : okW w) (he : (hapP w x).2 = 0) : okW (hapP w x).1 := by
 unfold hapP at he ⊢
 by_cases c1 : x.1 < 1
 ·rw [if_pos c1]; exact h
 rw [if_neg c1] at he ⊢
 by_cases c2 : 9 < x.1
 ·rw [if_pos c2]; exact h
 rw [if_neg c2] at he ⊢
 by_cases c3 : w.2.2.1 = decide (x.1 = 8)
 ·rw [if_pos c3]; exact h
 rw [if_neg c3] at he ⊢
 by_cases k5 : x.1 = 5
 ·rw [if_pos k5]; exact znq h
 rw [if_neg k5] at he ⊢
 by_cases k6 : x.1 = 6
 ·rw [if_pos k6]; exact znq h
 rw [if_neg k6] at he ⊢
 by_cases k7 : x.1 = 7
 ·rw [if_pos k7]; exact ⟨z1B, h.2.1, rfl⟩
 rw [if_neg k7] at he ⊢
 by_cases k8 : x.1 = 8
 ·rw [if_pos k8] at he ⊢
  unfold zlX at he ⊢
  by_cases c4 : (zy w.2.1).2.2 = 0
  ·rw [if_pos c4] at he ⊢
   by_cases c5 : (Zg (zy w.2.1).2.1).2 = 0
   ·rw [if_pos c5]; exact ⟨(z1N c5).2.1, (z2z c4).2, h.2.2⟩
   ·rw [if_neg c5]; exact h
  ·rw [if_neg c4]; exact h
 rw [if_neg k8] at he ⊢
 by_cases k1 : x.1 = 1
 ·rw [if_pos k1] at he ⊢; exact zdZ h he
 rw [if_neg k1] at he ⊢
 by_cases k9 : x.1 = 9
 ·rw [if_pos k9] at he ⊢; exact zdZ h he
 rw [if_neg k9] at he ⊢
 by_cases k4 : x.1 = 4
 ·rw [if_pos k4] at he ⊢; exact zdZ h he
 rw [if_neg k4] at he ⊢
 exact zdZ h he
def runP : List Hp → Wd → List Int → Wd × List Int
 | [], w, said => (w, said)
 | x :: l, w, said => runP l (if (hapP w x).2 = 0 then (hapP w x).1 else w) (said ++ [(hapP w x).2])
theorem zqz (w : Wd) (l : List Hp) (h1 : w.2.1.1.length < 4611686018427387904) (h2 : w.2.1.2.length < 4611686018427387904) (hrd : w.2.2.2.length < 4611686018427387904) (hx : ∀ x ∈ l, x.2.2.2.length < 4611686018427387904) :
  Vl (wvd w) l = some (if chkW w.1 w.2.1 w.2.2.1 w.2.2.2 = 0 then (if 100 < l.length then (zW, [], 2) else (wvd (runP l w []).1, (runP l w []).2, 0)) else (zW, [], chkW w.1 w.2.1 w.2.2.1 w.2.2.2)) := by
 rw [zoH, show yR (wvd w) = _ from z2y _ _ _ _ h1 h2 hrd, z7, zi]
 by_cases hc : chkW w.1 w.2.1 w.2.2.1 w.2.2.2 = 0
 ·obtain ⟨ho, _⟩ := z5u hc
  rw [if_pos hc, if_pos hc, zx, zb]
  by_cases hl : 100 < l.length
  ·rw [if_pos (by omega), if_pos hl]
  rw [if_neg (by omega), if_neg hl, show yN (wvd w) = some (wvd w) from zaf _ _ _ _ ho.1 ho.2.1 ho.2.2, z7]
  refine zR l (fun j (s : Wd × List Int) => ((j : Int), (wvd s.1).1, (wvd s.1).2.1, (wvd s.1).2.2.1, (wvd s.1).2.2.2.1, (wvd s.1).2.2.2.2, s.2)) (G := fun rest s => some (wvd (runP rest s.1 s.2).1, (runP rest s.1 s.2).2, 0)) (P := fun j s => okW s.1 ∧ s.2.length = j) (s0 := (w, [])) ?_ ?_ ⟨ho, rfl⟩ (by omega)
  ·rintro j ⟨v, said⟩ hj ⟨hv, hs⟩ k hk
   have hat := zK hj
   have hm : l.getD j default ∈ l := by simp only [List.getD, List.getElem?_eq_getElem hj, Option.getD_some]; exact List.getElem_mem hj
   have hxx := hx _ hm
   generalize l.getD j default = x at *
   simp only at hv hs ⊢
   rw [za, zw, zh, if_pos (by omega), hat, z7, zw, show yN ((wvd v).1, (wvd v).2.1, (wvd v).2.2.1, (wvd v).2.2.2.1, (wvd v).2.2.2.2) = some (wvd v) from zaf _ _ _ _ hv.1 hv.2.1 hv.2.2, z7, zpO _ x v (z1Y hv.1) hv.2.1 hxx, runP, za, zf]
   by_cases he : (hapP v x).2 = 0
   ·rw [if_pos he, if_pos he, za, zz, if_pos (by simp; omega), zq, zF (by omega), zY]
    exact hk ((hapP v x).1, said ++ [(hapP v x).2]) ⟨zpP hv he, by simp; omega⟩
   ·rw [if_neg he, if_neg he, za, zz, if_pos (by simp; omega), zq, zF (by omega), zY]
    exact hk (v, said ++ [(hapP v x).2]) ⟨hv, by simp; omega⟩
  ·rintro ⟨v, said⟩ ⟨hv, hs⟩ k
   rw [za, zd, zh, if_neg (by simp only; omega)]
   rfl
 ·rw [if_neg hc, if_neg hc]
end Go.Proofs.Y
namespace Go.Proofs.Y
open Go.Rb Go.Kx
set_option maxRecDepth 100000
end Go.Proofs.Y
namespace Go.Proofs.Y
open Go.Rb Go.Kx
set_option maxRecDepth 100000
end Go.Proofs.Y
namespace Go.Proofs.Y
open Go.Rb Go.Kx
set_option maxRecDepth 100000
end Go.Proofs.Y
namespace Go.Proofs.Y
open Go.Rb Go.Kx
set_option maxRecDepth 100000
end Go.Proofs.Y
namespace Go.Proofs.Y
open Go.Rb Go.Kx
end Go.Proofs.Y
namespace Go.Proofs.Y
open Go.Rb Go.Kx
end Go.Proofs.Y
namespace Go.Proofs.Y
open Go.Rb Go.Kx
set_option maxRecDepth 100000
end Go.Proofs.Y
namespace Go.Proofs.Y
open Go.Rb Go.Kx
theorem Y9 {α β : Type} {o : Option α} {a : α} (h : o = some a) (f : α → Option β) : z6 o f = f a := by rw [h]; rfl
def w0 : Wd := (z0X, ([], []), true, [-1, -1, -1])
def l1 : List Hp := [(1, 0, 0, [(1, 5, 10)]), (5, 0, 2, []), (1, 0, 0, [(1, 6, 12)]), (1, 0, 0, [(1, 6, 12)]), (2, 1, 2, []), (4, 0, 9, [])]
def l2 : List Hp := [(7, 0, 0, []), (1, 0, 0, [(1, 7, 14)]), (8, 0, 0, [])]
theorem znr : Jr = some (wvd w0) := by
 unfold Jr
 rw [zdt, z7, zah, z7]; rfl
theorem chk0 : chkW w0.1 w0.2.1 w0.2.2.1 w0.2.2.2 = 0 := by decide +kernel
end Go.Proofs.Y
namespace Go.Proofs.Y
open Go.Rb Go.Kx
set_option maxRecDepth 100000
end Go.Proofs.Y
namespace Go.Proofs.Y
open Go.Rb Go.Kx
end Go.Proofs.Y
namespace Go.Proofs.Y
open Go.Rb Go.Kx
theorem zch (most all : Int) : ∀ (ws : List (List UInt8)) (acc : List Rc), (acc.length : Int) ≤ most → ((lnW most all ws acc).1.length : Int) ≤ most
 | [], acc, h => h
 | w :: ws, acc, h => by
  rw [lnW]
  split
  ·split
   ·exact h
   ·exact h
  ·split
   ·split
    ·exact h
    ·exact zch most all ws _ (by simp only [List.length_append, List.length_cons, List.length_nil]; omega)
   ·exact h
theorem zje (s : List UInt8) : (lnP 60 s).1.length ≤ 60 := by
 have := zch 60 s.length (sp 10 s) [] (by simp)
 unfold lnP
 omega
end Go.Proofs.Y
namespace Go.Proofs.Y
open Go.Rb Go.Kx
set_option maxRecDepth 100000
end Go.Proofs.Y
namespace Go.Proofs.Y
open Go.Rb Go.Kx
set_option maxRecDepth 100000
end Go.Proofs.Y
namespace Go.Proofs.Y
open Go.Rb Go.Kx
end Go.Proofs.Y
namespace Go.Proofs.Y
open Go.Rb Go.Kx
set_option maxRecDepth 100000
end Go.Proofs.Y
namespace Go.Proofs.Y
open Go.Rb Go.Kx
end Go.Proofs.Y
namespace Go.Proofs.Y
open Go.Rb Go.Kx
set_option maxRecDepth 100000
end Go.Proofs.Y
namespace Go.Proofs.Y
open Go.Rb Go.Kx
theorem zk4 {s w : List UInt8} (h : ZE (s, w) = 0) : (lnP 60 s).2.2 = 0 := by
 unfold ZE at h
 split at h
 ·cases h
 ·split at h
  ·cases h
  ·exact h
end Go.Proofs.Y
namespace Go.Proofs.Y
open Go.Rb Go.Kx
end Go.Proofs.Y
namespace Go.Proofs.Y
open Go.Rb Go.Kx
noncomputable abbrev ze0 : GS := .r (libS [.v (.one .str) false, .v (.one (.int .i64)) false, .v (.one (.int .i64)) false] (fun x => z0o (x.1) (x.2.1) (x.2.2)) gErr)
theorem zgz : GSOK Tryz.prog 156 ze0 := zos
end Go.Proofs.Y
namespace Go.Proofs.Y
open Go.Rb Go.Kx
noncomputable abbrev zjf : GS := .r (libS [.v (.one (.int .i64)) false, .v (.one (.int .i64)) false] (fun x => fmtO (x.1) (x.2)) gStr)
theorem zk5 : GSOK Tryz.prog 157 zjf := zqt
end Go.Proofs.Y
namespace Go.Proofs.Y
open Go.Rb Go.Kx
noncomputable def z0d : Code := zl Tryz.f129
noncomputable def z0e : FuncId → Option GS := tabG [(122, zlR), (156, ze0), (157, zjf), (103, vy)]
theorem z6K : ΓOK Tryz.prog z0e := z8 (ziJ) (z8 (zgz) (z8 (zk5) (z8 (Vq) (zg))))
def z0f : HT := ⟨tabL [(3, .it [] (dyn [.t 5 (.str), .t 6 (.bool), .a 7 3 (.one (.int .i64)), .c 2 0 (.int .i64), .c 2 1 (.int .i64), .c 2 2 (.int .i64), .c 2 3 (.sl 77 (.cons (.int .i64) (.cons (.int .i64) (.one (.int .i64)))))])), (14, .it [] (dyn [.t 7 (.sl 3 (.one (.int .i64))), .b 11 3 77 (.cons (.int .i64) (.cons (.int .i64) (.one (.int .i64))))]))], tabH [(12, [.frz 7])]⟩
abbrev vE : List IT := [.v (.one .str) false]
abbrev Js : List OT := [⟨.cons (.int .i64) (.cons (.int .i64) (.cons (.int .i64) (.one (.sl 77 (.cons (.int .i64) (.cons (.int .i64) (.one (.int .i64)))))))), true, []⟩, ⟨.one (.int .i64), false, []⟩]
set_option maxRecDepth 100000
noncomputable def yX : List UInt8 → Option ((Int × Int × Int × List (Int × Int × Int)) × Int) := fun a => z6 (cutO a [32]) fun y => zk maxR (fun (x : List UInt8 × Bool × Int × Int × Int × List (Int × Int × Int) × List Int) => ifB x.2.1 (z6 (cutO x.1 [32]) fun y => z6 (z0o y.1 10 64) fun y_1 => ifB y_1.2 (mapO Sum.inr (some ((0, 0, 0, []), 1))) (z6 (fmtO y_1.1 10) fun y_2 => ifB (notB (eqS y_2 y.1)) (mapO Sum.inr (some ((0, 0, 0, []), 1))) (ifB (ze 8 x.2.2.2.2.2.2 [y_1.1]) (some (Sum.inl (y.2.1, y.2.2, x.2.2.1, x.2.2.2.1, x.2.2.2.2.1, x.2.2.2.2.2.1, cat x.2.2.2.2.2.2 [y_1.1]))) none))) (mapO Sum.inr (ifB (eqS y.1 [98, 97, 116, 99, 104]) (ifB (eqI (wrem (lenI x.2.2.2.2.2.2) 3) 0) (zk maxR (fun (x : List Int × List (Int × Int × Int)) => ifB (gtI (lenI x.1) 0) (z6 (atI x.1 0) fun y => z6 (atI x.1 1) fun y_1 => z6 (atI x.1 2) fun y_2 => ifB (ze 24 x.2 [(y, y_1, y_2)]) (ifB (in1 x.1 3) (some (Sum.inl (yb x.1 3, cat x.2 [(y, y_1, y_2)]))) none) none) (mapO Sum.inr (z6 (zp (1, 0, 0, x.2)) fun y => ifB (neI y 0) (some ((0, 0, 0, []), y)) (some ((1, 0, 0, x.2), 0))))) (x.2.2.2.2.2.2, [])) (ifB (eqS y.1 [115, 101, 97, 108]) (ifB (eqI (lenI x.2.2.2.2.2.2) 2) (z6 (atI x.2.2.2.2.2.2 0) fun y => z6 (atI x.2.2.2.2.2.2 1) fun y_1 => z6 (zp (2, y, y_1, [])) fun y_2 => ifB (neI y_2 0) (some ((0, 0, 0, []), y_2)) (some ((2, y, y_1, []), 0))) (ifB (eqS y.1 [109, 101, 114, 103, 101]) (ifB (eqI (lenI x.2.2.2.2.2.2) 2) (z6 (atI x.2.2.2.2.2.2 0) fun y => z6 (atI x.2.2.2.2.2.2 1) fun y_1 => z6 (zp (3, y, y_1, [])) fun y_2 => ifB (neI y_2 0) (some ((0, 0, 0, []), y_2)) (some ((3, y, y_1, []), 0))) (ifB (eqS y.1 [100, 114, 111, 112]) (ifB (eqI (lenI x.2.2.2.2.2.2) 1) (z6 (atI x.2.2.2.2.2.2 0) fun y => z6 (zp (4, 0, y, [])) fun y_1 => ifB (neI y_1 0) (some ((0, 0, 0, []), y_1)) (some ((4, 0, y, []), 0))) (some ((0, 0, 0, []), 1))) (some ((0, 0, 0, []), 1)))) (ifB (eqS y.1 [100, 114, 111, 112]) (ifB (eqI (lenI x.2.2.2.2.2.2) 1) (z6 (atI x.2.2.2.2.2.2 0) fun y => z6 (zp (4, 0, y, [])) fun y_1 => ifB (neI y_1 0) (some ((0, 0, 0, []), y_1)) (some ((4, 0, y, []), 0))) (some ((0, 0, 0, []), 1))) (some ((0, 0, 0, []), 1))))) (ifB (eqS y.1 [109, 101, 114, 103, 101]) (ifB (eqI (lenI x.2.2.2.2.2.2) 2) (z6 (atI x.2.2.2.2.2.2 0) fun y => z6 (atI x.2.2.2.2.2.2 1) fun y_1 => z6 (zp (3, y, y_1, [])) fun y_2 => ifB (neI y_2 0) (some ((0, 0, 0, []), y_2)) (some ((3, y, y_1, []), 0))) (ifB (eqS y.1 [100, 114, 111, 112]) (ifB (eqI (lenI x.2.2.2.2.2.2) 1) (z6 (atI x.2.2.2.2.2.2 0) fun y => z6 (zp (4, 0, y, [])) fun y_1 => ifB (neI y_1 0) (some ((0, 0, 0, []), y_1)) (some ((4, 0, y, []), 0))) (some ((0, 0, 0, []), 1))) (some ((0, 0, 0, []), 1)))) (ifB (eqS y.1 [100, 114, 111, 112]) (ifB (eqI (lenI x.2.2.2.2.2.2) 1) (z6 (atI x.2.2.2.2.2.2 0) fun y => z6 (zp (4, 0, y, [])) fun y_1 => ifB (neI y_1 0) (some ((0, 0, 0, []), y_1)) (some ((4, 0, y, []), 0))) (some ((0, 0, 0, []), 1))) (some ((0, 0, 0, []), 1)))))) (ifB (eqS y.1 [115, 101, 97, 108]) (ifB (eqI (lenI x.2.2.2.2.2.2) 2) (z6 (atI x.2.2.2.2.2.2 0) fun y => z6 (atI x.2.2.2.2.2.2 1) fun y_1 => z6 (zp (2, y, y_1, [])) fun y_2 => ifB (neI y_2 0) (some ((0, 0, 0, []), y_2)) (some ((2, y, y_1, []), 0))) (ifB (eqS y.1 [109, 101, 114, 103, 101]) (ifB (eqI (lenI x.2.2.2.2.2.2) 2) (z6 (atI x.2.2.2.2.2.2 0) fun y => z6 (atI x.2.2.2.2.2.2 1) fun y_1 => z6 (zp (3, y, y_1, [])) fun y_2 => ifB (neI y_2 0) (some ((0, 0, 0, []), y_2)) (some ((3, y, y_1, []), 0))) (ifB (eqS y.1 [100, 114, 111, 112]) (ifB (eqI (lenI x.2.2.2.2.2.2) 1) (z6 (atI x.2.2.2.2.2.2 0) fun y => z6 (zp (4, 0, y, [])) fun y_1 => ifB (neI y_1 0) (some ((0, 0, 0, []), y_1)) (some ((4, 0, y, []), 0))) (some ((0, 0, 0, []), 1))) (some ((0, 0, 0, []), 1)))) (ifB (eqS y.1 [100, 114, 111, 112]) (ifB (eqI (lenI x.2.2.2.2.2.2) 1) (z6 (atI x.2.2.2.2.2.2 0) fun y => z6 (zp (4, 0, y, [])) fun y_1 => ifB (neI y_1 0) (some ((0, 0, 0, []), y_1)) (some ((4, 0, y, []), 0))) (some ((0, 0, 0, []), 1))) (some ((0, 0, 0, []), 1))))) (ifB (eqS y.1 [109, 101, 114, 103, 101]) (ifB (eqI (lenI x.2.2.2.2.2.2) 2) (z6 (atI x.2.2.2.2.2.2 0) fun y => z6 (atI x.2.2.2.2.2.2 1) fun y_1 => z6 (zp (3, y, y_1, [])) fun y_2 => ifB (neI y_2 0) (some ((0, 0, 0, []), y_2)) (some ((3, y, y_1, []), 0))) (ifB (eqS y.1 [100, 114, 111, 112]) (ifB (eqI (lenI x.2.2.2.2.2.2) 1) (z6 (atI x.2.2.2.2.2.2 0) fun y => z6 (zp (4, 0, y, [])) fun y_1 => ifB (neI y_1 0) (some ((0, 0, 0, []), y_1)) (some ((4, 0, y, []), 0))) (some ((0, 0, 0, []), 1))) (some ((0, 0, 0, []), 1)))) (ifB (eqS y.1 [100, 114, 111, 112]) (ifB (eqI (lenI x.2.2.2.2.2.2) 1) (z6 (atI x.2.2.2.2.2.2 0) fun y => z6 (zp (4, 0, y, [])) fun y_1 => ifB (neI y_1 0) (some ((0, 0, 0, []), y_1)) (some ((4, 0, y, []), 0))) (some ((0, 0, 0, []), 1))) (some ((0, 0, 0, []), 1)))))))) (y.2.1, y.2.2, 0, 0, 0, [], [])
theorem z4h (x : PI vE) : yX x = fnE T z0e z0f z0d (zu Tryz.f129) vE Js x := by kernel_rfl
noncomputable abbrev z0g : GS := zt false vE Js fun x => yX x
theorem z4i : GSOK Tryz.prog 129 z0g := zm tok z6K fmo (Ht := z0f) (fn := Tryz.f129) (Tryz.func129) (c := z0d) (by kernel_rfl) (by kernel_rfl) (by kernel_rfl) (by decide +kernel) (by decide) z4h
end Go.Proofs.Y
namespace Go.Proofs.Y
open Go.Rb Go.Kx
noncomputable def rrK (k a b : Int) : Option (Rc × Int) := z6 (zp (k, a, b, [])) fun (e : Int) => ifB (neI e 0) (some ((0, 0, 0, []), e)) (some ((k, a, b, []), 0))
noncomputable def rrD (w : List UInt8) (ns : List Int) : Option (Rc × Int) := ifB (eqS w [100, 114, 111, 112]) (ifB (eqI (lenI ns) 1) (z6 (atI ns 0) fun (y : Int) => rrK 4 0 y) (some ((0, 0, 0, []), 1))) (some ((0, 0, 0, []), 1))
noncomputable def rrM (w : List UInt8) (ns : List Int) : Option (Rc × Int) := ifB (eqS w [109, 101, 114, 103, 101]) (ifB (eqI (lenI ns) 2) (z6 (atI ns 0) fun (y : Int) => z6 (atI ns 1) fun (z : Int) => rrK 3 y z) (rrD w ns)) (rrD w ns)
noncomputable def rrS (w : List UInt8) (ns : List Int) : Option (Rc × Int) := ifB (eqS w [115, 101, 97, 108]) (ifB (eqI (lenI ns) 2) (z6 (atI ns 0) fun (y : Int) => z6 (atI ns 1) fun (z : Int) => rrK 2 y z) (rrM w ns)) (rrM w ns)
noncomputable def rrL (ns : List Int) : Option (Rc × Int) := zk maxR (fun (x : List Int × List Ent) => ifB (gtI (lenI x.1) 0) (z6 (atI x.1 0) fun (y : Int) => z6 (atI x.1 1) fun (z : Int) => z6 (atI x.1 2) fun (v : Int) =>
  ifB (ze 24 x.2 [(y, z, v)]) (ifB (in1 x.1 3) (some (Sum.inl (yb x.1 3, cat x.2 [(y, z, v)]))) none) none)
 (mapO Sum.inr (z6 (zp (1, 0, 0, x.2)) fun (e : Int) => ifB (neI e 0) (some ((0, 0, 0, []), e)) (some ((1, 0, 0, x.2), 0))))) (ns, [])
noncomputable def rrB (w : List UInt8) (ns : List Int) : Option (Rc × Int) := ifB (eqS w [98, 97, 116, 99, 104]) (ifB (eqI (wrem (lenI ns) 3) 0) (rrL ns) (rrS w ns)) (rrS w ns)
theorem zjg (a : List UInt8) : yX a = z6 (cutO a [32]) fun (y : List UInt8 × List UInt8 × Bool) =>
  zk maxR (fun (x : List UInt8 × Bool × Int × Int × Int × List Ent × List Int) => ifB x.2.1
   (z6 (cutO x.1 [32]) fun (y : List UInt8 × List UInt8 × Bool) => z6 (z0o y.1 10 64) fun (v : Int × Bool) => ifB v.2 (mapO Sum.inr (some ((0, 0, 0, []), 1)))
    (z6 (fmtO v.1 10) fun (t : List UInt8) => ifB (notB (eqS t y.1)) (mapO Sum.inr (some ((0, 0, 0, []), 1))) (ifB (ze 8 x.2.2.2.2.2.2 [v.1]) (some (Sum.inl (y.2.1, y.2.2, x.2.2.1, x.2.2.2.1, x.2.2.2.2.1, x.2.2.2.2.2.1, cat x.2.2.2.2.2.2 [v.1]))) none)))
   (mapO Sum.inr (rrB y.1 x.2.2.2.2.2.2))) (y.2.1, y.2.2, 0, 0, 0, [], []) := by kernel_rfl
theorem zqA (k a b : Int) : rrK k a b = some (if zG (k, a, b, []) = 0 then ((k, a, b, []), 0) else (YF, zG (k, a, b, []))) := by
 unfold rrK
 rw [z5R (k, a, b, []) (by simp), z7, zi]
 split <;> rfl
theorem zqB (ns : List Int) (h3 : ns.length % 3 = 0) (hl : ns.length ≤ 100000) : rrL ns = some (if zG (1, 0, 0, trip ns) = 0 then ((1, 0, 0, trip ns), 0) else (YF, zG (1, 0, 0, trip ns))) := by
 unfold rrL
 have key := yB (f := fun (x : List Int × List Ent) => ifB (gtI (lenI x.1) 0) (z6 (atI x.1 0) fun (y : Int) => z6 (atI x.1 1) fun (z : Int) => z6 (atI x.1 2) fun (v : Int) =>
   ifB (ze 24 x.2 [(y, z, v)]) (ifB (in1 x.1 3) (some (Sum.inl (yb x.1 3, cat x.2 [(y, z, v)]))) none) none)
  (mapO Sum.inr (z6 (zp (1, 0, 0, x.2)) fun (e : Int) => ifB (neI e 0) (some (((0, 0, 0, []) : Rc), e)) (some ((1, 0, 0, x.2), 0)))))
  (G := fun x => some (if zG (1, 0, 0, x.2 ++ trip x.1) = 0 then ((1, 0, 0, x.2 ++ trip x.1), 0) else (YF, zG (1, 0, 0, x.2 ++ trip x.1)))) (P := fun x => x.1.length % 3 = 0 ∧ x.1.length + x.2.length ≤ 100000) (μ := fun x => x.1.length) ?_ maxR (ns, []) ⟨h3, by simpa using hl⟩ (by unfold maxR; simp only; omega)
 ·simpa using key
 ·rintro ⟨l, acc⟩ ⟨p1, p2⟩ k hk
  simp only at p1 p2 hk ⊢
  rw [za, zx, zb]
  match l, p1, p2, hk with
  | [], p1, p2, hk =>
   rw [if_neg (by simp), zd, z5R (1, 0, 0, acc) (by simp at p2 ⊢; omega), z7, zi]
   simp only [trip, List.append_nil]
   split <;> rfl
  | [_], p1, _, _ => simp at p1
  | [_, _], p1, _, _ => simp at p1
  | a :: b :: c :: l, p1, p2, hk =>
   simp only [List.length_cons] at p1 p2 hk
   rw [if_pos (by simp only [List.length_cons]; omega)]
   show yg (z6 (some a) fun (y : Int) => z6 (some b) fun (z : Int) => z6 (some c) _) k = _
   rw [z7, z7, z7, za, zz, if_pos (by simp only [List.length_cons, List.length_nil]; omega), za, zD, if_pos ⟨by omega, by simp only [List.length_cons]; omega⟩, zq, Z1, zY]
   have := hk (l, acc ++ [(a, b, c)]) ⟨by simp only; omega, by simp only [List.length_append, List.length_cons, List.length_nil]; omega⟩ (by simp only; omega)
   refine Eq.trans this ?_
   simp only [trip, List.append_assoc, List.singleton_append]
   rfl
theorem zkT (w v : List UInt8) : eqS w v = decide (w = v) := by unfold eqS; by_cases h : w = v <;> simp [h]
theorem zqC (w : List UInt8) (ns : List Int) (hl : ns.length ≤ 100000) : rrB w ns = some (endP (ixW kindW w 0) ns) := by
 unfold rrB rrS rrM rrD
 simp only [zkT, zL, zf, zb, zp2, zqA]
 by_cases c1 : w = [98, 97, 116, 99, 104]
 ·have n2 : ¬ w = [115, 101, 97, 108] := by rw [c1]; decide
  have n3 : ¬ w = [109, 101, 114, 103, 101] := by rw [c1]; decide
  have n4 : ¬ w = [100, 114, 111, 112] := by rw [c1]; decide
  have e : ixW kindW w 0 = 1 := by rw [c1]; decide
  rw [e, if_pos c1, if_neg n2, if_neg n3, if_neg n4]
  unfold endP V9
  by_cases c2 : ns.length % 3 = 0
  ·rw [if_pos (by omega), zqB ns c2 hl, if_pos rfl, if_pos c2]
  ·rw [if_neg (by omega), if_pos rfl, if_neg c2]; rfl
 rw [if_neg c1]
 by_cases c2 : w = [115, 101, 97, 108]
 ·have n3 : ¬ w = [109, 101, 114, 103, 101] := by rw [c2]; decide
  have n4 : ¬ w = [100, 114, 111, 112] := by rw [c2]; decide
  have e : ixW kindW w 0 = 2 := by rw [c2]; decide
  rw [e, if_pos c2, if_neg n3, if_neg n4]
  match ns with
  | [a, b] => rfl
  | [] => rfl
  | [_] => rfl
  | _ :: _ :: _ :: _ => rw [if_neg (by simp only [List.length_cons]; omega)]; rfl
 rw [if_neg c2]
 by_cases c3 : w = [109, 101, 114, 103, 101]
 ·have n4 : ¬ w = [100, 114, 111, 112] := by rw [c3]; decide
  have e : ixW kindW w 0 = 3 := by rw [c3]; decide
  rw [e, if_pos c3, if_neg n4]
  match ns with
  | [a, b] => rfl
  | [] => rfl
  | [_] => rfl
  | _ :: _ :: _ :: _ => rw [if_neg (by simp only [List.length_cons]; omega)]; rfl
 rw [if_neg c3]
 by_cases c4 : w = [100, 114, 111, 112]
 ·have e : ixW kindW w 0 = 4 := by rw [c4]; decide
  rw [e, if_pos c4]
  match ns with
  | [a] => rfl
  | [] => rfl
  | _ :: _ :: _ => rw [if_neg (by simp only [List.length_cons]; omega)]; rfl
 rw [if_neg c4]
 have e : ixW kindW w 0 = 0 ∨ ixW kindW w 0 = -1 := by
  unfold kindW
  by_cases c0 : w = []
  ·rw [c0]; exact .inl (by decide)
  ·refine .inr ?_
   simp only [ixW, if_neg c0, if_neg c1, if_neg c2, if_neg c3, if_neg c4]
 rcases e with e | e <;> rw [e] <;> rfl
def z6L (more : Bool) (s : List UInt8) : List (List UInt8) := if more = true then sp 32 s else []
theorem zns (x : List UInt8) (r : List (List UInt8)) : nums (x :: r) = match Lib.atoiAll x with | .ok v => if Lib.itoa v = x then (nums r).map (v :: ·) else none | _ => none := rfl
theorem zkU {s : List UInt8} (h : s.length ≤ 100000) : cutO s [32] = some (Lib.cut s [32]) := by unfold cutO; rw [if_pos (by omega)]
theorem znt {s : List UInt8} (h : s.length ≤ 100000) : z0o s 10 64 = some (endO (Lib.atoiAll s) (Lib.atoiSat s)) := by
 unfold z0o
 rw [if_pos ⟨by omega, rfl, rfl⟩, Lib.parseIntB_64, Lib.intSat_64]
theorem zlY (s : List UInt8) (hs : s.length ≤ 60000) : yX s = some (yM s) := by
 have hp : yM s = zdS ((sp 32 s).headD []) (sp 32 s).tail := by unfold yM; rw [if_neg (by omega)]
 rw [zjg, zkU (by omega), z7, hp]
 obtain ⟨w, l, m, e, hl, hh, ht⟩ : ∃ w l m, Lib.cut s [32] = (w, l, m) ∧ l.length ≤ 60000 ∧ (sp 32 s).headD [] = w ∧ (sp 32 s).tail = z6L m l := by
  rcases z7o 32 s with hn | ⟨w, l, rfl, hn⟩
  ·exact ⟨s, [], false, zcc hn, by simp, by rw [zaA 32 hn]; rfl, by rw [zaA 32 hn]; rfl⟩
  ·refine ⟨w, l, true, zcd hn, ?_, by rw [za6 32 w l hn]; rfl, by rw [za6 32 w l hn]; rfl⟩
   simp only [List.length_append, List.length_cons] at hs; omega
 rw [e, hh, ht]
 simp only
 have key := yB (f := fun (x : List UInt8 × Bool × Int × Int × Int × List Ent × List Int) => ifB x.2.1
   (z6 (cutO x.1 [32]) fun (y : List UInt8 × List UInt8 × Bool) => z6 (z0o y.1 10 64) fun (v : Int × Bool) => ifB v.2 (mapO Sum.inr (some (((0, 0, 0, []) : Rc), (1 : Int))))
    (z6 (fmtO v.1 10) fun (t : List UInt8) => ifB (notB (eqS t y.1)) (mapO Sum.inr (some ((0, 0, 0, []), 1))) (ifB (ze 8 x.2.2.2.2.2.2 [v.1]) (some (Sum.inl (y.2.1, y.2.2, x.2.2.1, x.2.2.2.1, x.2.2.2.2.1, x.2.2.2.2.2.1, cat x.2.2.2.2.2.2 [v.1]))) none)))
   (mapO Sum.inr (rrB w x.2.2.2.2.2.2)))
  (G := fun x => some (match nums (z6L x.2.1 x.1) with | none => (YF, 1) | some ns => endP (ixW kindW w 0) (x.2.2.2.2.2.2 ++ ns))) (P := fun x => x.1.length + (if x.2.1 = true then 1 else 0) + x.2.2.2.2.2.2.length ≤ 60001) (μ := fun x => if x.2.1 = true then x.1.length + 1 else 0) ?_ maxR (l, m, 0, 0, 0, [], []) (by simp only [List.length_nil]; split <;> omega) (by unfold maxR; simp only; split <;> omega)
 ·refine key.trans ?_
  rw [zfX]; rfl
 ·rintro ⟨t, more, z1, z2, z3, z4, acc⟩ hp k hk
  simp only at hp hk ⊢
  rw [za]
  cases more with
  | false =>
   rw [if_neg (by decide)] at hp
   rw [Zv, zd, zqC w acc (by omega)]
   show some (endP (ixW kindW w 0) acc) = some (endP (ixW kindW w 0) (acc ++ []))
   rw [List.append_nil]
  | true =>
   rw [if_pos rfl] at hp
   rw [Zi, zkU (by omega), z7]
   obtain ⟨v, r, m2, e2, hv, hr, hw, hlt⟩ : ∃ v r m2, Lib.cut t [32] = (v, r, m2) ∧ v.length ≤ t.length ∧ r.length ≤ t.length ∧ z6L true t = v :: z6L m2 r ∧ (m2 = true → r.length < t.length) := by
    rcases z7o 32 t with hn | ⟨v, r, rfl, hn⟩
    ·exact ⟨t, [], false, zcc hn, by omega, by simp, by show sp 32 t = _; rw [zaA 32 hn]; rfl, by simp⟩
    ·refine ⟨v, r, true, zcd hn, by simp, by simp only [List.length_append, List.length_cons]; omega, by show sp 32 _ = _; rw [za6 32 v r hn]; rfl, fun _ => by simp only [List.length_append, List.length_cons]; omega⟩
   rw [e2, hw, zns]
   simp only
   rw [znt (by omega), z7]
   rcases hx : Lib.atoiAll v with n | _ | _
   ·have hb := Lib.atoiAll_bounds hx
    have hf : fmtO n 10 = some (Lib.itoa n) := by unfold fmtO; rw [if_pos ⟨rfl, hb.1, hb.2⟩]
    simp only [endO]
    rw [za, Zv, hf, z7, za, zB, zkT, zL]
    by_cases c : Lib.itoa n = v
    ·rw [if_pos c, if_pos c, za, zz, if_pos (by simp only [List.length_cons, List.length_nil]; omega), zq, zY]
     refine Eq.trans (hk (r, m2, z1, z2, z3, z4, acc ++ [n]) ?_ ?_) ?_
     ·simp only [List.length_append, List.length_cons, List.length_nil]
      cases m2 with
      | true => have := hlt rfl; rw [if_pos rfl]; omega
      | false => rw [if_neg (by decide)]; omega
     ·cases m2 with
      | true => have := hlt rfl; simp only [if_true]; omega
      | false => simp
     ·simp only
      cases nums (z6L m2 r) <;> simp
    ·rw [if_neg c, if_neg c]; rfl
   ·simp only [endO]; rw [za, Zi]; rfl
   ·simp only [endO]; rw [za, Zi]; rfl
end Go.Proofs.Y
