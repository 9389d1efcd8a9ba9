/-
  What is proved, part by part: facts on the types of the program. what rainbookref.FreshShelf comes to. what note.Check comes to. what rainbookref.in comes to. what rainbookref.CheckPoint comes to. what rainbookref.CheckRec comes to. what rainbookref.Decoded comes to. what rainbookref.UnpackedOf comes to. what rainbookref.PointsOf comes to. what rainbookref.CheckPoints comes to. what rainbookref.RowPoints comes to. what rainbookref.CheckShelf comes to. what slices.Clone[[]api.Row,api.Row] comes to. what slices.Clone[[]api.Point,api.Point] comes to. what rainbookref.PutAll comes to. what slices.Clone[[]bool,bool] comes to. what rainbookref.Coded comes to. what rainbookref.PackedOf comes to. what rainbookref.BlockOf comes to. what slices.Clone[[]api.Block,api.Block] comes to. what rainbookref.Sealed comes to. what rainbookref.Merged comes to. what slices.Grow[[]api.Block,api.Block] comes to. what slices.Concat[[]api.Block,api.Block] comes to. what rainbookref.MergedRow comes to. what rainbookref.Dropped comes to. what rainbookref.nexted comes to. what rainbookref.Nexted comes to. what rainbookref.ShelfOf comes to. what bits.Read comes to. what zig.Read comes to. what line.Check comes to. what line.Unpack comes to. what block.Points comes to. what shelf.all comes to. what shelf.Check comes to. what block.Copy comes to. what shelf.Copy comes to. what shelf.Put comes to. what zig.fold comes to. what bits.Put comes to. what zig.Put comes to. what line.Pack comes to. what block.Make comes to. what shelf.Seal comes to. what slices.Grow[[]api.Point,api.Point] comes to. what slices.Concat[[]api.Point,api.Point] comes to. what block.Merge comes to. what slices.Delete[[]api.Block,api.Block] comes to. Conditions: none.
-/
import Derived.Test.YtnkegapccacndaaGreatDoorKED
import Derived.Test.YtnkegapccacndaaGreatDoorProg
import Derived.KernelRfl
set_option linter.unusedVariables false
set_option linter.unusedSimpArgs false
set_option linter.unnecessarySimpa false
set_option maxRecDepth 4000
namespace Go.Proofs.Y
open Go.Rb Go.Kx
theorem okT2 : OkTD Tryz.prog 2 ⟨.int .i64, 1, 8, some (.one (.int .i64))⟩ := ⟨⟨by kernel_rfl, by kernel_rfl, by kernel_rfl⟩, Tryz.underlying2, ⟨by kernel_rfl, by kernel_rfl⟩, trivial⟩
theorem okT3 : OkTD Tryz.prog 3 ⟨.int .i64, 1, 8, some (.one (.int .i64))⟩ := ⟨⟨by kernel_rfl, by kernel_rfl, by kernel_rfl⟩, Tryz.underlying3, ⟨by kernel_rfl, by kernel_rfl⟩, trivial⟩
theorem okT4 : OkTD Tryz.prog 4 ⟨.bool, 1, 1, some (.one .bool)⟩ := ⟨⟨by kernel_rfl, by kernel_rfl, by kernel_rfl⟩, Tryz.underlying4, ⟨by kernel_rfl, by kernel_rfl⟩, trivial⟩
theorem okT5 : OkTD Tryz.prog 5 ⟨.int .u8, 1, 1, some (.one (.int .u8))⟩ := ⟨⟨by kernel_rfl, by kernel_rfl, by kernel_rfl⟩, Tryz.underlying5, ⟨by kernel_rfl, by kernel_rfl⟩, trivial⟩
theorem okT9 : OkTD Tryz.prog 9 ⟨.str, 1, 16, some (.one .str)⟩ := ⟨⟨by kernel_rfl, by kernel_rfl, by kernel_rfl⟩, Tryz.underlying9, ⟨by kernel_rfl, by kernel_rfl⟩, trivial⟩
theorem zqL : OkTD Tryz.prog 22 ⟨.sl 95, 1, 24, some (.one (.sl 95 (.cons (.sl 126 (.cons (.int .i64) (.cons (.int .i64) (.cons (.int .i64) (.one (.sl 4 (.one .bool))))))) (.one (.sl 73 (.cons (.int .i64) (.one (.int .i64))))))))⟩ := ⟨⟨by kernel_rfl, by kernel_rfl, by kernel_rfl⟩, ⟨Tryz.underlying22, by kernel_rfl⟩, ⟨by kernel_rfl, by kernel_rfl⟩, trivial⟩
theorem zqM : OkTD Tryz.prog 24 ⟨.st [(0, 1)], 1, 24, some (.one (.sl 95 (.cons (.sl 126 (.cons (.int .i64) (.cons (.int .i64) (.cons (.int .i64) (.one (.sl 4 (.one .bool))))))) (.one (.sl 73 (.cons (.int .i64) (.one (.int .i64))))))))⟩ := ⟨⟨by kernel_rfl, by kernel_rfl, by kernel_rfl⟩, ⟨_, Tryz.underlying24, by kernel_rfl, by kernel_rfl⟩, ⟨by kernel_rfl, by kernel_rfl⟩, fun h => absurd (by rfl) h⟩
theorem zqN : OkTD Tryz.prog 25 ⟨.sl 5, 1, 24, some (.one (.sl 5 (.one (.int .u8))))⟩ := ⟨⟨by kernel_rfl, by kernel_rfl, by kernel_rfl⟩, ⟨Tryz.underlying25, by kernel_rfl⟩, ⟨by kernel_rfl, by kernel_rfl⟩, trivial⟩
theorem zqO : OkTD Tryz.prog 27 ⟨.st [(0, 1), (1, 1)], 2, 48, some (.cons (.sl 5 (.one (.int .u8))) (.one (.sl 5 (.one (.int .u8)))))⟩ := ⟨⟨by kernel_rfl, by kernel_rfl, by kernel_rfl⟩, ⟨_, Tryz.underlying27, by kernel_rfl, by kernel_rfl⟩, ⟨by kernel_rfl, by kernel_rfl⟩, fun h => absurd (by rfl) h⟩
theorem zqP : OkTD Tryz.prog 28 ⟨.sl 3, 1, 24, some (.one (.sl 3 (.one (.int .i64))))⟩ := ⟨⟨by kernel_rfl, by kernel_rfl, by kernel_rfl⟩, ⟨Tryz.underlying28, by kernel_rfl⟩, ⟨by kernel_rfl, by kernel_rfl⟩, trivial⟩
theorem zqQ : OkTD Tryz.prog 30 ⟨.st [(0, 1), (1, 2), (3, 1), (4, 1)], 5, 104, some (.cons (.sl 95 (.cons (.sl 126 (.cons (.int .i64) (.cons (.int .i64) (.cons (.int .i64) (.one (.sl 4 (.one .bool))))))) (.one (.sl 73 (.cons (.int .i64) (.one (.int .i64))))))) (.cons (.sl 5 (.one (.int .u8))) (.cons (.sl 5 (.one (.int .u8))) (.cons (.bool) (.one (.sl 3 (.one (.int .i64))))))))⟩ := ⟨⟨by kernel_rfl, by kernel_rfl, by kernel_rfl⟩, ⟨_, Tryz.underlying30, by kernel_rfl, by kernel_rfl⟩, ⟨by kernel_rfl, by kernel_rfl⟩, fun h => absurd (by rfl) h⟩
theorem zqR : OkTD Tryz.prog 31 ⟨.sl 41, 1, 24, some (.one (.sl 41 (.cons (.int .i64) (.cons (.int .i64) (.cons (.int .i64) (.one (.sl 77 (.cons (.int .i64) (.cons (.int .i64) (.one (.int .i64)))))))))))⟩ := ⟨⟨by kernel_rfl, by kernel_rfl, by kernel_rfl⟩, ⟨Tryz.underlying31, by kernel_rfl⟩, ⟨by kernel_rfl, by kernel_rfl⟩, trivial⟩
theorem zqS : OkTD Tryz.prog 32 ⟨.sl 33, 1, 24, some (.one (.sl 33 (.one (.int .i64))))⟩ := ⟨⟨by kernel_rfl, by kernel_rfl, by kernel_rfl⟩, ⟨Tryz.underlying32, by kernel_rfl⟩, ⟨by kernel_rfl, by kernel_rfl⟩, trivial⟩
theorem zqT : OkTD Tryz.prog 33 ⟨.int .i64, 1, 8, some (.one (.int .i64))⟩ := ⟨⟨by kernel_rfl, by kernel_rfl, by kernel_rfl⟩, Tryz.underlying33, ⟨by kernel_rfl, by kernel_rfl⟩, trivial⟩
theorem zqU : OkTD Tryz.prog 39 ⟨.sl 77, 1, 24, some (.one (.sl 77 (.cons (.int .i64) (.cons (.int .i64) (.one (.int .i64))))))⟩ := ⟨⟨by kernel_rfl, by kernel_rfl, by kernel_rfl⟩, ⟨Tryz.underlying39, by kernel_rfl⟩, ⟨by kernel_rfl, by kernel_rfl⟩, trivial⟩
theorem zqV : OkTD Tryz.prog 41 ⟨.st [(0, 1), (1, 1), (2, 1), (3, 1)], 4, 48, some (.cons (.int .i64) (.cons (.int .i64) (.cons (.int .i64) (.one (.sl 77 (.cons (.int .i64) (.cons (.int .i64) (.one (.int .i64)))))))))⟩ := ⟨⟨by kernel_rfl, by kernel_rfl, by kernel_rfl⟩, ⟨_, Tryz.underlying41, by kernel_rfl, by kernel_rfl⟩, ⟨by kernel_rfl, by kernel_rfl⟩, fun h => absurd (by rfl) h⟩
theorem zqW : OkTD Tryz.prog 48 ⟨.sl 52, 1, 24, some (.one (.sl 52 (.cons (.int .i64) (.cons (.int .i64) (.cons (.int .i64) (.one (.sl 77 (.cons (.int .i64) (.cons (.int .i64) (.one (.int .i64)))))))))))⟩ := ⟨⟨by kernel_rfl, by kernel_rfl, by kernel_rfl⟩, ⟨Tryz.underlying48, by kernel_rfl⟩, ⟨by kernel_rfl, by kernel_rfl⟩, trivial⟩
theorem zqX : OkTD Tryz.prog 52 ⟨.st [(0, 1), (1, 1), (2, 1), (3, 1)], 4, 48, some (.cons (.int .i64) (.cons (.int .i64) (.cons (.int .i64) (.one (.sl 77 (.cons (.int .i64) (.cons (.int .i64) (.one (.int .i64)))))))))⟩ := ⟨⟨by kernel_rfl, by kernel_rfl, by kernel_rfl⟩, ⟨_, Tryz.underlying52, by kernel_rfl, by kernel_rfl⟩, ⟨by kernel_rfl, by kernel_rfl⟩, fun h => absurd (by rfl) h⟩
theorem zqY : OkTD Tryz.prog 65 ⟨.sl 73, 1, 24, some (.one (.sl 73 (.cons (.int .i64) (.one (.int .i64)))))⟩ := ⟨⟨by kernel_rfl, by kernel_rfl, by kernel_rfl⟩, ⟨Tryz.underlying65, by kernel_rfl⟩, ⟨by kernel_rfl, by kernel_rfl⟩, trivial⟩
theorem zqZ : OkTD Tryz.prog 73 ⟨.st [(0, 1), (1, 1)], 2, 16, some (.cons (.int .i64) (.one (.int .i64)))⟩ := ⟨⟨by kernel_rfl, by kernel_rfl, by kernel_rfl⟩, ⟨_, Tryz.underlying73, by kernel_rfl, by kernel_rfl⟩, ⟨by kernel_rfl, by kernel_rfl⟩, fun _ => zaL (Tryz.underlying73) (by kernel_rfl) (by kernel_rfl) (by kernel_rfl) (by kernel_rfl)⟩
theorem zr0 : OkTD Tryz.prog 77 ⟨.st [(0, 1), (1, 1), (2, 1)], 3, 24, some (.cons (.int .i64) (.cons (.int .i64) (.one (.int .i64))))⟩ := ⟨⟨by kernel_rfl, by kernel_rfl, by kernel_rfl⟩, ⟨_, Tryz.underlying77, by kernel_rfl, by kernel_rfl⟩, ⟨by kernel_rfl, by kernel_rfl⟩, fun _ => zaL (Tryz.underlying77) (by kernel_rfl) (by kernel_rfl) (by kernel_rfl) (by kernel_rfl)⟩
theorem zr1 : OkTD Tryz.prog 93 ⟨.sl 126, 1, 24, some (.one (.sl 126 (.cons (.int .i64) (.cons (.int .i64) (.cons (.int .i64) (.one (.sl 4 (.one .bool))))))))⟩ := ⟨⟨by kernel_rfl, by kernel_rfl, by kernel_rfl⟩, ⟨Tryz.underlying93, by kernel_rfl⟩, ⟨by kernel_rfl, by kernel_rfl⟩, trivial⟩
theorem zr2 : OkTD Tryz.prog 95 ⟨.st [(0, 1), (1, 1)], 2, 48, some (.cons (.sl 126 (.cons (.int .i64) (.cons (.int .i64) (.cons (.int .i64) (.one (.sl 4 (.one .bool))))))) (.one (.sl 73 (.cons (.int .i64) (.one (.int .i64))))))⟩ := ⟨⟨by kernel_rfl, by kernel_rfl, by kernel_rfl⟩, ⟨_, Tryz.underlying95, by kernel_rfl, by kernel_rfl⟩, ⟨by kernel_rfl, by kernel_rfl⟩, fun h => absurd (by rfl) h⟩
theorem zqf : OkTD Tryz.prog 124 ⟨.sl 4, 1, 24, some (.one (.sl 4 (.one .bool)))⟩ := ⟨⟨by kernel_rfl, by kernel_rfl, by kernel_rfl⟩, ⟨Tryz.underlying124, by kernel_rfl⟩, ⟨by kernel_rfl, by kernel_rfl⟩, trivial⟩
theorem zqg : OkTD Tryz.prog 126 ⟨.st [(0, 1), (1, 1), (2, 1), (3, 1)], 4, 48, some (.cons (.int .i64) (.cons (.int .i64) (.cons (.int .i64) (.one (.sl 4 (.one .bool))))))⟩ := ⟨⟨by kernel_rfl, by kernel_rfl, by kernel_rfl⟩, ⟨_, Tryz.underlying126, by kernel_rfl, by kernel_rfl⟩, ⟨by kernel_rfl, by kernel_rfl⟩, fun h => absurd (by rfl) h⟩
theorem zqh : OkTD Tryz.prog 130 ⟨.sl 32, 1, 24, some (.one (.sl 32 (.one (.sl 33 (.one (.int .i64))))))⟩ := ⟨⟨by kernel_rfl, by kernel_rfl, by kernel_rfl⟩, ⟨Tryz.underlying130, by kernel_rfl⟩, ⟨by kernel_rfl, by kernel_rfl⟩, trivial⟩
theorem zqi : OkTD Tryz.prog 149 ⟨.sl 9, 1, 24, some (.one (.sl 9 (.one .str)))⟩ := ⟨⟨by kernel_rfl, by kernel_rfl, by kernel_rfl⟩, ⟨Tryz.underlying149, by kernel_rfl⟩, ⟨by kernel_rfl, by kernel_rfl⟩, trivial⟩
theorem zqj : OkTD Tryz.prog 152 ⟨.sl 25, 1, 24, some (.one (.sl 25 (.one (.sl 5 (.one (.int .u8))))))⟩ := ⟨⟨by kernel_rfl, by kernel_rfl, by kernel_rfl⟩, ⟨Tryz.underlying152, by kernel_rfl⟩, ⟨by kernel_rfl, by kernel_rfl⟩, trivial⟩
theorem zqk : OkTD Tryz.prog 162 ⟨.sl 48, 1, 24, some (.one (.sl 48 (.one (.sl 52 (.cons (.int .i64) (.cons (.int .i64) (.cons (.int .i64) (.one (.sl 77 (.cons (.int .i64) (.cons (.int .i64) (.one (.int .i64)))))))))))))⟩ := ⟨⟨by kernel_rfl, by kernel_rfl, by kernel_rfl⟩, ⟨Tryz.underlying162, by kernel_rfl⟩, ⟨by kernel_rfl, by kernel_rfl⟩, trivial⟩
theorem zql : OkTD Tryz.prog 172 ⟨.mp, 1, 8, none⟩ := ⟨⟨by kernel_rfl, by kernel_rfl, by kernel_rfl⟩, zqK Tryz.underlying172 Tryz.underlying3 (by kernel_rfl), trivial, trivial⟩
theorem zqm : OkTD Tryz.prog 174 ⟨.int .u64, 1, 8, some (.one (.int .u64))⟩ := ⟨⟨by kernel_rfl, by kernel_rfl, by kernel_rfl⟩, Tryz.underlying174, ⟨by kernel_rfl, by kernel_rfl⟩, trivial⟩
theorem zqn : OkTD Tryz.prog 183 ⟨.ifc, 1, 16, none⟩ := ⟨⟨by kernel_rfl, by kernel_rfl, by kernel_rfl⟩, ⟨_, Tryz.underlying183⟩, trivial, trivial⟩
theorem zqo : OkTD Tryz.prog 199 ⟨.int .u32, 1, 4, some (.one (.int .u32))⟩ := ⟨⟨by kernel_rfl, by kernel_rfl, by kernel_rfl⟩, Tryz.underlying199, ⟨by kernel_rfl, by kernel_rfl⟩, trivial⟩
theorem zqp : OkTD Tryz.prog 202 ⟨.int .u64, 1, 8, some (.one (.int .u64))⟩ := ⟨⟨by kernel_rfl, by kernel_rfl, by kernel_rfl⟩, Tryz.underlying202, ⟨by kernel_rfl, by kernel_rfl⟩, trivial⟩
theorem zqq : OkTD Tryz.prog 206 ⟨.sl 65, 1, 24, some (.one (.sl 65 (.one (.sl 73 (.cons (.int .i64) (.one (.int .i64)))))))⟩ := ⟨⟨by kernel_rfl, by kernel_rfl, by kernel_rfl⟩, ⟨Tryz.underlying206, by kernel_rfl⟩, ⟨by kernel_rfl, by kernel_rfl⟩, trivial⟩
theorem zqr : OkTD Tryz.prog 213 ⟨.sl 93, 1, 24, some (.one (.sl 93 (.one (.sl 126 (.cons (.int .i64) (.cons (.int .i64) (.cons (.int .i64) (.one (.sl 4 (.one .bool))))))))))⟩ := ⟨⟨by kernel_rfl, by kernel_rfl, by kernel_rfl⟩, ⟨Tryz.underlying213, by kernel_rfl⟩, ⟨by kernel_rfl, by kernel_rfl⟩, trivial⟩
def tL : List (Nat × TD) := [(2, ⟨.int .i64, 1, 8, some (.one (.int .i64))⟩),
 (3, ⟨.int .i64, 1, 8, some (.one (.int .i64))⟩),
 (4, ⟨.bool, 1, 1, some (.one .bool)⟩),
 (5, ⟨.int .u8, 1, 1, some (.one (.int .u8))⟩),
 (9, ⟨.str, 1, 16, some (.one .str)⟩),
 (22, ⟨.sl 95, 1, 24, some (.one (.sl 95 (.cons (.sl 126 (.cons (.int .i64) (.cons (.int .i64) (.cons (.int .i64) (.one (.sl 4 (.one .bool))))))) (.one (.sl 73 (.cons (.int .i64) (.one (.int .i64))))))))⟩),
 (24, ⟨.st [(0, 1)], 1, 24, some (.one (.sl 95 (.cons (.sl 126 (.cons (.int .i64) (.cons (.int .i64) (.cons (.int .i64) (.one (.sl 4 (.one .bool))))))) (.one (.sl 73 (.cons (.int .i64) (.one (.int .i64))))))))⟩),
 (25, ⟨.sl 5, 1, 24, some (.one (.sl 5 (.one (.int .u8))))⟩),
 (27, ⟨.st [(0, 1), (1, 1)], 2, 48, some (.cons (.sl 5 (.one (.int .u8))) (.one (.sl 5 (.one (.int .u8)))))⟩),
 (28, ⟨.sl 3, 1, 24, some (.one (.sl 3 (.one (.int .i64))))⟩),
 (30, ⟨.st [(0, 1), (1, 2), (3, 1), (4, 1)], 5, 104, some (.cons (.sl 95 (.cons (.sl 126 (.cons (.int .i64) (.cons (.int .i64) (.cons (.int .i64) (.one (.sl 4 (.one .bool))))))) (.one (.sl 73 (.cons (.int .i64) (.one (.int .i64))))))) (.cons (.sl 5 (.one (.int .u8))) (.cons (.sl 5 (.one (.int .u8))) (.cons (.bool) (.one (.sl 3 (.one (.int .i64))))))))⟩),
 (31, ⟨.sl 41, 1, 24, some (.one (.sl 41 (.cons (.int .i64) (.cons (.int .i64) (.cons (.int .i64) (.one (.sl 77 (.cons (.int .i64) (.cons (.int .i64) (.one (.int .i64)))))))))))⟩),
 (32, ⟨.sl 33, 1, 24, some (.one (.sl 33 (.one (.int .i64))))⟩),
 (33, ⟨.int .i64, 1, 8, some (.one (.int .i64))⟩),
 (39, ⟨.sl 77, 1, 24, some (.one (.sl 77 (.cons (.int .i64) (.cons (.int .i64) (.one (.int .i64))))))⟩),
 (41, ⟨.st [(0, 1), (1, 1), (2, 1), (3, 1)], 4, 48, some (.cons (.int .i64) (.cons (.int .i64) (.cons (.int .i64) (.one (.sl 77 (.cons (.int .i64) (.cons (.int .i64) (.one (.int .i64)))))))))⟩),
 (48, ⟨.sl 52, 1, 24, some (.one (.sl 52 (.cons (.int .i64) (.cons (.int .i64) (.cons (.int .i64) (.one (.sl 77 (.cons (.int .i64) (.cons (.int .i64) (.one (.int .i64)))))))))))⟩),
 (52, ⟨.st [(0, 1), (1, 1), (2, 1), (3, 1)], 4, 48, some (.cons (.int .i64) (.cons (.int .i64) (.cons (.int .i64) (.one (.sl 77 (.cons (.int .i64) (.cons (.int .i64) (.one (.int .i64)))))))))⟩),
 (65, ⟨.sl 73, 1, 24, some (.one (.sl 73 (.cons (.int .i64) (.one (.int .i64)))))⟩),
 (73, ⟨.st [(0, 1), (1, 1)], 2, 16, some (.cons (.int .i64) (.one (.int .i64)))⟩),
 (77, ⟨.st [(0, 1), (1, 1), (2, 1)], 3, 24, some (.cons (.int .i64) (.cons (.int .i64) (.one (.int .i64))))⟩),
 (93, ⟨.sl 126, 1, 24, some (.one (.sl 126 (.cons (.int .i64) (.cons (.int .i64) (.cons (.int .i64) (.one (.sl 4 (.one .bool))))))))⟩),
 (95, ⟨.st [(0, 1), (1, 1)], 2, 48, some (.cons (.sl 126 (.cons (.int .i64) (.cons (.int .i64) (.cons (.int .i64) (.one (.sl 4 (.one .bool))))))) (.one (.sl 73 (.cons (.int .i64) (.one (.int .i64))))))⟩),
 (124, ⟨.sl 4, 1, 24, some (.one (.sl 4 (.one .bool)))⟩),
 (126, ⟨.st [(0, 1), (1, 1), (2, 1), (3, 1)], 4, 48, some (.cons (.int .i64) (.cons (.int .i64) (.cons (.int .i64) (.one (.sl 4 (.one .bool))))))⟩),
 (130, ⟨.sl 32, 1, 24, some (.one (.sl 32 (.one (.sl 33 (.one (.int .i64))))))⟩),
 (149, ⟨.sl 9, 1, 24, some (.one (.sl 9 (.one .str)))⟩),
 (152, ⟨.sl 25, 1, 24, some (.one (.sl 25 (.one (.sl 5 (.one (.int .u8))))))⟩),
 (162, ⟨.sl 48, 1, 24, some (.one (.sl 48 (.one (.sl 52 (.cons (.int .i64) (.cons (.int .i64) (.cons (.int .i64) (.one (.sl 77 (.cons (.int .i64) (.cons (.int .i64) (.one (.int .i64)))))))))))))⟩),
 (172, ⟨.mp, 1, 8, none⟩),
 (174, ⟨.int .u64, 1, 8, some (.one (.int .u64))⟩),
 (183, ⟨.ifc, 1, 16, none⟩),
 (199, ⟨.int .u32, 1, 4, some (.one (.int .u32))⟩),
 (202, ⟨.int .u64, 1, 8, some (.one (.int .u64))⟩),
 (206, ⟨.sl 65, 1, 24, some (.one (.sl 65 (.one (.sl 73 (.cons (.int .i64) (.one (.int .i64)))))))⟩),
 (213, ⟨.sl 93, 1, 24, some (.one (.sl 93 (.one (.sl 126 (.cons (.int .i64) (.cons (.int .i64) (.cons (.int .i64) (.one (.sl 4 (.one .bool))))))))))⟩)]
def T : TT := tabT tL
theorem tok : TOK Tryz.prog T := zqe (L := tL) (List.forall_mem_cons.2 ⟨okT2, List.forall_mem_cons.2 ⟨okT3, List.forall_mem_cons.2 ⟨okT4, List.forall_mem_cons.2 ⟨okT5, List.forall_mem_cons.2 ⟨okT9, List.forall_mem_cons.2 ⟨zqL, List.forall_mem_cons.2 ⟨zqM, List.forall_mem_cons.2 ⟨zqN, List.forall_mem_cons.2 ⟨zqO, List.forall_mem_cons.2 ⟨zqP, List.forall_mem_cons.2 ⟨zqQ, List.forall_mem_cons.2 ⟨zqR, List.forall_mem_cons.2 ⟨zqS, List.forall_mem_cons.2 ⟨zqT, List.forall_mem_cons.2 ⟨zqU, List.forall_mem_cons.2 ⟨zqV, List.forall_mem_cons.2 ⟨zqW, List.forall_mem_cons.2 ⟨zqX, List.forall_mem_cons.2 ⟨zqY, List.forall_mem_cons.2 ⟨zqZ, List.forall_mem_cons.2 ⟨zr0, List.forall_mem_cons.2 ⟨zr1, List.forall_mem_cons.2 ⟨zr2, List.forall_mem_cons.2 ⟨zqf, List.forall_mem_cons.2 ⟨zqg, List.forall_mem_cons.2 ⟨zqh, List.forall_mem_cons.2 ⟨zqi, List.forall_mem_cons.2 ⟨zqj, List.forall_mem_cons.2 ⟨zqk, List.forall_mem_cons.2 ⟨zql, List.forall_mem_cons.2 ⟨zqm, List.forall_mem_cons.2 ⟨zqn, List.forall_mem_cons.2 ⟨zqo, List.forall_mem_cons.2 ⟨zqp, List.forall_mem_cons.2 ⟨zqq, List.forall_mem_cons.2 ⟨zqr, (by intro q h; cases h)⟩⟩⟩⟩⟩⟩⟩⟩⟩⟩⟩⟩⟩⟩⟩⟩⟩⟩⟩⟩⟩⟩⟩⟩⟩⟩⟩⟩⟩⟩⟩⟩⟩⟩⟩⟩)
theorem fmo : Tryz.prog.follows .mixedOrders = true := by kernel_rfl
end Go.Proofs.Y
namespace Go.Proofs.Y
open Go.Rb Go.Kx
noncomputable def zhx : Code := zl Tryz.f70
noncomputable def zhy : FuncId → Option GS := tabG []
theorem zo1 : ΓOK Tryz.prog zhy := zg
def zhz : HT := ⟨tabL [], tabH []⟩
abbrev z8F : List IT := []
abbrev zfh : List OT := [⟨.one (.sl 95 (.cons (.sl 126 (.cons (.int .i64) (.cons (.int .i64) (.cons (.int .i64) (.one (.sl 4 (.one .bool))))))) (.one (.sl 73 (.cons (.int .i64) (.one (.int .i64))))))), true, []⟩]
set_option maxRecDepth 100000
noncomputable def z3A : Option (List (List (Int × Int × Int × List Bool) × List (Int × Int))) := ifB (z2U 48 4) (some (repI 4 ([], []))) none
theorem zjz (x : PI z8F) : z3A  = fnE T zhy zhz zhx (zu Tryz.f70) z8F zfh x := by kernel_rfl
noncomputable abbrev zhA : GS := zt false z8F zfh fun x => z3A 
theorem zjA : GSOK Tryz.prog 70 zhA := zm tok zo1 fmo (Ht := zhz) (fn := Tryz.f70) (Tryz.func70) (c := zhx) (by kernel_rfl) (by kernel_rfl) (by kernel_rfl) (by decide +kernel) (by decide) zjz
end Go.Proofs.Y
namespace Go.Proofs.Y
open Go.Rb Go.Kx
noncomputable def z8G : Code := zl Tryz.f79
noncomputable def z8H : FuncId → Option GS := tabG []
theorem zhB : ΓOK Tryz.prog z8H := zg
def z8I : HT := ⟨tabL [(9, .it [] (dyn [.t 31 (.int .i64)]))], tabH []⟩
abbrev z2a : List IT := [.v (.cons (.int .i64) (.cons (.int .i64) (.cons (.int .i64) (.one (.sl 77 (.cons (.int .i64) (.cons (.int .i64) (.one (.int .i64))))))))) true]
abbrev z7z : List OT := [⟨.one (.int .i64), false, []⟩]
set_option maxRecDepth 100000
noncomputable def Z7 : Int × Int × Int × List (Int × Int × Int) → Option Int := fun a => ifB (ltI a.1 1) (some 4) (ifB (gtI a.1 4) (some 4) (ifB (eqI a.1 1) (ifB (neI a.2.1 0) (some 4) (ifB (neI a.2.2.1 0) (some 4) (ifB (gtI (lenI a.2.2.2) 10) (some 2) (zk maxR (fun (x : Int) => ifB (ltI x (lenI a.2.2.2)) (z6 (atI a.2.2.2 x) fun y => ifB (ltI y.1 0) (mapO Sum.inr (some 3)) (ifB (geI y.1 4) (mapO Sum.inr (some 3)) (ifB (ltI y.2.1 0) (mapO Sum.inr (some 3)) (ifB (gtI y.2.1 100000) (mapO Sum.inr (some 3)) (ifB (ltI y.2.2 (-1000000)) (mapO Sum.inr (some 3)) (ifB (gtI y.2.2 1000000) (mapO Sum.inr (some 3)) (some (Sum.inl (wadd .i64 x 1))))))))) (mapO Sum.inr (some 0))) 0)))) (ifB (gtI (lenI a.2.2.2) 0) (some 4) (ifB (eqI a.1 4) (ifB (neI a.2.1 0) (some 4) (ifB (ltI a.2.1 0) (some 3) (ifB (geI a.2.1 4) (some 3) (ifB (ltI a.2.2.1 0) (some 3) (ifB (gtI a.2.2.1 100001) (some 3) (some 0)))))) (ifB (ltI a.2.1 0) (some 3) (ifB (geI a.2.1 4) (some 3) (ifB (ltI a.2.2.1 0) (some 3) (ifB (gtI a.2.2.1 100001) (some 3) (some 0)))))))))
theorem zcJ (x : PI z2a) : Z7 x = fnE T z8H z8I z8G (zu Tryz.f79) z2a z7z x := by kernel_rfl
noncomputable abbrev z0u : GS := zt false z2a z7z fun x => Z7 x
theorem z0v : GSOK Tryz.prog 79 z0u := zm tok zhB fmo (Ht := z8I) (fn := Tryz.f79) (Tryz.func79) (c := z8G) (by kernel_rfl) (by kernel_rfl) (by kernel_rfl) (by decide +kernel) (by decide) zcJ
end Go.Proofs.Y
namespace Go.Proofs.Y
open Go.Rb Go.Kx
noncomputable def z3B : Code := zl Tryz.f64
noncomputable def z3C : FuncId → Option GS := tabG []
theorem zbS : ΓOK Tryz.prog z3C := zg
def z3D : HT := ⟨tabL [], tabH []⟩
abbrev jZ : List IT := [.v (.one (.int .i64)) false, .v (.one (.int .i64)) false, .v (.one (.int .i64)) false]
abbrev z2H : List OT := [⟨.one .bool, false, []⟩]
set_option maxRecDepth 100000
noncomputable def zj : Int → Int → Int → Option Bool := fun a b c => ifB (leI b a) (some (leI a c)) (some false)
theorem z8d (x : PI jZ) : zj (x.1) (x.2.1) (x.2.2) = fnE T z3C z3D z3B (zu Tryz.f64) jZ z2H x := by kernel_rfl
noncomputable abbrev ZV : GS := zt false jZ z2H fun x => zj (x.1) (x.2.1) (x.2.2)
theorem ZJ : GSOK Tryz.prog 64 ZV := zm tok zbS fmo (Ht := z3D) (fn := Tryz.f64) (Tryz.func64) (c := z3B) (by kernel_rfl) (by kernel_rfl) (by kernel_rfl) (by decide +kernel) (by decide) z8d
end Go.Proofs.Y
namespace Go.Proofs.Y
open Go.Rb Go.Kx
noncomputable def VG : Code := zl Tryz.f131
noncomputable def VH : FuncId → Option GS := tabG [(64, ZV)]
theorem z3E : ΓOK Tryz.prog VH := z8 (ZJ) (zg)
def VI : HT := ⟨tabL [], tabH []⟩
abbrev Yy : List IT := [.v (.cons (.int .i64) (.one (.int .i64))) true]
abbrev Vp : List OT := [⟨.one (.int .i64), false, []⟩]
set_option maxRecDepth 100000
noncomputable def zC : Int × Int → Option Int := fun a => z6 (zj a.1 0 100000) fun y => ifB (notB y) (some 3) (z6 (zj a.2 (-1000000) 1000000) fun y => ifB (notB y) (some 3) (some 0))
theorem z1U (x : PI Yy) : zC x = fnE T VH VI VG (zu Tryz.f131) Yy Vp x := by kernel_rfl
noncomputable abbrev Y1 : GS := zt false Yy Vp fun x => zC x
theorem Yp : GSOK Tryz.prog 131 Y1 := zm tok z3E fmo (Ht := VI) (fn := Tryz.f131) (Tryz.func131) (c := VG) (by kernel_rfl) (by kernel_rfl) (by kernel_rfl) (by decide +kernel) (by decide) z1U
end Go.Proofs.Y
namespace Go.Proofs.Y
open Go.Rb Go.Kx
noncomputable def J5 : Code := zl Tryz.f103
noncomputable def J6 : FuncId → Option GS := tabG [(64, ZV), (131, Y1)]
theorem z5y : ΓOK Tryz.prog J6 := z8 (ZJ) (z8 (Yp) (zg))
def J7 : HT := ⟨tabL [(11, .it [] (dyn [.t 59 (.int .i64)]))], tabH []⟩
abbrev ve : List IT := [.v (.cons (.int .i64) (.cons (.int .i64) (.cons (.int .i64) (.one (.sl 77 (.cons (.int .i64) (.cons (.int .i64) (.one (.int .i64))))))))) true]
abbrev jy : List OT := [⟨.one (.int .i64), false, []⟩]
set_option maxRecDepth 100000
noncomputable def zp : Int × Int × Int × List (Int × Int × Int) → Option Int := fun a => z6 (zj a.1 1 4) fun y => ifB (notB y) (some 4) (ifB (eqI a.1 1) (ifB (neI a.2.1 0) (some 4) (ifB (neI a.2.2.1 0) (some 4) (ifB (neI a.1 1) (ifB (gtI (lenI a.2.2.2) 0) (some 4) (ifB (eqI a.1 4) (ifB (neI a.2.1 0) (some 4) (ifB (gtI (lenI a.2.2.2) 10) (some 2) (z6 (zj a.2.1 0 3) fun y => ifB (notB y) (some 3) (z6 (zj a.2.2.1 0 100001) fun y => ifB (notB y) (some 3) (zk maxR (fun (x : Int) => ifB (ltI x (lenI a.2.2.2)) (z6 (atI a.2.2.2 x) fun y => z6 (zj y.1 0 3) fun y_1 => ifB (notB y_1) (mapO Sum.inr (some 3)) (z6 (zC (y.2.1, y.2.2)) fun y => ifB (neI y 0) (mapO Sum.inr (some 3)) (some (Sum.inl (wadd .i64 x 1))))) (mapO Sum.inr (some 0))) 0))))) (ifB (gtI (lenI a.2.2.2) 10) (some 2) (z6 (zj a.2.1 0 3) fun y => ifB (notB y) (some 3) (z6 (zj a.2.2.1 0 100001) fun y => ifB (notB y) (some 3) (zk maxR (fun (x : Int) => ifB (ltI x (lenI a.2.2.2)) (z6 (atI a.2.2.2 x) fun y => z6 (zj y.1 0 3) fun y_1 => ifB (notB y_1) (mapO Sum.inr (some 3)) (z6 (zC (y.2.1, y.2.2)) fun y => ifB (neI y 0) (mapO Sum.inr (some 3)) (some (Sum.inl (wadd .i64 x 1))))) (mapO Sum.inr (some 0))) 0)))))) (ifB (eqI a.1 4) (ifB (neI a.2.1 0) (some 4) (ifB (gtI (lenI a.2.2.2) 10) (some 2) (z6 (zj a.2.1 0 3) fun y => ifB (notB y) (some 3) (z6 (zj a.2.2.1 0 100001) fun y => ifB (notB y) (some 3) (zk maxR (fun (x : Int) => ifB (ltI x (lenI a.2.2.2)) (z6 (atI a.2.2.2 x) fun y => z6 (zj y.1 0 3) fun y_1 => ifB (notB y_1) (mapO Sum.inr (some 3)) (z6 (zC (y.2.1, y.2.2)) fun y => ifB (neI y 0) (mapO Sum.inr (some 3)) (some (Sum.inl (wadd .i64 x 1))))) (mapO Sum.inr (some 0))) 0))))) (ifB (gtI (lenI a.2.2.2) 10) (some 2) (z6 (zj a.2.1 0 3) fun y => ifB (notB y) (some 3) (z6 (zj a.2.2.1 0 100001) fun y => ifB (notB y) (some 3) (zk maxR (fun (x : Int) => ifB (ltI x (lenI a.2.2.2)) (z6 (atI a.2.2.2 x) fun y => z6 (zj y.1 0 3) fun y_1 => ifB (notB y_1) (mapO Sum.inr (some 3)) (z6 (zC (y.2.1, y.2.2)) fun y => ifB (neI y 0) (mapO Sum.inr (some 3)) (some (Sum.inl (wadd .i64 x 1))))) (mapO Sum.inr (some 0))) 0)))))))) (ifB (neI a.1 1) (ifB (gtI (lenI a.2.2.2) 0) (some 4) (ifB (eqI a.1 4) (ifB (neI a.2.1 0) (some 4) (ifB (gtI (lenI a.2.2.2) 10) (some 2) (z6 (zj a.2.1 0 3) fun y => ifB (notB y) (some 3) (z6 (zj a.2.2.1 0 100001) fun y => ifB (notB y) (some 3) (zk maxR (fun (x : Int) => ifB (ltI x (lenI a.2.2.2)) (z6 (atI a.2.2.2 x) fun y => z6 (zj y.1 0 3) fun y_1 => ifB (notB y_1) (mapO Sum.inr (some 3)) (z6 (zC (y.2.1, y.2.2)) fun y => ifB (neI y 0) (mapO Sum.inr (some 3)) (some (Sum.inl (wadd .i64 x 1))))) (mapO Sum.inr (some 0))) 0))))) (ifB (gtI (lenI a.2.2.2) 10) (some 2) (z6 (zj a.2.1 0 3) fun y => ifB (notB y) (some 3) (z6 (zj a.2.2.1 0 100001) fun y => ifB (notB y) (some 3) (zk maxR (fun (x : Int) => ifB (ltI x (lenI a.2.2.2)) (z6 (atI a.2.2.2 x) fun y => z6 (zj y.1 0 3) fun y_1 => ifB (notB y_1) (mapO Sum.inr (some 3)) (z6 (zC (y.2.1, y.2.2)) fun y => ifB (neI y 0) (mapO Sum.inr (some 3)) (some (Sum.inl (wadd .i64 x 1))))) (mapO Sum.inr (some 0))) 0)))))) (ifB (eqI a.1 4) (ifB (neI a.2.1 0) (some 4) (ifB (gtI (lenI a.2.2.2) 10) (some 2) (z6 (zj a.2.1 0 3) fun y => ifB (notB y) (some 3) (z6 (zj a.2.2.1 0 100001) fun y => ifB (notB y) (some 3) (zk maxR (fun (x : Int) => ifB (ltI x (lenI a.2.2.2)) (z6 (atI a.2.2.2 x) fun y => z6 (zj y.1 0 3) fun y_1 => ifB (notB y_1) (mapO Sum.inr (some 3)) (z6 (zC (y.2.1, y.2.2)) fun y => ifB (neI y 0) (mapO Sum.inr (some 3)) (some (Sum.inl (wadd .i64 x 1))))) (mapO Sum.inr (some 0))) 0))))) (ifB (gtI (lenI a.2.2.2) 10) (some 2) (z6 (zj a.2.1 0 3) fun y => ifB (notB y) (some 3) (z6 (zj a.2.2.1 0 100001) fun y => ifB (notB y) (some 3) (zk maxR (fun (x : Int) => ifB (ltI x (lenI a.2.2.2)) (z6 (atI a.2.2.2 x) fun y => z6 (zj y.1 0 3) fun y_1 => ifB (notB y_1) (mapO Sum.inr (some 3)) (z6 (zC (y.2.1, y.2.2)) fun y => ifB (neI y 0) (mapO Sum.inr (some 3)) (some (Sum.inl (wadd .i64 x 1))))) (mapO Sum.inr (some 0))) 0)))))))
theorem z34 (x : PI ve) : zp x = fnE T J6 J7 J5 (zu Tryz.f103) ve jy x := by kernel_rfl
noncomputable abbrev vy : GS := zt false ve jy fun x => zp x
theorem Vq : GSOK Tryz.prog 103 vy := zm tok z5y fmo (Ht := J7) (fn := Tryz.f103) (Tryz.func103) (c := J5) (by kernel_rfl) (by kernel_rfl) (by kernel_rfl) (by decide +kernel) (by decide) z34
end Go.Proofs.Y
namespace Go.Proofs.Y
open Go.Rb Go.Kx
noncomputable def JP : Code := zl Tryz.f161
noncomputable def JQ : FuncId → Option GS := tabG []
theorem z6a : ΓOK Tryz.prog JQ := zg
def JR : HT := ⟨tabL [(4, .it [] (dyn [.t 0 (.sl 4 (.one .bool)), .t 5 (.int .i64), .t 6 (.int .i64), .t 7 (.int .i64)])), (10, .it [] (dyn [.t 8 (.int .i64), .t 22 (.int .i64)]))], tabH []⟩
abbrev vz : List IT := [.v (.one (.sl 4 (.one .bool))) false]
abbrev J8 : List OT := [⟨.one (.int .i64), false, []⟩, ⟨.one (.sl 4 (.one .bool)), false, []⟩, ⟨.one (.int .i64), false, []⟩]
set_option maxRecDepth 100000
noncomputable def yd : List Bool → Option (Int × List Bool × Int) := fun a => zk maxR (fun (x : List Bool × Int × Int × Int) => ifB (eqI x.2.2.2 8) (mapO Sum.inr (some (0, [], 3))) (ifB (ltI (lenI x.1) 4) (mapO Sum.inr (some (0, [], 8))) (ifB (in2 x.1 1 4) (zk maxR (fun (x_1 : Int × Int) => ifB (ltI x_1.2 (lenI (sliI x.1 1 4))) (z6 (atI (sliI x.1 1 4) x_1.2) fun y => ifB y (ifB (ltI x_1.2 0) none (some (Sum.inl (wadd .i64 x_1.1 (wshr .i64 4 x_1.2), wadd .i64 x_1.2 1)))) (some (Sum.inl (x_1.1, wadd .i64 x_1.2 1)))) (mapO Sum.inr (ifB (gtI x.2.2.2 0) (ifB (eqI x_1.1 0) (z6 (atI x.1 0) fun y => ifB (notB y) (mapO Sum.inr (some (0, [], 4))) (ifB (gtI (wadd .i64 x.2.1 (wmul .i64 x_1.1 x.2.2.1)) 8000000) (mapO Sum.inr (some (0, [], 3))) (z6 (atI x.1 0) fun y => ifB (in1 x.1 4) (ifB (notB y) (mapO Sum.inr (ifB (eqI (wrem (wadd .i64 x.2.1 (wmul .i64 x_1.1 x.2.2.1)) 2) 0) (some (wquo .i64 (wadd .i64 x.2.1 (wmul .i64 x_1.1 x.2.2.1)) 2, yb x.1 4, 0)) (some (wneg .i64 (wadd .i64 (wquo .i64 (wadd .i64 x.2.1 (wmul .i64 x_1.1 x.2.2.1)) 2) 1), yb x.1 4, 0)))) (some (Sum.inl (yb x.1 4, wadd .i64 x.2.1 (wmul .i64 x_1.1 x.2.2.1), wmul .i64 x.2.2.1 8, wadd .i64 x.2.2.2 1)))) none))) (ifB (gtI (wadd .i64 x.2.1 (wmul .i64 x_1.1 x.2.2.1)) 8000000) (mapO Sum.inr (some (0, [], 3))) (z6 (atI x.1 0) fun y => ifB (in1 x.1 4) (ifB (notB y) (mapO Sum.inr (ifB (eqI (wrem (wadd .i64 x.2.1 (wmul .i64 x_1.1 x.2.2.1)) 2) 0) (some (wquo .i64 (wadd .i64 x.2.1 (wmul .i64 x_1.1 x.2.2.1)) 2, yb x.1 4, 0)) (some (wneg .i64 (wadd .i64 (wquo .i64 (wadd .i64 x.2.1 (wmul .i64 x_1.1 x.2.2.1)) 2) 1), yb x.1 4, 0)))) (some (Sum.inl (yb x.1 4, wadd .i64 x.2.1 (wmul .i64 x_1.1 x.2.2.1), wmul .i64 x.2.2.1 8, wadd .i64 x.2.2.2 1)))) none))) (ifB (gtI (wadd .i64 x.2.1 (wmul .i64 x_1.1 x.2.2.1)) 8000000) (mapO Sum.inr (some (0, [], 3))) (z6 (atI x.1 0) fun y => ifB (in1 x.1 4) (ifB (notB y) (mapO Sum.inr (ifB (eqI (wrem (wadd .i64 x.2.1 (wmul .i64 x_1.1 x.2.2.1)) 2) 0) (some (wquo .i64 (wadd .i64 x.2.1 (wmul .i64 x_1.1 x.2.2.1)) 2, yb x.1 4, 0)) (some (wneg .i64 (wadd .i64 (wquo .i64 (wadd .i64 x.2.1 (wmul .i64 x_1.1 x.2.2.1)) 2) 1), yb x.1 4, 0)))) (some (Sum.inl (yb x.1 4, wadd .i64 x.2.1 (wmul .i64 x_1.1 x.2.2.1), wmul .i64 x.2.2.1 8, wadd .i64 x.2.2.2 1)))) none))))) (0, 0)) none))) (a, 0, 1, 0)
theorem z3F (x : PI vz) : yd x = fnE T JQ JR JP (zu Tryz.f161) vz J8 x := by kernel_rfl
noncomputable abbrev JS : GS := zt false vz J8 fun x => yd x
theorem z3G : GSOK Tryz.prog 161 JS := zm tok z6a fmo (Ht := JR) (fn := Tryz.f161) (Tryz.func161) (c := JP) (by kernel_rfl) (by kernel_rfl) (by kernel_rfl) (by decide +kernel) (by decide) z3F
end Go.Proofs.Y
namespace Go.Proofs.Y
open Go.Rb Go.Kx
noncomputable def VJ : Code := zl Tryz.f136
noncomputable def VK : FuncId → Option GS := tabG [(64, ZV), (161, JS), (131, Y1)]
theorem z3H : ΓOK Tryz.prog VK := z8 (ZJ) (z8 (z3G) (z8 (Yp) (zg)))
def VL : HT := ⟨tabL [(5, .it [] (dyn [.t 0 (.sl 4 (.one .bool)), .a 6 73 (.cons (.int .i64) (.one (.int .i64))), .t 23 (.int .i64)]))], tabH []⟩
abbrev Yz : List IT := [.v (.one (.sl 4 (.one .bool))) false, .v (.one (.int .i64)) false]
abbrev Vr : List OT := [⟨.one (.sl 73 (.cons (.int .i64) (.one (.int .i64)))), false, []⟩, ⟨.one (.int .i64), false, []⟩]
set_option maxRecDepth 100000
noncomputable def yh : List Bool → Int → Option (List (Int × Int) × Int) := fun a b => z6 (zj b 0 40) fun y => ifB (notB y) (some ([], 2)) (zk maxR (fun (x : List Bool × Int × List (Int × Int)) => ifB (ltI x.2.1 b) (z6 (yd x.1) fun y => ifB (neI y.2.2 0) (mapO Sum.inr (some ([], y.2.2))) (z6 (yd y.2.1) fun y_1 => ifB (neI y_1.2.2 0) (mapO Sum.inr (some ([], y_1.2.2))) (ifB (ltL x.2.1 x.2.2) (z6 (atN x.2.2 (natI x.2.1)) fun y_2 => ifB (ltL (wadd .i64 x.2.1 1) x.2.2) (z6 (atN x.2.2 (natI (wadd .i64 x.2.1 1))) fun y_3 => z6 (zC (wadd .i64 (wsub .i64 (wmul .i64 2 y_3.1) y_2.1) y.1, wadd .i64 y_3.2 y_1.1)) fun y_4 => ifB (neI y_4 0) (mapO Sum.inr (some ([], y_4))) (ifB (gtI x.2.1 0) (ifB (leI (wadd .i64 (wsub .i64 (wmul .i64 2 y_3.1) y_2.1) y.1) y_3.1) (mapO Sum.inr (some ([], 7))) (ifB (ze 16 x.2.2 [(wadd .i64 (wsub .i64 (wmul .i64 2 y_3.1) y_2.1) y.1, wadd .i64 y_3.2 y_1.1)]) (some (Sum.inl (y_1.2.1, wadd .i64 x.2.1 1, cat x.2.2 [(wadd .i64 (wsub .i64 (wmul .i64 2 y_3.1) y_2.1) y.1, wadd .i64 y_3.2 y_1.1)]))) none)) (ifB (ze 16 x.2.2 [(wadd .i64 (wsub .i64 (wmul .i64 2 y_3.1) y_2.1) y.1, wadd .i64 y_3.2 y_1.1)]) (some (Sum.inl (y_1.2.1, wadd .i64 x.2.1 1, cat x.2.2 [(wadd .i64 (wsub .i64 (wmul .i64 2 y_3.1) y_2.1) y.1, wadd .i64 y_3.2 y_1.1)]))) none))) none) none))) (mapO Sum.inr (ifB (gtI (lenI x.1) 0) (some ([], 8)) (ifB (in1 x.2.2 2) (ifB (inN x.2.2 (addN 0 (natI 2)) (ZB (lenN x.2.2) 2)) (some (subN x.2.2 (addN 0 (natI 2)) (ZB (lenN x.2.2) 2), 0)) none) none)))) (a, 0, [(0, 0), (0, 0)]))
theorem z1V (x : PI Yz) : yh (x.1) (x.2) = fnE T VK VL VJ (zu Tryz.f136) Yz Vr x := by kernel_rfl
noncomputable abbrev VM : GS := zt false Yz Vr fun x => yh (x.1) (x.2)
theorem z1W : GSOK Tryz.prog 136 VM := zm tok z3H fmo (Ht := VL) (fn := Tryz.f136) (Tryz.func136) (c := VJ) (by kernel_rfl) (by kernel_rfl) (by kernel_rfl) (by decide +kernel) (by decide) z1V
end Go.Proofs.Y
namespace Go.Proofs.Y
open Go.Rb Go.Kx
noncomputable def J9 : Code := zl Tryz.f105
noncomputable def Ja : FuncId → Option GS := tabG [(136, VM)]
theorem z5z : ΓOK Tryz.prog Ja := z8 (z1W) (zg)
def Jb : HT := ⟨tabL [], tabH []⟩
abbrev vf : List IT := [.v (.cons (.int .i64) (.cons (.int .i64) (.cons (.int .i64) (.one (.sl 4 (.one .bool)))))) true]
abbrev jz : List OT := [⟨.one (.sl 73 (.cons (.int .i64) (.one (.int .i64)))), false, []⟩, ⟨.one (.int .i64), false, []⟩]
set_option maxRecDepth 100000
noncomputable def ZW : Int × Int × Int × List Bool → Option (List (Int × Int) × Int) := fun a => z6 (yh a.2.2.2 a.1) fun y => ifB (eqI y.2 0) (ifB (eqI (lenI y.1) 0) (some ([], 4)) (z6 (atI y.1 0) fun y_1 => ifB (neI a.2.1 y_1.1) (some ([], 4)) (z6 (atI y.1 (wsub .i64 (lenI y.1) 1)) fun y_2 => ifB (neI a.2.2.1 y_2.1) (some ([], 4)) (ifB (neI y.2 0) (some ([], y.2)) (some (y.1, 0)))))) (ifB (neI y.2 0) (some ([], y.2)) (some (y.1, 0)))
theorem z35 (x : PI vf) : ZW x = fnE T Ja Jb J9 (zu Tryz.f105) vf jz x := by kernel_rfl
noncomputable abbrev vA : GS := zt false vf jz fun x => ZW x
theorem Vs : GSOK Tryz.prog 105 vA := zm tok z5z fmo (Ht := Jb) (fn := Tryz.f105) (Tryz.func105) (c := J9) (by kernel_rfl) (by kernel_rfl) (by kernel_rfl) (by decide +kernel) (by decide) z35
end Go.Proofs.Y
namespace Go.Proofs.Y
open Go.Rb Go.Kx
noncomputable def Vt : Code := zl Tryz.f106
noncomputable def Vu : FuncId → Option GS := tabG [(131, Y1)]
theorem z36 : ΓOK Tryz.prog Vu := z8 (Yp) (zg)
def Vv : HT := ⟨tabL [(5, .it [] (dyn [.t 3 (.int .i64), .t 12 (.int .i64)]))], tabH []⟩
abbrev Yt : List IT := [.v (.one (.sl 73 (.cons (.int .i64) (.one (.int .i64))))) false]
abbrev Vd : List OT := [⟨.one (.int .i64), false, []⟩]
set_option maxRecDepth 100000
noncomputable def ZX : List (Int × Int) → Option Int := fun a => ifB (gtI (lenI a) 40) (some 2) (zk maxR (fun (x : Int × Int) => ifB (ltI x.2 (lenI a)) (z6 (atI a x.2) fun y => z6 (zC (y.1, y.2)) fun y_1 => ifB (neI y_1 0) (mapO Sum.inr (some y_1)) (ifB (leI y.1 x.1) (mapO Sum.inr (some 7)) (some (Sum.inl (y.1, wadd .i64 x.2 1))))) (mapO Sum.inr (some 0))) (-1, 0))
theorem z1l (x : PI Yt) : ZX x = fnE T Vu Vv Vt (zu Tryz.f106) Yt Vd x := by kernel_rfl
noncomputable abbrev YA : GS := zt false Yt Vd fun x => ZX x
theorem vM : GSOK Tryz.prog 106 YA := zm tok z36 fmo (Ht := Vv) (fn := Tryz.f106) (Tryz.func106) (c := Vt) (by kernel_rfl) (by kernel_rfl) (by kernel_rfl) (by decide +kernel) (by decide) z1l
end Go.Proofs.Y
namespace Go.Proofs.Y
open Go.Rb Go.Kx
noncomputable def jA : Code := zl Tryz.f57
noncomputable def jB : FuncId → Option GS := tabG [(105, vA), (106, YA)]
theorem z4o : ΓOK Tryz.prog jB := z8 (Vs) (z8 (vM) (zg))
def jC : HT := ⟨tabL [(5, .it [] (dyn [.a 4 73 (.cons (.int .i64) (.one (.int .i64))), .t 17 (.int .i64)]))], tabH []⟩
abbrev YR : List IT := [.v (.cons (.sl 126 (.cons (.int .i64) (.cons (.int .i64) (.cons (.int .i64) (.one (.sl 4 (.one .bool))))))) (.one (.sl 73 (.cons (.int .i64) (.one (.int .i64)))))) true]
abbrev VN : List OT := [⟨.one (.sl 73 (.cons (.int .i64) (.one (.int .i64)))), false, []⟩, ⟨.one (.int .i64), false, []⟩]
set_option maxRecDepth 100000
noncomputable def Zh : List (Int × Int × Int × List Bool) × List (Int × Int) → Option (List (Int × Int) × Int) := fun a => ifB (gtI (lenI a.1) 8) (some ([], 2)) (zk maxR (fun (x : Int × List (Int × Int)) => ifB (ltI x.1 (lenI a.1)) (z6 (atI a.1 x.1) fun y => z6 (ZW (y.1, y.2.1, y.2.2.1, y.2.2.2)) fun y => ifB (neI y.2 0) (mapO Sum.inr (some ([], y.2))) (ifB (ze 16 x.2 y.1) (some (Sum.inl (wadd .i64 x.1 1, cat x.2 y.1))) none)) (mapO Sum.inr (ifB (ze 16 x.2 a.2) (z6 (ZX (cat x.2 a.2)) fun y => ifB (neI y 0) (some ([], y)) (some (cat x.2 a.2, 0))) none))) (0, []))
theorem z2b (x : PI YR) : Zh x = fnE T jB jC jA (zu Tryz.f57) YR VN x := by kernel_rfl
noncomputable abbrev vg : GS := zt false YR VN fun x => Zh x
theorem Ve : GSOK Tryz.prog 57 vg := zm tok z4o fmo (Ht := jC) (fn := Tryz.f57) (Tryz.func57) (c := jA) (by kernel_rfl) (by kernel_rfl) (by kernel_rfl) (by decide +kernel) (by decide) z2b
end Go.Proofs.Y
namespace Go.Proofs.Y
open Go.Rb Go.Kx
set_option maxRecDepth 100000
end Go.Proofs.Y
namespace Go.Proofs.Y
open Go.Rb Go.Kx
noncomputable def zfi : Code := zl Tryz.f137
noncomputable def zfj : FuncId → Option GS := tabG []
theorem zmz : ΓOK Tryz.prog zfj := zg
def zfk : HT := ⟨tabL [], tabH []⟩
abbrev z74 : List IT := [.v (.one (.sl 95 (.cons (.sl 126 (.cons (.int .i64) (.cons (.int .i64) (.cons (.int .i64) (.one (.sl 4 (.one .bool))))))) (.one (.sl 73 (.cons (.int .i64) (.one (.int .i64)))))))) false]
abbrev zcK : List OT := [⟨.one (.sl 95 (.cons (.sl 126 (.cons (.int .i64) (.cons (.int .i64) (.cons (.int .i64) (.one (.sl 4 (.one .bool))))))) (.one (.sl 73 (.cons (.int .i64) (.one (.int .i64))))))), false, [true]⟩]
set_option maxRecDepth 100000
noncomputable def Ya : List (List (Int × Int × Int × List Bool) × List (Int × Int)) → Option (List (List (Int × Int × Int × List Bool) × List (Int × Int))) := fun a => ifB (isE a) (ambO (some []) (ifB (ze 48 [] a) (some (cat [] a)) none)) (ifB (ze 48 [] a) (some (cat [] a)) none)
theorem zhC (x : PI z74) : Ya x = fnE T zfj zfk zfi (zu Tryz.f137) z74 zcK x := by kernel_rfl
noncomputable abbrev JT : GS := zt false z74 zcK fun x => Ya x
theorem VO : GSOK Tryz.prog 137 JT := zm tok zmz fmo (Ht := zfk) (fn := Tryz.f137) (Tryz.func137) (c := zfi) (by kernel_rfl) (by kernel_rfl) (by kernel_rfl) (by decide +kernel) (by decide) zhC
end Go.Proofs.Y
namespace Go.Proofs.Y
open Go.Rb Go.Kx
noncomputable def zhD : Code := zl Tryz.f139
noncomputable def zhE : FuncId → Option GS := tabG []
theorem zo2 : ΓOK Tryz.prog zhE := zg
def zhF : HT := ⟨tabL [], tabH []⟩
abbrev z8J : List IT := [.v (.one (.sl 73 (.cons (.int .i64) (.one (.int .i64))))) false]
abbrev zfl : List OT := [⟨.one (.sl 73 (.cons (.int .i64) (.one (.int .i64)))), false, [true]⟩]
set_option maxRecDepth 100000
noncomputable def Zf : List (Int × Int) → Option (List (Int × Int)) := fun a => ifB (isE a) (ambO (some []) (ifB (ze 16 [] a) (some (cat [] a)) none)) (ifB (ze 16 [] a) (some (cat [] a)) none)
theorem zjB (x : PI z8J) : Zf x = fnE T zhE zhF zhD (zu Tryz.f139) z8J zfl x := by kernel_rfl
noncomputable abbrev z3I : GS := zt false z8J zfl fun x => Zf x
theorem z1K : GSOK Tryz.prog 139 z3I := zm tok zo2 fmo (Ht := zhF) (fn := Tryz.f139) (Tryz.func139) (c := zhD) (by kernel_rfl) (by kernel_rfl) (by kernel_rfl) (by decide +kernel) (by decide) zjB
end Go.Proofs.Y
namespace Go.Proofs.Y
open Go.Rb Go.Kx
noncomputable def z0w : Code := zl Tryz.f132
noncomputable def z0x : FuncId → Option GS := tabG [(137, JT), (64, ZV), (139, z3I), (57, vg)]
theorem z77 : ΓOK Tryz.prog z0x := z8 (VO) (z8 (ZJ) (z8 (z1K) (z8 (Ve) (zg))))
def z0y : HT := ⟨tabL [(5, .it [] (dyn [.t 21 (.int .i64), .a 6 95 (.cons (.sl 126 (.cons (.int .i64) (.cons (.int .i64) (.cons (.int .i64) (.one (.sl 4 (.one .bool))))))) (.one (.sl 73 (.cons (.int .i64) (.one (.int .i64)))))), .c 4 0 (.sl 95 (.cons (.sl 126 (.cons (.int .i64) (.cons (.int .i64) (.cons (.int .i64) (.one (.sl 4 (.one .bool))))))) (.one (.sl 73 (.cons (.int .i64) (.one (.int .i64)))))))]))], tabH [(5, [.touch 6])]⟩
abbrev vN : List IT := [.v (.one (.sl 95 (.cons (.sl 126 (.cons (.int .i64) (.cons (.int .i64) (.cons (.int .i64) (.one (.sl 4 (.one .bool))))))) (.one (.sl 73 (.cons (.int .i64) (.one (.int .i64)))))))) true, .v (.one (.sl 77 (.cons (.int .i64) (.cons (.int .i64) (.one (.int .i64)))))) false]
abbrev JU : List OT := [⟨.one (.sl 95 (.cons (.sl 126 (.cons (.int .i64) (.cons (.int .i64) (.cons (.int .i64) (.one (.sl 4 (.one .bool))))))) (.one (.sl 73 (.cons (.int .i64) (.one (.int .i64))))))), true, []⟩, ⟨.one (.int .i64), false, []⟩]
set_option maxRecDepth 100000
noncomputable def Y2 : List (List (Int × Int × Int × List Bool) × List (Int × Int)) → List (Int × Int × Int) → Option (List (List (Int × Int × Int × List Bool) × List (Int × Int)) × Int) := fun a b => ifB (gtI (lenI b) 10) (some ([], 2)) (z6 (Ya a) fun y => zk maxR (fun (x : Int × List (List (Int × Int × Int × List Bool) × List (Int × Int)) × List (List (Int × Int × Int × List Bool) × List (Int × Int))) => ifB (ltI x.1 (lenI b)) (z6 (atI b x.1) fun y => z6 (zj y.1 0 3) fun y_1 => ifB (notB y_1) (mapO Sum.inr (some ([], 5))) (ifB (ltL y.1 x.2.2) (z6 (atN x.2.2 (natI y.1)) fun y_2 => z6 (Zf y_2.2) fun y_3 => ifB (ze 16 y_3 [(y.2.1, y.2.2)]) (z6 (Zh (y_2.1, cat y_3 [(y.2.1, y.2.2)])) fun y_4 => ifB (neI y_4.2 0) (mapO Sum.inr (some ([], y_4.2))) (ifB (ltL y.1 x.2.2) (z6 (atN x.2.2 (natI y.1)) fun y_5 => some (Sum.inl (wadd .i64 x.1 1, x.2.1, setN x.2.2 (natI y.1) (y_2.1, cat y_3 [(y.2.1, y.2.2)])))) none)) none) none)) (mapO Sum.inr (some (x.2.2, 0)))) (0, [], y))
theorem z4p (x : PI vN) : Y2 (x.1) (x.2) = fnE T z0x z0y z0w (zu Tryz.f132) vN JU x := by kernel_rfl
noncomputable abbrev z0z : GS := zt false vN JU fun x => Y2 (x.1) (x.2)
theorem z4q : GSOK Tryz.prog 132 z0z := zm tok z77 fmo (Ht := z0y) (fn := Tryz.f132) (Tryz.func132) (c := z0w) (by kernel_rfl) (by kernel_rfl) (by kernel_rfl) (by decide +kernel) (by decide) z4p
end Go.Proofs.Y
namespace Go.Proofs.Y
open Go.Rb Go.Kx
noncomputable def zhG : Code := zl Tryz.f162
noncomputable def zhH : FuncId → Option GS := tabG []
theorem zo3 : ΓOK Tryz.prog zhH := zg
def zhI : HT := ⟨tabL [], tabH []⟩
abbrev z8K : List IT := [.v (.one (.sl 4 (.one .bool))) false]
abbrev zfm : List OT := [⟨.one (.sl 4 (.one .bool)), false, [true]⟩]
set_option maxRecDepth 100000
noncomputable def JF : List Bool → Option (List Bool) := fun a => ifB (isE a) (ambO (some []) (ifB (ze 1 [] a) (some (cat [] a)) none)) (ifB (ze 1 [] a) (some (cat [] a)) none)
theorem zjC (x : PI z8K) : JF x = fnE T zhH zhI zhG (zu Tryz.f162) z8K zfm x := by kernel_rfl
noncomputable abbrev z78 : GS := zt false z8K zfm fun x => JF x
theorem z5A : GSOK Tryz.prog 162 z78 := zm tok zo3 fmo (Ht := zhI) (fn := Tryz.f162) (Tryz.func162) (c := zhG) (by kernel_rfl) (by kernel_rfl) (by kernel_rfl) (by decide +kernel) (by decide) zjC
end Go.Proofs.Y
namespace Go.Proofs.Y
open Go.Rb Go.Kx
noncomputable def z16 : Code := zl Tryz.f202
noncomputable def z17 : FuncId → Option GS := tabG [(64, ZV), (162, z78)]
theorem z8e : ΓOK Tryz.prog z17 := z8 (ZJ) (z8 (z5A) (zg))
def z18 : HT := ⟨tabL [(8, .it [] (dyn [.t 6 (.int .i64), .a 7 3 (.one (.int .i64)), .t 8 (.bool)])), (14, .it [] (dyn [.a 9 4 (.one .bool), .t 39 (.int .i64)]))], tabH []⟩
abbrev V5 : List IT := [.v (.one (.sl 4 (.one .bool))) false, .v (.one (.int .i64)) false]
abbrev z0A : List OT := [⟨.one (.sl 4 (.one .bool)), false, []⟩, ⟨.one (.int .i64), false, []⟩]
set_option maxRecDepth 100000
noncomputable def zU : List Bool → Int → Option (List Bool × Int) := fun a b => z6 (zj b (-4000000) 4000000) fun y => ifB (notB y) (some ([], 3)) (ifB (ltI b 0) (zk maxR (fun (x : Int × Bool × List Int) => ifB x.2.1 (ifB (ze 8 x.2.2 [wrem x.1 8]) (some (Sum.inl (wquo .i64 x.1 8, false, cat x.2.2 [wrem x.1 8]))) none) (ifB (gtI x.1 0) (ifB (ze 8 x.2.2 [wrem x.1 8]) (some (Sum.inl (wquo .i64 x.1 8, false, cat x.2.2 [wrem x.1 8]))) none) (mapO Sum.inr (z6 (JF a) fun y => zk maxR (fun (x_1 : Int × List Bool) => ifB (ltI x_1.1 (lenI x.2.2)) (ifB (ltL x_1.1 x.2.2) (z6 (atN x.2.2 (natI x_1.1)) fun y => ifB (ze 1 x_1.2 [ltI x_1.1 (wsub .i64 (lenI x.2.2) 1), geI y 4, geI (wrem y 4) 2, eqI (wrem y 2) 1]) (some (Sum.inl (wadd .i64 x_1.1 1, cat x_1.2 [ltI x_1.1 (wsub .i64 (lenI x.2.2) 1), geI y 4, geI (wrem y 4) 2, eqI (wrem y 2) 1]))) none) none) (mapO Sum.inr (some (x_1.2, 0)))) (0, y))))) (wsub .i64 (wmul .i64 2 (wneg .i64 b)) 1, true, [])) (zk maxR (fun (x : Int × Bool × List Int) => ifB x.2.1 (ifB (ze 8 x.2.2 [wrem x.1 8]) (some (Sum.inl (wquo .i64 x.1 8, false, cat x.2.2 [wrem x.1 8]))) none) (ifB (gtI x.1 0) (ifB (ze 8 x.2.2 [wrem x.1 8]) (some (Sum.inl (wquo .i64 x.1 8, false, cat x.2.2 [wrem x.1 8]))) none) (mapO Sum.inr (z6 (JF a) fun y => zk maxR (fun (x_1 : Int × List Bool) => ifB (ltI x_1.1 (lenI x.2.2)) (ifB (ltL x_1.1 x.2.2) (z6 (atN x.2.2 (natI x_1.1)) fun y => ifB (ze 1 x_1.2 [ltI x_1.1 (wsub .i64 (lenI x.2.2) 1), geI y 4, geI (wrem y 4) 2, eqI (wrem y 2) 1]) (some (Sum.inl (wadd .i64 x_1.1 1, cat x_1.2 [ltI x_1.1 (wsub .i64 (lenI x.2.2) 1), geI y 4, geI (wrem y 4) 2, eqI (wrem y 2) 1]))) none) none) (mapO Sum.inr (some (x_1.2, 0)))) (0, y))))) (wmul .i64 2 b, true, [])))
theorem z5B (x : PI V5) : zU (x.1) (x.2) = fnE T z17 z18 z16 (zu Tryz.f202) V5 z0A x := by kernel_rfl
noncomputable abbrev z19 : GS := zt false V5 z0A fun x => zU (x.1) (x.2)
theorem z5C : GSOK Tryz.prog 202 z19 := zm tok z8e fmo (Ht := z18) (fn := Tryz.f202) (Tryz.func202) (c := z16) (by kernel_rfl) (by kernel_rfl) (by kernel_rfl) (by decide +kernel) (by decide) z5B
end Go.Proofs.Y
namespace Go.Proofs.Y
open Go.Rb Go.Kx
noncomputable def Jc : Code := zl Tryz.f179
noncomputable def Jd : FuncId → Option GS := tabG [(106, YA), (202, z19)]
theorem z5D : ΓOK Tryz.prog Jd := z8 (vM) (z8 (z5C) (zg))
def Je : HT := ⟨tabL [(6, .it [] (dyn [.t 5 (.sl 4 (.one .bool)), .t 17 (.int .i64)]))], tabH []⟩
abbrev vh : List IT := [.v (.one (.sl 73 (.cons (.int .i64) (.one (.int .i64))))) false]
abbrev jD : List OT := [⟨.one (.sl 4 (.one .bool)), false, []⟩, ⟨.one (.int .i64), false, []⟩]
set_option maxRecDepth 100000
noncomputable def yI : List (Int × Int) → Option (List Bool × Int) := fun a => z6 (ZX a) fun y => ifB (neI y 0) (some ([], y)) (zk maxR (fun (x : List Bool × Int) => ifB (ltI x.2 (lenI a)) (z6 (atI a x.2) fun y => ifB (gtI x.2 0) (z6 (atI a (wsub .i64 x.2 1)) fun y_1 => z6 (atI a (wsub .i64 x.2 1)) fun y_2 => ifB (gtI x.2 1) (z6 (atI a (wsub .i64 x.2 2)) fun y_3 => z6 (zU x.1 (wadd .i64 (wsub .i64 y.1 (wmul .i64 2 y_2.1)) y_3.1)) fun y_4 => z6 (zU y_4.1 (wsub .i64 y.2 y_1.2)) fun y => some (Sum.inl (y.1, wadd .i64 x.2 1))) (z6 (zU x.1 (wsub .i64 y.1 (wmul .i64 2 y_2.1))) fun y_3 => z6 (zU y_3.1 (wsub .i64 y.2 y_1.2)) fun y => some (Sum.inl (y.1, wadd .i64 x.2 1)))) (ifB (gtI x.2 1) (z6 (atI a (wsub .i64 x.2 2)) fun y_1 => z6 (zU x.1 (wadd .i64 y.1 y_1.1)) fun y_2 => z6 (zU y_2.1 y.2) fun y => some (Sum.inl (y.1, wadd .i64 x.2 1))) (z6 (zU x.1 y.1) fun y_1 => z6 (zU y_1.1 y.2) fun y => some (Sum.inl (y.1, wadd .i64 x.2 1))))) (mapO Sum.inr (some (x.1, 0)))) ([], 0))
theorem z38 (x : PI vh) : yI x = fnE T Jd Je Jc (zu Tryz.f179) vh jD x := by kernel_rfl
noncomputable abbrev Jf : GS := zt false vh jD fun x => yI x
theorem z39 : GSOK Tryz.prog 179 Jf := zm tok z5D fmo (Ht := Je) (fn := Tryz.f179) (Tryz.func179) (c := Jc) (by kernel_rfl) (by kernel_rfl) (by kernel_rfl) (by decide +kernel) (by decide) z38
end Go.Proofs.Y
namespace Go.Proofs.Y
open Go.Rb Go.Kx
noncomputable def JV : Code := zl Tryz.f158
noncomputable def JW : FuncId → Option GS := tabG [(179, Jf)]
theorem z6b : ΓOK Tryz.prog JW := z8 (z39) (zg)
def JX : HT := ⟨tabL [], tabH []⟩
abbrev vB : List IT := [.v (.one (.sl 73 (.cons (.int .i64) (.one (.int .i64))))) false]
abbrev Jg : List OT := [⟨.cons (.int .i64) (.cons (.int .i64) (.cons (.int .i64) (.one (.sl 4 (.one .bool))))), true, []⟩, ⟨.one (.int .i64), false, []⟩]
set_option maxRecDepth 100000
noncomputable def ye : List (Int × Int) → Option ((Int × Int × Int × List Bool) × Int) := fun a => z6 (yI a) fun y => ifB (eqI y.2 0) (ifB (eqI (lenI a) 0) (some ((0, 0, 0, []), 4)) (ifB (neI y.2 0) (some ((0, 0, 0, []), y.2)) (z6 (atI a 0) fun y_1 => z6 (atI a (wsub .i64 (lenI a) 1)) fun y_2 => some ((lenI a, y_1.1, y_2.1, y.1), 0)))) (ifB (neI y.2 0) (some ((0, 0, 0, []), y.2)) (z6 (atI a 0) fun y_1 => z6 (atI a (wsub .i64 (lenI a) 1)) fun y_2 => some ((lenI a, y_1.1, y_2.1, y.1), 0)))
theorem z3J (x : PI vB) : ye x = fnE T JW JX JV (zu Tryz.f158) vB Jg x := by kernel_rfl
noncomputable abbrev vO : GS := zt false vB Jg fun x => ye x
theorem VP : GSOK Tryz.prog 158 vO := zm tok z6b fmo (Ht := JX) (fn := Tryz.f158) (Tryz.func158) (c := JV) (by kernel_rfl) (by kernel_rfl) (by kernel_rfl) (by decide +kernel) (by decide) z3J
end Go.Proofs.Y
namespace Go.Proofs.Y
open Go.Rb Go.Kx
noncomputable def zfn : Code := zl Tryz.f138
noncomputable def zfo : FuncId → Option GS := tabG []
theorem zmA : ΓOK Tryz.prog zfo := zg
def zfp : HT := ⟨tabL [], tabH []⟩
abbrev z79 : List IT := [.v (.one (.sl 126 (.cons (.int .i64) (.cons (.int .i64) (.cons (.int .i64) (.one (.sl 4 (.one .bool)))))))) false]
abbrev zcL : List OT := [⟨.one (.sl 126 (.cons (.int .i64) (.cons (.int .i64) (.cons (.int .i64) (.one (.sl 4 (.one .bool))))))), false, [true]⟩]
set_option maxRecDepth 100000
noncomputable def Z2 : List (Int × Int × Int × List Bool) → Option (List (Int × Int × Int × List Bool)) := fun a => ifB (isE a) (ambO (some []) (ifB (ze 48 [] a) (some (cat [] a)) none)) (ifB (ze 48 [] a) (some (cat [] a)) none)
theorem zhJ (x : PI z79) : Z2 x = fnE T zfo zfp zfn (zu Tryz.f138) z79 zcL x := by kernel_rfl
noncomputable abbrev z4W : GS := zt false z79 zcL fun x => Z2 x
theorem z3K : GSOK Tryz.prog 138 z4W := zm tok zmA fmo (Ht := zfp) (fn := Tryz.f138) (Tryz.func138) (c := zfn) (by kernel_rfl) (by kernel_rfl) (by kernel_rfl) (by decide +kernel) (by decide) zhJ
end Go.Proofs.Y
namespace Go.Proofs.Y
open Go.Rb Go.Kx
noncomputable def z0B : Code := zl Tryz.f133
noncomputable def z0C : FuncId → Option GS := tabG [(64, ZV), (137, JT), (158, vO), (138, z4W)]
theorem z7a : ΓOK Tryz.prog z0C := z8 (ZJ) (z8 (VO) (z8 (VP) (z8 (z3K) (zg))))
def z0D : HT := ⟨tabL [], tabH []⟩
abbrev vP : List IT := [.v (.one (.sl 95 (.cons (.sl 126 (.cons (.int .i64) (.cons (.int .i64) (.cons (.int .i64) (.one (.sl 4 (.one .bool))))))) (.one (.sl 73 (.cons (.int .i64) (.one (.int .i64)))))))) true, .v (.one (.int .i64)) false, .v (.one (.int .i64)) false]
abbrev JY : List OT := [⟨.one (.sl 95 (.cons (.sl 126 (.cons (.int .i64) (.cons (.int .i64) (.cons (.int .i64) (.one (.sl 4 (.one .bool))))))) (.one (.sl 73 (.cons (.int .i64) (.one (.int .i64))))))), true, []⟩, ⟨.one (.int .i64), false, []⟩]
set_option maxRecDepth 100000
noncomputable def Y3 : List (List (Int × Int × Int × List Bool) × List (Int × Int)) → Int → Int → Option (List (List (Int × Int × Int × List Bool) × List (Int × Int)) × Int) := fun a b c => z6 (zj b 0 3) fun y => ifB (notB y) (some ([], 5)) (z6 (Ya a) fun y => ifB (ltL b y) (z6 (atN y (natI b)) fun y_1 => z6 (zj c 1 (lenI y_1.2)) fun y_2 => ifB (notB y_2) (some ([], 3)) (ifB (geI (lenI y_1.1) 8) (some ([], 2)) (ifB (in1 y_1.2 c) (z6 (ye (vc y_1.2 c)) fun y_3 => z6 (Z2 y_1.1) fun y_4 => ifB (ze 48 y_4 [(y_3.1.1, y_3.1.2.1, y_3.1.2.2.1, y_3.1.2.2.2)]) (ifB (in1 y_1.2 c) (ifB (ltL b y) (z6 (atN y (natI b)) fun y_5 => some (setN y (natI b) (cat y_4 [(y_3.1.1, y_3.1.2.1, y_3.1.2.2.1, y_3.1.2.2.2)], yb y_1.2 c), 0)) none) none) none) none))) none)
theorem z4r (x : PI vP) : Y3 (x.1) (x.2.1) (x.2.2) = fnE T z0C z0D z0B (zu Tryz.f133) vP JY x := by kernel_rfl
noncomputable abbrev z0E : GS := zt false vP JY fun x => Y3 (x.1) (x.2.1) (x.2.2)
theorem z4s : GSOK Tryz.prog 133 z0E := zm tok z7a fmo (Ht := z0D) (fn := Tryz.f133) (Tryz.func133) (c := z0B) (by kernel_rfl) (by kernel_rfl) (by kernel_rfl) (by decide +kernel) (by decide) z4r
end Go.Proofs.Y
namespace Go.Proofs.Y
open Go.Rb Go.Kx
noncomputable def z0F : Code := zl Tryz.f159
noncomputable def z0G : FuncId → Option GS := tabG [(105, vA), (139, z3I), (158, vO)]
theorem z7b : ΓOK Tryz.prog z0G := z8 (Vs) (z8 (z1K) (z8 (VP) (zg)))
def z0H : HT := ⟨tabL [], tabH []⟩
abbrev vQ : List IT := [.v (.cons (.int .i64) (.cons (.int .i64) (.cons (.int .i64) (.one (.sl 4 (.one .bool)))))) true, .v (.cons (.int .i64) (.cons (.int .i64) (.cons (.int .i64) (.one (.sl 4 (.one .bool)))))) true]
abbrev JZ : List OT := [⟨.cons (.int .i64) (.cons (.int .i64) (.cons (.int .i64) (.one (.sl 4 (.one .bool))))), true, []⟩, ⟨.one (.int .i64), false, []⟩]
set_option maxRecDepth 100000
noncomputable def Y4 : Int × Int × Int × List Bool → Int × Int × Int × List Bool → Option ((Int × Int × Int × List Bool) × Int) := fun a b => z6 (ZW (a.1, a.2.1, a.2.2.1, a.2.2.2)) fun y => ifB (neI y.2 0) (some ((0, 0, 0, []), y.2)) (z6 (ZW (b.1, b.2.1, b.2.2.1, b.2.2.2)) fun y_1 => ifB (neI y_1.2 0) (some ((0, 0, 0, []), y_1.2)) (z6 (Zf y.1) fun y => ifB (ze 16 y y_1.1) (z6 (ye (cat y y_1.1)) fun y => some ((y.1.1, y.1.2.1, y.1.2.2.1, y.1.2.2.2), y.2)) none))
theorem z4t (x : PI vQ) : Y4 (x.1) (x.2) = fnE T z0G z0H z0F (zu Tryz.f159) vQ JZ x := by kernel_rfl
noncomputable abbrev z0I : GS := zt false vQ JZ fun x => Y4 (x.1) (x.2)
theorem z4u : GSOK Tryz.prog 159 z0I := zm tok z7b fmo (Ht := z0H) (fn := Tryz.f159) (Tryz.func159) (c := z0F) (by kernel_rfl) (by kernel_rfl) (by kernel_rfl) (by decide +kernel) (by decide) z4t
end Go.Proofs.Y
namespace Go.Proofs.Y
open Go.Rb Go.Kx
noncomputable def zhK : Code := zl Tryz.f180
noncomputable def zhL : FuncId → Option GS := tabG []
theorem zo4 : ΓOK Tryz.prog zhL := zg
def zhM : HT := ⟨tabL [], tabH []⟩
noncomputable def zhN : GS := inl T zhL zhM zhK (zu Tryz.f180) (Tryz.f180.ntmps)
theorem zjD : GSOK Tryz.prog 180 zhN := Yo tok zo4 fmo (Ht := zhM) (fn := Tryz.f180) (Tryz.func180) (c := zhK) (by kernel_rfl) (by kernel_rfl) (by kernel_rfl)
end Go.Proofs.Y
namespace Go.Proofs.Y
open Go.Rb Go.Kx
noncomputable def zcM : Code := zl Tryz.f160
noncomputable def zcN : FuncId → Option GS := tabG [(180, zhN)]
theorem zlr : ΓOK Tryz.prog zcN := z8 (zjD) (zg)
def zcO : HT := ⟨tabL [(3, .it [] (dyn [.t 3 (.int .i64), .t 11 (.int .i64)])), (11, .it [] (dyn [.a 6 126 (.cons (.int .i64) (.cons (.int .i64) (.cons (.int .i64) (.one (.sl 4 (.one .bool)))))), .t 27 (.int .i64)]))], tabH [(10, [.trim 6])]⟩
abbrev z5E : List IT := [.v (.one (.sl 93 (.one (.sl 126 (.cons (.int .i64) (.cons (.int .i64) (.cons (.int .i64) (.one (.sl 4 (.one .bool)))))))))) false]
abbrev zaY : List OT := [⟨.one (.sl 126 (.cons (.int .i64) (.cons (.int .i64) (.cons (.int .i64) (.one (.sl 4 (.one .bool))))))), false, []⟩]
set_option maxRecDepth 100000
noncomputable def z3a : List (List (Int × Int × Int × List Bool)) → Option (List (Int × Int × Int × List Bool)) := fun a => zk maxR (fun (x : Int × Int) => ifB (ltI x.2 (lenI a)) (z6 (atI a x.2) fun y => ifB (ltI (wadd .i64 x.1 (lenI y)) 0) none (some (Sum.inl (wadd .i64 x.1 (lenI y), wadd .i64 x.2 1)))) (mapO Sum.inr (ifB (ltI x.1 0) none (ifB (gtI (wsub .i64 x.1 (wsub .i64 0 0)) 0) (ifB (z0n 48 (wsub .i64 x.1 (wsub .i64 0 0))) (ifB (in1 (repI (wsub .i64 x.1 (wsub .i64 0 0)) ((0, 0, 0, []) : Int × Int × Int × List Bool)) 0) (ifB (inN (repI (wsub .i64 x.1 (wsub .i64 0 0)) ((0, 0, 0, []) : Int × Int × Int × List Bool)) 0 (natI 0)) (zk maxR (fun (x : Int × List (Int × Int × Int × List Bool)) => ifB (ltI x.1 (lenI a)) (z6 (atI a x.1) fun y => ifB (ze 48 x.2 y) (some (Sum.inl (wadd .i64 x.1 1, cat x.2 y))) none) (mapO Sum.inr (some x.2))) (0, subN (repI (wsub .i64 x.1 (wsub .i64 0 0)) ((0, 0, 0, []) : Int × Int × Int × List Bool)) 0 (natI 0))) none) none) none) (zk maxR (fun (x : Int × List (Int × Int × Int × List Bool)) => ifB (ltI x.1 (lenI a)) (z6 (atI a x.1) fun y => ifB (ze 48 x.2 y) (some (Sum.inl (wadd .i64 x.1 1, cat x.2 y))) none) (mapO Sum.inr (some x.2))) (0, [])))))) (0, 0)
theorem zgg (x : PI z5E) : z3a x = fnE T zcN zcO zcM (zu Tryz.f160) z5E zaY x := by kernel_rfl
noncomputable abbrev zcP : GS := zt false z5E zaY fun x => z3a x
theorem zgh : GSOK Tryz.prog 160 zcP := zm tok zlr fmo (Ht := zcO) (fn := Tryz.f160) (Tryz.func160) (c := zcM) (by kernel_rfl) (by kernel_rfl) (by kernel_rfl) (by decide +kernel) (by decide) zgg
end Go.Proofs.Y
namespace Go.Proofs.Y
open Go.Rb Go.Kx
noncomputable def jE : Code := zl Tryz.f134
noncomputable def jF : FuncId → Option GS := tabG [(64, ZV), (137, JT), (159, z0I), (160, zcP)]
theorem z4v : ΓOK Tryz.prog jF := z8 (ZJ) (z8 (VO) (z8 (z4u) (z8 (zgh) (zg))))
def jG : HT := ⟨tabL [], tabH []⟩
abbrev YS : List IT := [.v (.one (.sl 95 (.cons (.sl 126 (.cons (.int .i64) (.cons (.int .i64) (.cons (.int .i64) (.one (.sl 4 (.one .bool))))))) (.one (.sl 73 (.cons (.int .i64) (.one (.int .i64)))))))) true, .v (.one (.int .i64)) false, .v (.one (.int .i64)) false]
abbrev VQ : List OT := [⟨.one (.sl 95 (.cons (.sl 126 (.cons (.int .i64) (.cons (.int .i64) (.cons (.int .i64) (.one (.sl 4 (.one .bool))))))) (.one (.sl 73 (.cons (.int .i64) (.one (.int .i64))))))), true, []⟩, ⟨.one (.int .i64), false, []⟩]
set_option maxRecDepth 100000
noncomputable def yx : List (List (Int × Int × Int × List Bool) × List (Int × Int)) → Int → Int → Option (List (List (Int × Int × Int × List Bool) × List (Int × Int)) × Int) := fun a b c => z6 (zj b 0 3) fun y => ifB (notB y) (some ([], 5)) (z6 (Ya a) fun y => ifB (ltL b y) (z6 (atN y (natI b)) fun y_1 => ifB (ltI c 0) (some ([], 3)) (ifB (leI (wadd .i64 c 1) 0) (some ([], 3)) (ifB (geI (wadd .i64 c 1) (lenI y_1.1)) (some ([], 3)) (z6 (atI y_1.1 c) fun y_2 => z6 (atI y_1.1 (wadd .i64 c 1)) fun y_3 => z6 (Y4 (y_2.1, y_2.2.1, y_2.2.2.1, y_2.2.2.2) (y_3.1, y_3.2.1, y_3.2.2.1, y_3.2.2.2)) fun y_4 => ifB (neI y_4.2 0) (some ([], y_4.2)) (ifB (in1 y_1.1 c) (ifB (in1 y_1.1 (wadd .i64 c 2)) (z6 (z3a [vc y_1.1 c, [(y_4.1.1, y_4.1.2.1, y_4.1.2.2.1, y_4.1.2.2.2)], yb y_1.1 (wadd .i64 c 2)]) fun y_5 => ifB (ltL b y) (z6 (atN y (natI b)) fun y_6 => some (setN y (natI b) (y_5, y_1.2), 0)) none) none) none))))) none)
theorem z2c (x : PI YS) : yx (x.1) (x.2.1) (x.2.2) = fnE T jF jG jE (zu Tryz.f134) YS VQ x := by kernel_rfl
noncomputable abbrev jH : GS := zt false YS VQ fun x => yx (x.1) (x.2.1) (x.2.2)
theorem z2d : GSOK Tryz.prog 134 jH := zm tok z4v fmo (Ht := jG) (fn := Tryz.f134) (Tryz.func134) (c := jE) (by kernel_rfl) (by kernel_rfl) (by kernel_rfl) (by decide +kernel) (by decide) z2c
end Go.Proofs.Y
namespace Go.Proofs.Y
open Go.Rb Go.Kx
noncomputable def z00 : Code := zl Tryz.f135
noncomputable def z01 : FuncId → Option GS := tabG [(64, ZV)]
theorem z6c : ΓOK Tryz.prog z01 := z8 (ZJ) (zg)
def z02 : HT := ⟨tabL [(5, .it [] (dyn [.t 19 (.int .i64), .b 6 0 95 (.cons (.sl 126 (.cons (.int .i64) (.cons (.int .i64) (.cons (.int .i64) (.one (.sl 4 (.one .bool))))))) (.one (.sl 73 (.cons (.int .i64) (.one (.int .i64))))))])), (9, .it [] (dyn [.t 29 (.int .i64), .b 9 0 126 (.cons (.int .i64) (.cons (.int .i64) (.cons (.int .i64) (.one (.sl 4 (.one .bool))))))]))], tabH []⟩
abbrev vC : List IT := [.v (.one (.sl 95 (.cons (.sl 126 (.cons (.int .i64) (.cons (.int .i64) (.cons (.int .i64) (.one (.sl 4 (.one .bool))))))) (.one (.sl 73 (.cons (.int .i64) (.one (.int .i64)))))))) true, .v (.one (.int .i64)) false]
abbrev Jh : List OT := [⟨.one (.sl 95 (.cons (.sl 126 (.cons (.int .i64) (.cons (.int .i64) (.cons (.int .i64) (.one (.sl 4 (.one .bool))))))) (.one (.sl 73 (.cons (.int .i64) (.one (.int .i64))))))), true, []⟩, ⟨.one (.int .i64), false, []⟩]
set_option maxRecDepth 100000
noncomputable def yU : List (List (Int × Int × Int × List Bool) × List (Int × Int)) → Int → Option (List (List (Int × Int × Int × List Bool) × List (Int × Int)) × Int) := fun a b => z6 (zj b 0 100001) fun y => ifB (notB y) (some ([], 3)) (zk maxR (fun (x : Int × List (List (Int × Int × Int × List Bool) × List (Int × Int))) => ifB (ltI x.1 (lenI a)) (z6 (atI a x.1) fun y => zk maxR (fun (x_1 : Int × List (Int × Int × Int × List Bool)) => ifB (ltI x_1.1 (lenI y.1)) (z6 (atI y.1 x_1.1) fun y => ifB (geI y.2.2.1 b) (ifB (ze 48 x_1.2 [(y.1, y.2.1, y.2.2.1, y.2.2.2)]) (some (Sum.inl (wadd .i64 x_1.1 1, cat x_1.2 [(y.1, y.2.1, y.2.2.1, y.2.2.2)]))) none) (some (Sum.inl (wadd .i64 x_1.1 1, x_1.2)))) (mapO Sum.inr (ifB (ze 48 x.2 [(x_1.2, y.2)]) (some (Sum.inl (wadd .i64 x.1 1, cat x.2 [(x_1.2, y.2)]))) none))) (0, [])) (mapO Sum.inr (some (x.2, 0)))) (0, []))
theorem z3L (x : PI vC) : yU (x.1) (x.2) = fnE T z01 z02 z00 (zu Tryz.f135) vC Jh x := by kernel_rfl
noncomputable abbrev z03 : GS := zt false vC Jh fun x => yU (x.1) (x.2)
theorem z3M : GSOK Tryz.prog 135 z03 := zm tok z6c fmo (Ht := z02) (fn := Tryz.f135) (Tryz.func135) (c := z00) (by kernel_rfl) (by kernel_rfl) (by kernel_rfl) (by decide +kernel) (by decide) z3L
end Go.Proofs.Y
namespace Go.Proofs.Y
open Go.Rb Go.Kx
noncomputable def z0J : Code := zl Tryz.f104
noncomputable def z0K : FuncId → Option GS := tabG [(132, z0z), (133, z0E), (134, jH), (135, z03)]
theorem z7c : ΓOK Tryz.prog z0K := z8 (z4q) (z8 (z4s) (z8 (z2d) (z8 (z3M) (zg))))
def z0L : HT := ⟨tabL [], tabH []⟩
abbrev vR : List IT := [.v (.one (.sl 95 (.cons (.sl 126 (.cons (.int .i64) (.cons (.int .i64) (.cons (.int .i64) (.one (.sl 4 (.one .bool))))))) (.one (.sl 73 (.cons (.int .i64) (.one (.int .i64)))))))) true, .v (.cons (.int .i64) (.cons (.int .i64) (.cons (.int .i64) (.one (.sl 77 (.cons (.int .i64) (.cons (.int .i64) (.one (.int .i64))))))))) true]
abbrev z04 : List OT := [⟨.one (.sl 95 (.cons (.sl 126 (.cons (.int .i64) (.cons (.int .i64) (.cons (.int .i64) (.one (.sl 4 (.one .bool))))))) (.one (.sl 73 (.cons (.int .i64) (.one (.int .i64))))))), true, []⟩, ⟨.one (.int .i64), false, []⟩]
set_option maxRecDepth 100000
noncomputable def yv : List (List (Int × Int × Int × List Bool) × List (Int × Int)) → Int × Int × Int × List (Int × Int × Int) → Option (List (List (Int × Int × Int × List Bool) × List (Int × Int)) × Int) := fun a b => ifB (eqI b.1 1) (z6 (Y2 a b.2.2.2) fun y => some (y.1, y.2)) (ifB (eqI b.1 2) (z6 (Y3 a b.2.1 b.2.2.1) fun y => some (y.1, y.2)) (ifB (eqI b.1 3) (z6 (yx a b.2.1 b.2.2.1) fun y => some (y.1, y.2)) (z6 (yU a b.2.2.1) fun y => some (y.1, y.2))))
theorem z4w (x : PI vR) : yv (x.1) (x.2) = fnE T z0K z0L z0J (zu Tryz.f104) vR z04 x := by kernel_rfl
noncomputable abbrev z0M : GS := zt false vR z04 fun x => yv (x.1) (x.2)
theorem z4x : GSOK Tryz.prog 104 z0M := zm tok z7c fmo (Ht := z0L) (fn := Tryz.f104) (Tryz.func104) (c := z0J) (by kernel_rfl) (by kernel_rfl) (by kernel_rfl) (by decide +kernel) (by decide) z4w
end Go.Proofs.Y
namespace Go.Proofs.Y
open Go.Rb Go.Kx
set_option maxRecDepth 100000
end Go.Proofs.Y
namespace Go.Proofs.Y
open Go.Rb Go.Kx
noncomputable def z05 : Code := zl Tryz.f56
noncomputable def z06 : FuncId → Option GS := tabG [(70, zhA), (103, vy), (104, z0M)]
theorem z6d : ΓOK Tryz.prog z06 := z8 (zjA) (z8 (Vq) (z8 (z4x) (zg)))
def z07 : HT := ⟨tabL [(5, .it [] (dyn [.t 17 (.int .i64), .c 2 0 (.sl 95 (.cons (.sl 126 (.cons (.int .i64) (.cons (.int .i64) (.cons (.int .i64) (.one (.sl 4 (.one .bool))))))) (.one (.sl 73 (.cons (.int .i64) (.one (.int .i64))))))), .c 4 0 (.sl 95 (.cons (.sl 126 (.cons (.int .i64) (.cons (.int .i64) (.cons (.int .i64) (.one (.sl 4 (.one .bool))))))) (.one (.sl 73 (.cons (.int .i64) (.one (.int .i64)))))))]))], tabH []⟩
abbrev vD : List IT := [.v (.one (.sl 52 (.cons (.int .i64) (.cons (.int .i64) (.cons (.int .i64) (.one (.sl 77 (.cons (.int .i64) (.cons (.int .i64) (.one (.int .i64))))))))))) false]
abbrev Ji : List OT := [⟨.one (.sl 95 (.cons (.sl 126 (.cons (.int .i64) (.cons (.int .i64) (.cons (.int .i64) (.one (.sl 4 (.one .bool))))))) (.one (.sl 73 (.cons (.int .i64) (.one (.int .i64))))))), true, []⟩, ⟨.one (.int .i64), false, []⟩]
set_option maxRecDepth 100000
noncomputable def ZK : List (Int × Int × Int × List (Int × Int × Int)) → Option (List (List (Int × Int × Int × List Bool) × List (Int × Int)) × Int) := fun a => ifB (gtI (lenI a) 60) (some ([], 2)) (z6 z3A fun y => zk maxR (fun (x : Int × List (List (Int × Int × Int × List Bool) × List (Int × Int)) × List (List (Int × Int × Int × List Bool) × List (Int × Int))) => ifB (ltI x.1 (lenI a)) (z6 (atI a x.1) fun y => z6 (zp (y.1, y.2.1, y.2.2.1, y.2.2.2)) fun y_1 => ifB (neI y_1 0) (mapO Sum.inr (some ([], y_1))) (z6 (yv x.2.2 (y.1, y.2.1, y.2.2.1, y.2.2.2)) fun y => ifB (neI y.2 0) (mapO Sum.inr (some ([], y.2))) (some (Sum.inl (wadd .i64 x.1 1, x.2.1, y.1))))) (mapO Sum.inr (some (x.2.2, 0)))) (0, [], y))
theorem z3N (x : PI vD) : ZK x = fnE T z06 z07 z05 (zu Tryz.f56) vD Ji x := by kernel_rfl
noncomputable abbrev vS : GS := zt false vD Ji fun x => ZK x
theorem VS : GSOK Tryz.prog 56 vS := zm tok z6d fmo (Ht := z07) (fn := Tryz.f56) (Tryz.func56) (c := z05) (by kernel_rfl) (by kernel_rfl) (by kernel_rfl) (by decide +kernel) (by decide) z3N
end Go.Proofs.Y
namespace Go.Proofs.Y
open Go.Rb Go.Kx
noncomputable def zaZ : Code := zl Tryz.f197
noncomputable def zb0 : FuncId → Option GS := tabG []
theorem zjE : ΓOK Tryz.prog zb0 := zg
def zb1 : HT := ⟨tabL [(7, .it [] (dyn [.t 6 (.int .i64), .t 23 (.int .i64)]))], tabH []⟩
abbrev z3O : List IT := [.v (.one (.sl 4 (.one .bool))) false, .v (.one (.int .i64)) false]
abbrev z8L : List OT := [⟨.one (.int .i64), false, []⟩, ⟨.one (.int .i64), false, []⟩]
set_option maxRecDepth 100000
noncomputable def Jj : List Bool → Int → Option (Int × Int) := fun a b => ifB (ltI b 0) (some (0, 3)) (ifB (gtI b 40) (some (0, 3)) (ifB (ltI (lenI a) b) (some (0, 8)) (ifB (in1 a b) (zk maxR (fun (x : Int × Int) => ifB (ltI x.2 (lenI (vc a b))) (z6 (atI (vc a b) x.2) fun y => ifB y (some (Sum.inl (wadd .i64 (wmul .i64 x.1 2) 1, wadd .i64 x.2 1))) (some (Sum.inl (wmul .i64 x.1 2, wadd .i64 x.2 1)))) (mapO Sum.inr (some (x.1, 0)))) (0, 0)) none)))
theorem zen (x : PI z3O) : Jj (x.1) (x.2) = fnE T zb0 zb1 zaZ (zu Tryz.f197) z3O z8L x := by kernel_rfl
noncomputable abbrev zb2 : GS := zt false z3O z8L fun x => Jj (x.1) (x.2)
theorem zeo : GSOK Tryz.prog 197 zb2 := zm tok zjE fmo (Ht := zb1) (fn := Tryz.f197) (Tryz.func197) (c := zaZ) (by kernel_rfl) (by kernel_rfl) (by kernel_rfl) (by decide +kernel) (by decide) zen
end Go.Proofs.Y
namespace Go.Proofs.Y
open Go.Rb Go.Kx
noncomputable def zcQ : Code := zl Tryz.f174
noncomputable def zcR : FuncId → Option GS := tabG [(197, zb2)]
theorem zls : ΓOK Tryz.prog zcR := z8 (zeo) (zg)
def zcS : HT := ⟨tabL [(3, .it [] (dyn [.t 5 (.int .i64), .t 6 (.int .i64), .t 10 (.int .i64)]))], tabH []⟩
abbrev z5F : List IT := [.v (.one (.sl 4 (.one .bool))) false]
abbrev zb3 : List OT := [⟨.one (.int .i64), false, []⟩, ⟨.one (.int .i64), false, []⟩, ⟨.one (.int .i64), false, []⟩]
set_option maxRecDepth 100000
noncomputable def jm : List Bool → Option (Int × Int × Int) := fun a => zk maxR (fun (x : Int × Int × Int) => ifB (ltI x.2.2 8) (ifB (in1 a (minI (lenI a) (wmul .i64 4 x.2.2))) (z6 (Jj (yb a (minI (lenI a) (wmul .i64 4 x.2.2))) 4) fun y => ifB (neI y.2 0) (mapO Sum.inr (some (0, 0, y.2))) (ifB (eqI y.1 0) (ifB (gtI x.2.2 0) (mapO Sum.inr (some (0, 0, 4))) (ifB (gtI (wadd .i64 x.1 (wmul .i64 (wrem y.1 8) x.2.1)) 8000000) (mapO Sum.inr (some (0, 0, 3))) (ifB (ltI y.1 8) (ifB (eqI (wrem (wadd .i64 x.1 (wmul .i64 (wrem y.1 8) x.2.1)) 2) 1) (mapO Sum.inr (some (wquo .i64 (wneg .i64 (wadd .i64 (wadd .i64 x.1 (wmul .i64 (wrem y.1 8) x.2.1)) 1)) 2, wadd .i64 (wmul .i64 4 x.2.2) 4, 0))) (mapO Sum.inr (some (wquo .i64 (wadd .i64 x.1 (wmul .i64 (wrem y.1 8) x.2.1)) 2, wadd .i64 (wmul .i64 4 x.2.2) 4, 0)))) (some (Sum.inl (wadd .i64 x.1 (wmul .i64 (wrem y.1 8) x.2.1), wmul .i64 x.2.1 8, wadd .i64 x.2.2 1)))))) (ifB (gtI (wadd .i64 x.1 (wmul .i64 (wrem y.1 8) x.2.1)) 8000000) (mapO Sum.inr (some (0, 0, 3))) (ifB (ltI y.1 8) (ifB (eqI (wrem (wadd .i64 x.1 (wmul .i64 (wrem y.1 8) x.2.1)) 2) 1) (mapO Sum.inr (some (wquo .i64 (wneg .i64 (wadd .i64 (wadd .i64 x.1 (wmul .i64 (wrem y.1 8) x.2.1)) 1)) 2, wadd .i64 (wmul .i64 4 x.2.2) 4, 0))) (mapO Sum.inr (some (wquo .i64 (wadd .i64 x.1 (wmul .i64 (wrem y.1 8) x.2.1)) 2, wadd .i64 (wmul .i64 4 x.2.2) 4, 0)))) (some (Sum.inl (wadd .i64 x.1 (wmul .i64 (wrem y.1 8) x.2.1), wmul .i64 x.2.1 8, wadd .i64 x.2.2 1))))))) none) (mapO Sum.inr (some (0, 0, 3)))) (0, 1, 0)
theorem zgi (x : PI z5F) : jm x = fnE T zcR zcS zcQ (zu Tryz.f174) z5F zb3 x := by kernel_rfl
noncomputable abbrev zcT : GS := zt false z5F zb3 fun x => jm x
theorem zgj : GSOK Tryz.prog 174 zcT := zm tok zls fmo (Ht := zcS) (fn := Tryz.f174) (Tryz.func174) (c := zcQ) (by kernel_rfl) (by kernel_rfl) (by kernel_rfl) (by decide +kernel) (by decide) zgi
end Go.Proofs.Y
namespace Go.Proofs.Y
open Go.Rb Go.Kx
noncomputable def z3P : Code := zl Tryz.f50
noncomputable def z8M : FuncId → Option GS := tabG []
theorem z8N : ΓOK Tryz.prog z8M := zg
def z3Q : HT := ⟨tabL [(4, .it [] (dyn [.t 10 (.int .i64)]))], tabH []⟩
abbrev Jy : List IT := [.v (.one (.sl 73 (.cons (.int .i64) (.one (.int .i64))))) false]
abbrev z2e : List OT := [⟨.one (.int .i64), false, []⟩]
set_option maxRecDepth 100000
noncomputable def Yq : List (Int × Int) → Option Int := fun a => ifB (gtI (lenI a) 40) (some 2) (zk maxR (fun (x : Int) => ifB (ltI x (lenI a)) (z6 (atI a x) fun y => ifB (ltI y.1 0) (mapO Sum.inr (some 3)) (ifB (gtI y.1 100000) (mapO Sum.inr (some 3)) (ifB (ltI y.2 (-1000000)) (mapO Sum.inr (some 3)) (ifB (gtI y.2 1000000) (mapO Sum.inr (some 3)) (ifB (gtI x 0) (z6 (atI a (wsub .i64 x 1)) fun y_1 => ifB (geI y_1.1 y.1) (mapO Sum.inr (some 7)) (some (Sum.inl (wadd .i64 x 1)))) (some (Sum.inl (wadd .i64 x 1)))))))) (mapO Sum.inr (some 0))) 0)
theorem z4X (x : PI Jy) : Yq x = fnE T z8M z3Q z3P (zu Tryz.f50) Jy z2e x := by kernel_rfl
noncomputable abbrev z3R : GS := zt false Jy z2e fun x => Yq x
theorem z4Y : GSOK Tryz.prog 50 z3R := zm tok z8N fmo (Ht := z3Q) (fn := Tryz.f50) (Tryz.func50) (c := z3P) (by kernel_rfl) (by kernel_rfl) (by kernel_rfl) (by decide +kernel) (by decide) z4X
noncomputable abbrev z8O : GS := zt true Jy z2e fun x => Yq x
theorem zcU : GSOK Tryz.prog 50 z8O := zm tok z8N fmo (Ht := z3Q) (fn := Tryz.f50) (Tryz.func50) (c := z3P) (by kernel_rfl) (by kernel_rfl) (by kernel_rfl) (by decide +kernel) (by decide) z4X
end Go.Proofs.Y
namespace Go.Proofs.Y
open Go.Rb Go.Kx
noncomputable def z7A : Code := zl Tryz.f153
noncomputable def z7B : FuncId → Option GS := tabG [(174, zcT), (50, z3R)]
theorem zgk : ΓOK Tryz.prog z7B := z8 (zgj) (z8 (z4Y) (zg))
def z7C : HT := ⟨tabL [(7, .it [] (dyn [.t 0 (.sl 4 (.one .bool)), .a 6 73 (.cons (.int .i64) (.one (.int .i64))), .t 8 (.int .i64), .t 23 (.int .i64), .c 7 0 (.int .i64), .c 7 1 (.int .i64)]))], tabH []⟩
abbrev z1m : List IT := [.v (.one (.sl 4 (.one .bool))) false, .v (.one (.int .i64)) false]
abbrev z6e : List OT := [⟨.one (.sl 73 (.cons (.int .i64) (.one (.int .i64)))), false, []⟩, ⟨.one (.int .i64), false, []⟩]
set_option maxRecDepth 100000
noncomputable def Vf : List Bool → Int → Option (List (Int × Int) × Int) := fun a b => ifB (ltI b 0) (some ([], 2)) (ifB (gtI b 40) (some ([], 2)) (zk maxR (fun (x : List Bool × Int × Int × Int × Int × List (Int × Int)) => ifB (ltI x.2.2.1 b) (z6 (jm x.1) fun y => ifB (neI y.2.2 0) (mapO Sum.inr (some ([], y.2.2))) (ifB (in1 x.1 y.2.1) (z6 (jm (yb x.1 y.2.1)) fun y_1 => ifB (neI y_1.2.2 0) (mapO Sum.inr (some ([], y_1.2.2))) (ifB (in1 x.1 (wadd .i64 y.2.1 y_1.2.1)) (ifB (ifB (in2 x.2.2.2.2.2 (maxI 0 (wsub .i64 (lenI x.2.2.2.2.2) 1)) (lenI x.2.2.2.2.2)) (eqI (lenI x.2.2.2.2.2) (lenI x.2.2.2.2.2)) false) (ifB (ifB (inN x.2.2.2.2.2 (natI (maxI 0 (wsub .i64 (lenI x.2.2.2.2.2) 1))) (subI (maxI 0 (wsub .i64 (lenI x.2.2.2.2.2) 1)) (lenI x.2.2.2.2.2))) (ze 16 (subN x.2.2.2.2.2 (natI (maxI 0 (wsub .i64 (lenI x.2.2.2.2.2) 1))) (subI (maxI 0 (wsub .i64 (lenI x.2.2.2.2.2) 1)) (lenI x.2.2.2.2.2))) [(wadd .i64 (wadd .i64 x.2.2.2.1 x.2.1) y.1, wadd .i64 x.2.2.2.2.1 y_1.1)]) false) (ifB (fits (subI (maxI 0 (wsub .i64 (lenI x.2.2.2.2.2) 1)) (lenI x.2.2.2.2.2)) [(wadd .i64 (wadd .i64 x.2.2.2.1 x.2.1) y.1, wadd .i64 x.2.2.2.2.1 y_1.1)] (capN (lenN x.2.2.2.2.2) (natI (maxI 0 (wsub .i64 (lenI x.2.2.2.2.2) 1))))) none (z6 (Yq (cat (subN x.2.2.2.2.2 (natI (maxI 0 (wsub .i64 (lenI x.2.2.2.2.2) 1))) (subI (maxI 0 (wsub .i64 (lenI x.2.2.2.2.2) 1)) (lenI x.2.2.2.2.2))) [(wadd .i64 (wadd .i64 x.2.2.2.1 x.2.1) y.1, wadd .i64 x.2.2.2.2.1 y_1.1)])) fun y_2 => ifB (neI y_2 0) (mapO Sum.inr (some ([], y_2))) (ifB (ze 16 x.2.2.2.2.2 [(wadd .i64 (wadd .i64 x.2.2.2.1 x.2.1) y.1, wadd .i64 x.2.2.2.2.1 y_1.1)]) (some (Sum.inl (yb x.1 (wadd .i64 y.2.1 y_1.2.1), wsub .i64 (wadd .i64 (wadd .i64 x.2.2.2.1 x.2.1) y.1) x.2.2.2.1, wadd .i64 x.2.2.1 1, wadd .i64 (wadd .i64 x.2.2.2.1 x.2.1) y.1, wadd .i64 x.2.2.2.2.1 y_1.1, cat x.2.2.2.2.2 [(wadd .i64 (wadd .i64 x.2.2.2.1 x.2.1) y.1, wadd .i64 x.2.2.2.2.1 y_1.1)]))) none))) none) none) none)) none)) (mapO Sum.inr (ifB (gtI (lenI x.1) 0) (some ([], 8)) (some (x.2.2.2.2.2, 0))))) (a, 0, 0, 0, 0, [])))
theorem zbT (x : PI z1m) : Vf (x.1) (x.2) = fnE T z7B z7C z7A (zu Tryz.f153) z1m z6e x := by kernel_rfl
noncomputable abbrev z7D : GS := zt false z1m z6e fun x => Vf (x.1) (x.2)
theorem zbU : GSOK Tryz.prog 153 z7D := zm tok zgk fmo (Ht := z7C) (fn := Tryz.f153) (Tryz.func153) (c := z7A) (by kernel_rfl) (by kernel_rfl) (by kernel_rfl) (by decide +kernel) (by decide) zbT
end Go.Proofs.Y
namespace Go.Proofs.Y
open Go.Rb Go.Kx
noncomputable def z6f : Code := zl Tryz.f126
noncomputable def z6g : FuncId → Option GS := tabG [(153, z7D)]
theorem zep : ΓOK Tryz.prog z6g := z8 (zbU) (zg)
def z6h : HT := ⟨tabL [], tabH []⟩
abbrev z0N : List IT := [.v (.cons (.int .i64) (.cons (.int .i64) (.cons (.int .i64) (.one (.sl 4 (.one .bool)))))) true]
abbrev z4Z : List OT := [⟨.one (.sl 73 (.cons (.int .i64) (.one (.int .i64)))), false, []⟩, ⟨.one (.int .i64), false, []⟩]
set_option maxRecDepth 100000
noncomputable def Yf : Int × Int × Int × List Bool → Option (List (Int × Int) × Int) := fun a => z6 (Vf a.2.2.2 a.1) fun y => ifB (neI y.2 0) (some ([], y.2)) (ifB (eqI (lenI y.1) 0) (some ([], 4)) (z6 (atI y.1 0) fun y_1 => ifB (neI y_1.1 a.2.1) (some ([], 4)) (z6 (atI y.1 (wsub .i64 (lenI y.1) 1)) fun y_2 => ifB (neI y_2.1 a.2.2.1) (some ([], 4)) (some (y.1, 0)))))
theorem zaE (x : PI z0N) : Yf x = fnE T z6g z6h z6f (zu Tryz.f126) z0N z4Z x := by kernel_rfl
noncomputable abbrev z1n : GS := zt false z0N z4Z fun x => Yf x
theorem z2I : GSOK Tryz.prog 126 z1n := zm tok zep fmo (Ht := z6h) (fn := Tryz.f126) (Tryz.func126) (c := z6f) (by kernel_rfl) (by kernel_rfl) (by kernel_rfl) (by decide +kernel) (by decide) zaE
end Go.Proofs.Y
namespace Go.Proofs.Y
open Go.Rb Go.Kx
noncomputable def z5G : Code := zl Tryz.f97
noncomputable def zb4 : FuncId → Option GS := tabG [(126, z1n), (50, z8O)]
theorem zb5 : ΓOK Tryz.prog zb4 := z8 (z2I) (z8 (zcU) (zg))
def z5H : HT := ⟨tabL [(5, .it [] (dyn [.a 4 73 (.cons (.int .i64) (.one (.int .i64))), .t 16 (.int .i64)]))], tabH []⟩
abbrev z0O : List IT := [.v (.cons (.sl 126 (.cons (.int .i64) (.cons (.int .i64) (.cons (.int .i64) (.one (.sl 4 (.one .bool))))))) (.one (.sl 73 (.cons (.int .i64) (.one (.int .i64)))))) true]
abbrev z3S : List OT := [⟨.one (.sl 73 (.cons (.int .i64) (.one (.int .i64)))), false, [true]⟩, ⟨.one (.int .i64), false, []⟩]
set_option maxRecDepth 100000
noncomputable def y9 : List (Int × Int × Int × List Bool) × List (Int × Int) → Option (List (Int × Int) × Int) := fun a => ifB (gtI (lenI a.1) 8) (some ([], 2)) (zk maxR (fun (x : Int × List (Int × Int)) => ifB (ltI x.1 (lenI a.1)) (z6 (atI a.1 x.1) fun y => z6 (Yf (y.1, y.2.1, y.2.2.1, y.2.2.2)) fun y => ifB (neI y.2 0) (mapO Sum.inr (some ([], y.2))) (ifB (ze 16 x.2 y.1) (some (Sum.inl (wadd .i64 x.1 1, cat x.2 y.1))) none)) (mapO Sum.inr (ifB (ze 16 x.2 a.2) (z6 (Yq (cat x.2 a.2)) fun y => some (cat x.2 a.2, y)) none))) (0, []))
theorem z6i (x : PI z0O) : y9 x = fnE T zb4 z5H z5G (zu Tryz.f97) z0O z3S x := by kernel_rfl
noncomputable abbrev z5I : GS := zt false z0O z3S fun x => y9 x
theorem z6j : GSOK Tryz.prog 97 z5I := zm tok zb5 fmo (Ht := z5H) (fn := Tryz.f97) (Tryz.func97) (c := z5G) (by kernel_rfl) (by kernel_rfl) (by kernel_rfl) (by decide +kernel) (by decide) z6i
noncomputable abbrev zb6 : GS := zt true z0O z3S fun x => y9 x
theorem zeq : GSOK Tryz.prog 97 zb6 := zm tok zb5 fmo (Ht := z5H) (fn := Tryz.f97) (Tryz.func97) (c := z5G) (by kernel_rfl) (by kernel_rfl) (by kernel_rfl) (by decide +kernel) (by decide) z6i
end Go.Proofs.Y
namespace Go.Proofs.Y
open Go.Rb Go.Kx
noncomputable def z7E : Code := zl Tryz.f78
noncomputable def z7F : FuncId → Option GS := tabG [(97, z5I)]
theorem zgl : ΓOK Tryz.prog z7F := z8 (z6j) (zg)
def z7G : HT := ⟨tabL [(4, .it [] (dyn [.t 14 (.int .i64)]))], tabH []⟩
abbrev z1o : List IT := [.v (.one (.sl 95 (.cons (.sl 126 (.cons (.int .i64) (.cons (.int .i64) (.cons (.int .i64) (.one (.sl 4 (.one .bool))))))) (.one (.sl 73 (.cons (.int .i64) (.one (.int .i64)))))))) true]
abbrev z6k : List OT := [⟨.one (.int .i64), false, []⟩]
set_option maxRecDepth 100000
noncomputable def yn : List (List (Int × Int × Int × List Bool) × List (Int × Int)) → Option Int := fun a => ifB (neI (lenI a) 4) (some 4) (zk maxR (fun (x : Int) => ifB (ltI x (lenI a)) (z6 (atI a x) fun y => z6 (y9 (y.1, y.2)) fun y => ifB (neI y.2 0) (mapO Sum.inr (some y.2)) (some (Sum.inl (wadd .i64 x 1)))) (mapO Sum.inr (some 0))) 0)
theorem zbV (x : PI z1o) : yn x = fnE T z7F z7G z7E (zu Tryz.f78) z1o z6k x := by kernel_rfl
noncomputable abbrev Yu : GS := zt false z1o z6k fun x => yn x
theorem Yg : GSOK Tryz.prog 78 Yu := zm tok zgl fmo (Ht := z7G) (fn := Tryz.f78) (Tryz.func78) (c := z7E) (by kernel_rfl) (by kernel_rfl) (by kernel_rfl) (by decide +kernel) (by decide) zbV
end Go.Proofs.Y
namespace Go.Proofs.Y
open Go.Rb Go.Kx
noncomputable def z8P : Code := zl Tryz.f140
noncomputable def z8Q : FuncId → Option GS := tabG [(162, z78)]
theorem zhO : ΓOK Tryz.prog z8Q := z8 (z5A) (zg)
def z8R : HT := ⟨tabL [], tabH []⟩
abbrev z2f : List IT := [.v (.cons (.int .i64) (.cons (.int .i64) (.cons (.int .i64) (.one (.sl 4 (.one .bool)))))) true]
abbrev z7H : List OT := [⟨.cons (.int .i64) (.cons (.int .i64) (.cons (.int .i64) (.one (.sl 4 (.one .bool))))), true, []⟩]
set_option maxRecDepth 100000
noncomputable def zJ : Int × Int × Int × List Bool → Option (Int × Int × Int × List Bool) := fun a => z6 (JF a.2.2.2) fun y => some (a.1, a.2.1, a.2.2.1, y)
theorem zcV (x : PI z2f) : zJ x = fnE T z8Q z8R z8P (zu Tryz.f140) z2f z7H x := by kernel_rfl
noncomputable abbrev z3T : GS := zt false z2f z7H fun x => zJ x
theorem z50 : GSOK Tryz.prog 140 z3T := zm tok zhO fmo (Ht := z8R) (fn := Tryz.f140) (Tryz.func140) (c := z8P) (by kernel_rfl) (by kernel_rfl) (by kernel_rfl) (by decide +kernel) (by decide) zcV
end Go.Proofs.Y
namespace Go.Proofs.Y
open Go.Rb Go.Kx
noncomputable def z8S : Code := zl Tryz.f107
noncomputable def z8T : FuncId → Option GS := tabG [(137, JT), (138, z4W), (139, z3I), (140, z3T)]
theorem zhP : ΓOK Tryz.prog z8T := z8 (VO) (z8 (z3K) (z8 (z1K) (z8 (z50) (zg))))
def z8U : HT := ⟨tabL [(3, .unroll 5), (7, .it [] (dyn [.t 33 (.int .i64), .b 29 0 126 (.cons (.int .i64) (.cons (.int .i64) (.cons (.int .i64) (.one (.sl 4 (.one .bool))))))]))], tabH [(2, [.expl 1 0])]⟩
noncomputable def VT : GS := inl T z8T z8U z8S (zu Tryz.f107) (Tryz.f107.ntmps)
theorem Vw : GSOK Tryz.prog 107 VT := Yo tok zhP fmo (Ht := z8U) (fn := Tryz.f107) (Tryz.func107) (c := z8S) (by kernel_rfl) (by kernel_rfl) (by kernel_rfl)
end Go.Proofs.Y
namespace Go.Proofs.Y
open Go.Rb Go.Kx
noncomputable def zb7 : Code := zl Tryz.f80
noncomputable def zb8 : FuncId → Option GS := tabG [(78, Yu), (107, VT), (97, zb6)]
theorem zjF : ΓOK Tryz.prog zb8 := z8 (Yg) (z8 (Vw) (z8 (zeq) (zg)))
def zb9 : HT := ⟨tabL [(8, .it [] (dyn [.t 26 (.int .i64), .q 2 0 1 73 (.cons (.int .i64) (.one (.int .i64))), .q 2 0 3 73 (.cons (.int .i64) (.one (.int .i64))), .q 2 0 5 73 (.cons (.int .i64) (.one (.int .i64))), .q 2 0 7 73 (.cons (.int .i64) (.one (.int .i64)))]))], tabH [(18, [.frzq 2 0 0, .frzq 2 0 1, .frzq 2 0 2, .frzq 2 0 3, .frzq 2 0 4, .frzq 2 0 5, .frzq 2 0 6, .frzq 2 0 7, .pack 2 0 (.cons (.sl 126 (.cons (.int .i64) (.cons (.int .i64) (.cons (.int .i64) (.one (.sl 4 (.one .bool))))))) (.one (.sl 73 (.cons (.int .i64) (.one (.int .i64))))))])]⟩
abbrev z3U : List IT := [.v (.one (.sl 95 (.cons (.sl 126 (.cons (.int .i64) (.cons (.int .i64) (.cons (.int .i64) (.one (.sl 4 (.one .bool))))))) (.one (.sl 73 (.cons (.int .i64) (.one (.int .i64)))))))) true, .v (.one (.sl 77 (.cons (.int .i64) (.cons (.int .i64) (.one (.int .i64)))))) false]
abbrev z8V : List OT := [⟨.one (.sl 95 (.cons (.sl 126 (.cons (.int .i64) (.cons (.int .i64) (.cons (.int .i64) (.one (.sl 4 (.one .bool))))))) (.one (.sl 73 (.cons (.int .i64) (.one (.int .i64))))))), true, []⟩, ⟨.one (.int .i64), false, []⟩]
set_option maxRecDepth 100000
noncomputable def Jk : List (List (Int × Int × Int × List Bool) × List (Int × Int)) → List (Int × Int × Int) → Option (List (List (Int × Int × Int × List Bool) × List (Int × Int)) × Int) := fun a b => z6 (yn a) fun y => ifB (neI y 0) (some ([], y)) (ifB (gtI (lenI b) 10) (some ([], 2)) (z6 (Ya a) fun y => z6 (four y) fun (y : (List (Int × Int × Int × List Bool) × List (Int × Int)) × (List (Int × Int × Int × List Bool) × List (Int × Int)) × (List (Int × Int × Int × List Bool) × List (Int × Int)) × List (Int × Int × Int × List Bool) × List (Int × Int)) => z6 (Z2 y.1.1) fun y_1 => z6 (Zf y.1.2) fun y_2 => zk maxR (fun (x : Int × List (Int × Int × Int × List Bool)) => ifB (ltI x.1 (lenI y.1.1)) (z6 (atI y.1.1 x.1) fun y => z6 (zJ (y.1, y.2.1, y.2.2.1, y.2.2.2)) fun y => ifB (ltL x.1 x.2) (z6 (atN x.2 (natI x.1)) fun y_3 => some (Sum.inl (wadd .i64 x.1 1, setN x.2 (natI x.1) (y.1, y.2.1, y.2.2.1, y.2.2.2)))) none) (mapO Sum.inr (z6 (Z2 y.2.1.1) fun y_3 => z6 (Zf y.2.1.2) fun y_4 => zk maxR (fun (x_1 : Int × List (Int × Int × Int × List Bool)) => ifB (ltI x_1.1 (lenI y.2.1.1)) (z6 (atI y.2.1.1 x_1.1) fun y => z6 (zJ (y.1, y.2.1, y.2.2.1, y.2.2.2)) fun y => ifB (ltL x_1.1 x_1.2) (z6 (atN x_1.2 (natI x_1.1)) fun y_5 => some (Sum.inl (wadd .i64 x_1.1 1, setN x_1.2 (natI x_1.1) (y.1, y.2.1, y.2.2.1, y.2.2.2)))) none) (mapO Sum.inr (z6 (Z2 y.2.2.1.1) fun y_5 => z6 (Zf y.2.2.1.2) fun y_6 => zk maxR (fun (x_2 : Int × List (Int × Int × Int × List Bool)) => ifB (ltI x_2.1 (lenI y.2.2.1.1)) (z6 (atI y.2.2.1.1 x_2.1) fun y => z6 (zJ (y.1, y.2.1, y.2.2.1, y.2.2.2)) fun y => ifB (ltL x_2.1 x_2.2) (z6 (atN x_2.2 (natI x_2.1)) fun y_7 => some (Sum.inl (wadd .i64 x_2.1 1, setN x_2.2 (natI x_2.1) (y.1, y.2.1, y.2.2.1, y.2.2.2)))) none) (mapO Sum.inr (z6 (Z2 y.2.2.2.1) fun y_7 => z6 (Zf y.2.2.2.2) fun y_8 => zk maxR (fun (x_3 : Int × List (Int × Int × Int × List Bool)) => ifB (ltI x_3.1 (lenI y.2.2.2.1)) (z6 (atI y.2.2.2.1 x_3.1) fun y => z6 (zJ (y.1, y.2.1, y.2.2.1, y.2.2.2)) fun y => ifB (ltL x_3.1 x_3.2) (z6 (atN x_3.2 (natI x_3.1)) fun y_9 => some (Sum.inl (wadd .i64 x_3.1 1, setN x_3.2 (natI x_3.1) (y.1, y.2.1, y.2.2.1, y.2.2.2)))) none) (mapO Sum.inr (zk maxR (fun (x_4 : Int × List (Int × Int) × List (Int × Int) × List (Int × Int) × List (Int × Int)) => ifB (ltI x_4.1 (lenI b)) (z6 (atI b x_4.1) fun y => ifB (ltI y.1 0) (mapO Sum.inr (some ([], 5))) (ifB (geI y.1 4) (mapO Sum.inr (some ([], 5))) (ifB (eqI y.1 0) (ifB (ze 16 x_4.2.1 [(y.2.1, y.2.2)]) (z6 (y9 (x.2, cat x_4.2.1 [(y.2.1, y.2.2)])) fun y_9 => ifB (neI y_9.2 0) (mapO Sum.inr (some ([], y_9.2))) (some (Sum.inl (wadd .i64 x_4.1 1, cat x_4.2.1 [(y.2.1, y.2.2)], x_4.2.2.1, x_4.2.2.2.1, x_4.2.2.2.2)))) none) (ifB (eqI y.1 1) (ifB (ze 16 x_4.2.2.1 [(y.2.1, y.2.2)]) (z6 (y9 (x_1.2, cat x_4.2.2.1 [(y.2.1, y.2.2)])) fun y_9 => ifB (neI y_9.2 0) (mapO Sum.inr (some ([], y_9.2))) (some (Sum.inl (wadd .i64 x_4.1 1, x_4.2.1, cat x_4.2.2.1 [(y.2.1, y.2.2)], x_4.2.2.2.1, x_4.2.2.2.2)))) none) (ifB (eqI y.1 2) (ifB (ze 16 x_4.2.2.2.1 [(y.2.1, y.2.2)]) (z6 (y9 (x_2.2, cat x_4.2.2.2.1 [(y.2.1, y.2.2)])) fun y_9 => ifB (neI y_9.2 0) (mapO Sum.inr (some ([], y_9.2))) (some (Sum.inl (wadd .i64 x_4.1 1, x_4.2.1, x_4.2.2.1, cat x_4.2.2.2.1 [(y.2.1, y.2.2)], x_4.2.2.2.2)))) none) (ifB (eqI y.1 3) (ifB (ze 16 x_4.2.2.2.2 [(y.2.1, y.2.2)]) (z6 (y9 (x_3.2, cat x_4.2.2.2.2 [(y.2.1, y.2.2)])) fun y_9 => ifB (neI y_9.2 0) (mapO Sum.inr (some ([], y_9.2))) (some (Sum.inl (wadd .i64 x_4.1 1, x_4.2.1, x_4.2.2.1, x_4.2.2.2.1, cat x_4.2.2.2.2 [(y.2.1, y.2.2)])))) none) none)))))) (mapO Sum.inr (some ([(x.2, x_4.2.1), (x_1.2, x_4.2.2.1), (x_2.2, x_4.2.2.2.1), (x_3.2, x_4.2.2.2.2)], 0)))) (0, y_2, y_4, y_6, y_8)))) (0, y_7)))) (0, y_5)))) (0, y_3)))) (0, y_1)))
theorem zer (x : PI z3U) : Jk (x.1) (x.2) = fnE T zb8 zb9 zb7 (zu Tryz.f80) z3U z8V x := by kernel_rfl
noncomputable abbrev zba : GS := zt false z3U z8V fun x => Jk (x.1) (x.2)
theorem zes : GSOK Tryz.prog 80 zba := zm tok zjF fmo (Ht := zb9) (fn := Tryz.f80) (Tryz.func80) (c := zb7) (by kernel_rfl) (by kernel_rfl) (by kernel_rfl) (by decide +kernel) (by decide) zer
end Go.Proofs.Y
namespace Go.Proofs.Y
open Go.Rb Go.Kx
noncomputable def zcW : Code := zl Tryz.f183
noncomputable def zcX : FuncId → Option GS := tabG []
theorem zlt : ΓOK Tryz.prog zcX := zg
def zcY : HT := ⟨tabL [], tabH []⟩
abbrev z5J : List IT := [.v (.one (.int .i64)) false]
abbrev zbb : List OT := [⟨.one (.int .i64), false, []⟩]
set_option maxRecDepth 100000
noncomputable def z0P : Int → Option Int := fun a => ifB (ltI a 0) (some (wsub .i64 (wmul .i64 (-2) a) 1)) (some (wmul .i64 2 a))
theorem zgm (x : PI z5J) : z0P x = fnE T zcX zcY zcW (zu Tryz.f183) z5J zbb x := by kernel_rfl
noncomputable abbrev zcZ : GS := zt false z5J zbb fun x => z0P x
theorem zgn : GSOK Tryz.prog 183 zcZ := zm tok zlt fmo (Ht := zcY) (fn := Tryz.f183) (Tryz.func183) (c := zcW) (by kernel_rfl) (by kernel_rfl) (by kernel_rfl) (by decide +kernel) (by decide) zgm
end Go.Proofs.Y
namespace Go.Proofs.Y
open Go.Rb Go.Kx
noncomputable def zd0 : Code := zl Tryz.f184
noncomputable def zd1 : FuncId → Option GS := tabG [(162, z78)]
theorem zlu : ΓOK Tryz.prog zd1 := z8 (z5A) (zg)
def zd2 : HT := ⟨tabL [(5, .it [] (dyn [.a 0 4 (.one .bool), .t 8 (.int .i64)]))], tabH []⟩
abbrev z5K : List IT := [.v (.one (.sl 4 (.one .bool))) false, .v (.one (.int .i64)) false, .v (.one (.int .i64)) false]
abbrev zbc : List OT := [⟨.one (.sl 4 (.one .bool)), false, []⟩, ⟨.one (.int .i64), false, []⟩]
set_option maxRecDepth 100000
noncomputable def jo : List Bool → Int → Int → Option (List Bool × Int) := fun a b c => ifB (ltI c 0) (some ([], 3)) (ifB (gtI c 40) (some ([], 3)) (ifB (ltI b 0) (some ([], 3)) (ifB (ltI c 0) none (ifB (neI (wshr .i64 b c) 0) (some ([], 3)) (z6 (JF a) fun y => zk maxR (fun (x : Int × List Bool) => ifB (geI x.1 0) (ifB (ltI x.1 0) none (ifB (ze 1 x.2 [eqI (wand .i64 (wshr .i64 b x.1) 1) 1]) (some (Sum.inl (wsub .i64 x.1 1, cat x.2 [eqI (wand .i64 (wshr .i64 b x.1) 1) 1]))) none)) (mapO Sum.inr (some (x.2, 0)))) (wsub .i64 c 1, y))))))
theorem zgo (x : PI z5K) : jo (x.1) (x.2.1) (x.2.2) = fnE T zd1 zd2 zd0 (zu Tryz.f184) z5K zbc x := by kernel_rfl
noncomputable abbrev zd3 : GS := zt false z5K zbc fun x => jo (x.1) (x.2.1) (x.2.2)
theorem zgp : GSOK Tryz.prog 184 zd3 := zm tok zlu fmo (Ht := zd2) (fn := Tryz.f184) (Tryz.func184) (c := zd0) (by kernel_rfl) (by kernel_rfl) (by kernel_rfl) (by decide +kernel) (by decide) zgo
end Go.Proofs.Y
namespace Go.Proofs.Y
open Go.Rb Go.Kx
noncomputable def zfq : Code := zl Tryz.f168
noncomputable def zfr : FuncId → Option GS := tabG [(183, zcZ), (184, zd3)]
theorem zmB : ΓOK Tryz.prog zfr := z8 (zgn) (z8 (zgp) (zg))
def zfs : HT := ⟨tabL [(4, .it [] (dyn [.t 0 (.sl 4 (.one .bool)), .t 6 (.int .i64)]))], tabH []⟩
abbrev z7d : List IT := [.v (.one (.sl 4 (.one .bool))) false, .v (.one (.int .i64)) false]
abbrev zd4 : List OT := [⟨.one (.sl 4 (.one .bool)), false, []⟩, ⟨.one (.int .i64), false, []⟩]
set_option maxRecDepth 100000
noncomputable def z08 : List Bool → Int → Option (List Bool × Int) := fun a b => ifB (ltI b (-4000000)) (some ([], 3)) (ifB (gtI b 4000000) (some ([], 3)) (z6 (z0P b) fun y => zk maxR (fun (x : List Bool × Int) => ifB (geI x.2 8) (z6 (jo x.1 (wadd .i64 8 (wrem x.2 8)) 4) fun y => some (Sum.inl (y.1, wquo .i64 x.2 8))) (z6 (jo x.1 (wadd .i64 0 (wrem x.2 8)) 4) fun y => mapO Sum.inr (some (y.1, 0)))) (a, y)))
theorem zhQ (x : PI z7d) : z08 (x.1) (x.2) = fnE T zfr zfs zfq (zu Tryz.f168) z7d zd4 x := by kernel_rfl
noncomputable abbrev zft : GS := zt false z7d zd4 fun x => z08 (x.1) (x.2)
theorem zhR : GSOK Tryz.prog 168 zft := zm tok zmB fmo (Ht := zfs) (fn := Tryz.f168) (Tryz.func168) (c := zfq) (by kernel_rfl) (by kernel_rfl) (by kernel_rfl) (by decide +kernel) (by decide) zhQ
end Go.Proofs.Y
namespace Go.Proofs.Y
open Go.Rb Go.Kx
noncomputable def zbd : Code := zl Tryz.f145
noncomputable def zbe : FuncId → Option GS := tabG [(50, z3R), (168, zft)]
theorem zjG : ΓOK Tryz.prog zbe := z8 (z4Y) (z8 (zhR) (zg))
def zbf : HT := ⟨tabL [(8, .it [] (dyn [.t 5 (.sl 4 (.one .bool)), .t 7 (.int .i64), .t 17 (.int .i64), .c 6 0 (.int .i64), .c 6 1 (.int .i64)]))], tabH []⟩
abbrev z3V : List IT := [.v (.one (.sl 73 (.cons (.int .i64) (.one (.int .i64))))) false]
abbrev z8W : List OT := [⟨.one (.sl 4 (.one .bool)), false, []⟩, ⟨.one (.int .i64), false, []⟩]
set_option maxRecDepth 100000
noncomputable def Jl : List (Int × Int) → Option (List Bool × Int) := fun a => z6 (Yq a) fun y => ifB (neI y 0) (some ([], y)) (zk maxR (fun (x : List Bool × Int × Int × Int × Int) => ifB (ltI x.2.2.1 (lenI a)) (z6 (atI a x.2.2.1) fun y => z6 (z08 x.1 (wsub .i64 (wsub .i64 y.1 x.2.2.2.1) x.2.1)) fun y_1 => z6 (z08 y_1.1 (wsub .i64 y.2 x.2.2.2.2)) fun y_2 => some (Sum.inl (y_2.1, wsub .i64 y.1 x.2.2.2.1, wadd .i64 x.2.2.1 1, y.1, y.2))) (mapO Sum.inr (some (x.1, 0)))) ([], 0, 0, 0, 0))
theorem zet (x : PI z3V) : Jl x = fnE T zbe zbf zbd (zu Tryz.f145) z3V z8W x := by kernel_rfl
noncomputable abbrev zbg : GS := zt false z3V z8W fun x => Jl x
theorem zeu : GSOK Tryz.prog 145 zbg := zm tok zjG fmo (Ht := zbf) (fn := Tryz.f145) (Tryz.func145) (c := zbd) (by kernel_rfl) (by kernel_rfl) (by kernel_rfl) (by decide +kernel) (by decide) zet
end Go.Proofs.Y
namespace Go.Proofs.Y
open Go.Rb Go.Kx
noncomputable def z8X : Code := zl Tryz.f114
noncomputable def z8Y : FuncId → Option GS := tabG [(145, zbg)]
theorem zhS : ΓOK Tryz.prog z8Y := z8 (zeu) (zg)
def z8Z : HT := ⟨tabL [], tabH []⟩
abbrev z2g : List IT := [.v (.one (.sl 73 (.cons (.int .i64) (.one (.int .i64))))) false]
abbrev z7I : List OT := [⟨.cons (.int .i64) (.cons (.int .i64) (.cons (.int .i64) (.one (.sl 4 (.one .bool))))), true, []⟩, ⟨.one (.int .i64), false, []⟩]
set_option maxRecDepth 100000
noncomputable def yJ : List (Int × Int) → Option ((Int × Int × Int × List Bool) × Int) := fun a => z6 (Jl a) fun y => ifB (neI y.2 0) (some ((0, 0, 0, []), y.2)) (ifB (eqI (lenI a) 0) (some ((0, 0, 0, []), 4)) (z6 (atI a 0) fun y_1 => z6 (atI a (wsub .i64 (lenI a) 1)) fun y_2 => some ((lenI a, y_1.1, y_2.1, y.1), 0)))
theorem zd5 (x : PI z2g) : yJ x = fnE T z8Y z8Z z8X (zu Tryz.f114) z2g z7I x := by kernel_rfl
noncomputable abbrev z3W : GS := zt false z2g z7I fun x => yJ x
theorem z52 : GSOK Tryz.prog 114 z3W := zm tok zhS fmo (Ht := z8Z) (fn := Tryz.f114) (Tryz.func114) (c := z8X) (by kernel_rfl) (by kernel_rfl) (by kernel_rfl) (by decide +kernel) (by decide) zd5
end Go.Proofs.Y
namespace Go.Proofs.Y
open Go.Rb Go.Kx
noncomputable def z90 : Code := zl Tryz.f81
noncomputable def z91 : FuncId → Option GS := tabG [(78, Yu), (107, VT), (114, z3W)]
theorem zhT : ΓOK Tryz.prog z91 := z8 (Yg) (z8 (Vw) (z8 (z52) (zg)))
def z92 : HT := ⟨tabL [], tabH [(16, [.frzq 3 0 0, .frzq 3 0 1, .frzq 3 0 2, .frzq 3 0 3, .frzq 3 0 4, .frzq 3 0 5, .frzq 3 0 6, .frzq 3 0 7, .pack 3 0 (.cons (.sl 126 (.cons (.int .i64) (.cons (.int .i64) (.cons (.int .i64) (.one (.sl 4 (.one .bool))))))) (.one (.sl 73 (.cons (.int .i64) (.one (.int .i64))))))])]⟩
abbrev z2h : List IT := [.v (.one (.sl 95 (.cons (.sl 126 (.cons (.int .i64) (.cons (.int .i64) (.cons (.int .i64) (.one (.sl 4 (.one .bool))))))) (.one (.sl 73 (.cons (.int .i64) (.one (.int .i64)))))))) true, .v (.one (.int .i64)) false, .v (.one (.int .i64)) false]
abbrev z7J : List OT := [⟨.one (.sl 95 (.cons (.sl 126 (.cons (.int .i64) (.cons (.int .i64) (.cons (.int .i64) (.one (.sl 4 (.one .bool))))))) (.one (.sl 73 (.cons (.int .i64) (.one (.int .i64))))))), true, []⟩, ⟨.one (.int .i64), false, []⟩]
set_option maxRecDepth 100000
noncomputable def VU : List (List (Int × Int × Int × List Bool) × List (Int × Int)) → Int → Int → Option (List (List (Int × Int × Int × List Bool) × List (Int × Int)) × Int) := fun a b c => z6 (yn a) fun y => ifB (neI y 0) (some ([], y)) (ifB (ltI b 0) (some ([], 5)) (ifB (geI b (lenI a)) (some ([], 5)) (z6 (Ya a) fun y => z6 (four y) fun (y : (List (Int × Int × Int × List Bool) × List (Int × Int)) × (List (Int × Int × Int × List Bool) × List (Int × Int)) × (List (Int × Int × Int × List Bool) × List (Int × Int)) × List (Int × Int × Int × List Bool) × List (Int × Int)) => z6 (Z2 y.1.1) fun y_1 => z6 (Zf y.1.2) fun y_2 => zk maxR (fun (x : Int × List (Int × Int × Int × List Bool)) => ifB (ltI x.1 (lenI y.1.1)) (z6 (atI y.1.1 x.1) fun y => z6 (zJ (y.1, y.2.1, y.2.2.1, y.2.2.2)) fun y => ifB (ltL x.1 x.2) (z6 (atN x.2 (natI x.1)) fun y_3 => some (Sum.inl (wadd .i64 x.1 1, setN x.2 (natI x.1) (y.1, y.2.1, y.2.2.1, y.2.2.2)))) none) (mapO Sum.inr (z6 (Z2 y.2.1.1) fun y_3 => z6 (Zf y.2.1.2) fun y_4 => zk maxR (fun (x_1 : Int × List (Int × Int × Int × List Bool)) => ifB (ltI x_1.1 (lenI y.2.1.1)) (z6 (atI y.2.1.1 x_1.1) fun y => z6 (zJ (y.1, y.2.1, y.2.2.1, y.2.2.2)) fun y => ifB (ltL x_1.1 x_1.2) (z6 (atN x_1.2 (natI x_1.1)) fun y_5 => some (Sum.inl (wadd .i64 x_1.1 1, setN x_1.2 (natI x_1.1) (y.1, y.2.1, y.2.2.1, y.2.2.2)))) none) (mapO Sum.inr (z6 (Z2 y.2.2.1.1) fun y_5 => z6 (Zf y.2.2.1.2) fun y_6 => zk maxR (fun (x_2 : Int × List (Int × Int × Int × List Bool)) => ifB (ltI x_2.1 (lenI y.2.2.1.1)) (z6 (atI y.2.2.1.1 x_2.1) fun y => z6 (zJ (y.1, y.2.1, y.2.2.1, y.2.2.2)) fun y => ifB (ltL x_2.1 x_2.2) (z6 (atN x_2.2 (natI x_2.1)) fun y_7 => some (Sum.inl (wadd .i64 x_2.1 1, setN x_2.2 (natI x_2.1) (y.1, y.2.1, y.2.2.1, y.2.2.2)))) none) (mapO Sum.inr (z6 (Z2 y.2.2.2.1) fun y_7 => z6 (Zf y.2.2.2.2) fun y_8 => zk maxR (fun (x_3 : Int × List (Int × Int × Int × List Bool)) => ifB (ltI x_3.1 (lenI y.2.2.2.1)) (z6 (atI y.2.2.2.1 x_3.1) fun y => z6 (zJ (y.1, y.2.1, y.2.2.1, y.2.2.2)) fun y => ifB (ltL x_3.1 x_3.2) (z6 (atN x_3.2 (natI x_3.1)) fun y_9 => some (Sum.inl (wadd .i64 x_3.1 1, setN x_3.2 (natI x_3.1) (y.1, y.2.1, y.2.2.1, y.2.2.2)))) none) (mapO Sum.inr (ifB (eqI b 0) (ifB (ltI c 1) (some ([], 3)) (ifB (gtI c (lenI y_2)) (some ([], 3)) (ifB (eqI (lenI x.2) 8) (some ([], 2)) (ifB (in1 y_2 c) (ifB (inN y_2 0 (natI c)) (z6 (yJ (subN y_2 0 (natI c))) fun y => ifB (neI y.2 0) (some ([], y.2)) (ifB (ze 48 x.2 [(y.1.1, y.1.2.1, y.1.2.2.1, y.1.2.2.2)]) (ifB (in1 y_2 c) (some ([(cat x.2 [(y.1.1, y.1.2.1, y.1.2.2.1, y.1.2.2.2)], yb y_2 c), (x_1.2, y_4), (x_2.2, y_6), (x_3.2, y_8)], 0)) none) none)) none) none)))) (ifB (eqI b 1) (ifB (ltI c 1) (some ([], 3)) (ifB (gtI c (lenI y_4)) (some ([], 3)) (ifB (eqI (lenI x_1.2) 8) (some ([], 2)) (ifB (in1 y_4 c) (ifB (inN y_4 0 (natI c)) (z6 (yJ (subN y_4 0 (natI c))) fun y => ifB (neI y.2 0) (some ([], y.2)) (ifB (ze 48 x_1.2 [(y.1.1, y.1.2.1, y.1.2.2.1, y.1.2.2.2)]) (ifB (in1 y_4 c) (some ([(x.2, y_2), (cat x_1.2 [(y.1.1, y.1.2.1, y.1.2.2.1, y.1.2.2.2)], yb y_4 c), (x_2.2, y_6), (x_3.2, y_8)], 0)) none) none)) none) none)))) (ifB (eqI b 2) (ifB (ltI c 1) (some ([], 3)) (ifB (gtI c (lenI y_6)) (some ([], 3)) (ifB (eqI (lenI x_2.2) 8) (some ([], 2)) (ifB (in1 y_6 c) (ifB (inN y_6 0 (natI c)) (z6 (yJ (subN y_6 0 (natI c))) fun y => ifB (neI y.2 0) (some ([], y.2)) (ifB (ze 48 x_2.2 [(y.1.1, y.1.2.1, y.1.2.2.1, y.1.2.2.2)]) (ifB (in1 y_6 c) (some ([(x.2, y_2), (x_1.2, y_4), (cat x_2.2 [(y.1.1, y.1.2.1, y.1.2.2.1, y.1.2.2.2)], yb y_6 c), (x_3.2, y_8)], 0)) none) none)) none) none)))) (ifB (eqI b 3) (ifB (ltI c 1) (some ([], 3)) (ifB (gtI c (lenI y_8)) (some ([], 3)) (ifB (eqI (lenI x_3.2) 8) (some ([], 2)) (ifB (in1 y_8 c) (ifB (inN y_8 0 (natI c)) (z6 (yJ (subN y_8 0 (natI c))) fun y => ifB (neI y.2 0) (some ([], y.2)) (ifB (ze 48 x_3.2 [(y.1.1, y.1.2.1, y.1.2.2.1, y.1.2.2.2)]) (ifB (in1 y_8 c) (some ([(x.2, y_2), (x_1.2, y_4), (x_2.2, y_6), (cat x_3.2 [(y.1.1, y.1.2.1, y.1.2.2.1, y.1.2.2.2)], yb y_8 c)], 0)) none) none)) none) none)))) none)))))) (0, y_7)))) (0, y_5)))) (0, y_3)))) (0, y_1))))
theorem zd6 (x : PI z2h) : VU (x.1) (x.2.1) (x.2.2) = fnE T z91 z92 z90 (zu Tryz.f81) z2h z7J x := by kernel_rfl
noncomputable abbrev z93 : GS := zt false z2h z7J fun x => VU (x.1) (x.2.1) (x.2.2)
theorem zd7 : GSOK Tryz.prog 81 z93 := zm tok zhT fmo (Ht := z92) (fn := Tryz.f81) (Tryz.func81) (c := z90) (by kernel_rfl) (by kernel_rfl) (by kernel_rfl) (by decide +kernel) (by decide) zd6
end Go.Proofs.Y
namespace Go.Proofs.Y
open Go.Rb Go.Kx
noncomputable def zkz : Code := zl Tryz.f169
noncomputable def zkA : FuncId → Option GS := tabG []
theorem zps : ΓOK Tryz.prog zkA := zg
def zkB : HT := ⟨tabL [], tabH []⟩
noncomputable def zkC : GS := inl T zkA zkB zkz (zu Tryz.f169) (Tryz.f169.ntmps)
theorem zlv : GSOK Tryz.prog 169 zkC := Yo tok zps fmo (Ht := zkB) (fn := Tryz.f169) (Tryz.func169) (c := zkz) (by kernel_rfl) (by kernel_rfl) (by kernel_rfl)
end Go.Proofs.Y
namespace Go.Proofs.Y
open Go.Rb Go.Kx
noncomputable def zfu : Code := zl Tryz.f146
noncomputable def zfv : FuncId → Option GS := tabG [(169, zkC)]
theorem zmC : ΓOK Tryz.prog zfv := z8 (zlv) (zg)
def zfw : HT := ⟨tabL [(3, .it [] (dyn [.t 3 (.int .i64), .t 11 (.int .i64)])), (11, .it [] (dyn [.a 6 73 (.cons (.int .i64) (.one (.int .i64))), .t 27 (.int .i64)]))], tabH [(10, [.trim 6])]⟩
abbrev z7e : List IT := [.v (.one (.sl 65 (.one (.sl 73 (.cons (.int .i64) (.one (.int .i64))))))) false]
abbrev zd8 : List OT := [⟨.one (.sl 73 (.cons (.int .i64) (.one (.int .i64)))), false, []⟩]
set_option maxRecDepth 100000
noncomputable def z54 : List (List (Int × Int)) → Option (List (Int × Int)) := fun a => zk maxR (fun (x : Int × Int) => ifB (ltI x.2 (lenI a)) (z6 (atI a x.2) fun y => ifB (ltI (wadd .i64 x.1 (lenI y)) 0) none (some (Sum.inl (wadd .i64 x.1 (lenI y), wadd .i64 x.2 1)))) (mapO Sum.inr (ifB (ltI x.1 0) none (ifB (gtI (wsub .i64 x.1 (wsub .i64 0 0)) 0) (ifB (z0n 16 (wsub .i64 x.1 (wsub .i64 0 0))) (ifB (in1 (repI (wsub .i64 x.1 (wsub .i64 0 0)) (0, 0)) 0) (ifB (inN (repI (wsub .i64 x.1 (wsub .i64 0 0)) (0, 0)) 0 (natI 0)) (zk maxR (fun (x : Int × List (Int × Int)) => ifB (ltI x.1 (lenI a)) (z6 (atI a x.1) fun y => ifB (ze 16 x.2 y) (some (Sum.inl (wadd .i64 x.1 1, cat x.2 y))) none) (mapO Sum.inr (some x.2))) (0, subN (repI (wsub .i64 x.1 (wsub .i64 0 0)) (0, 0)) 0 (natI 0))) none) none) none) (zk maxR (fun (x : Int × List (Int × Int)) => ifB (ltI x.1 (lenI a)) (z6 (atI a x.1) fun y => ifB (ze 16 x.2 y) (some (Sum.inl (wadd .i64 x.1 1, cat x.2 y))) none) (mapO Sum.inr (some x.2))) (0, [])))))) (0, 0)
theorem zhU (x : PI z7e) : z54 x = fnE T zfv zfw zfu (zu Tryz.f146) z7e zd8 x := by kernel_rfl
noncomputable abbrev zfx : GS := zt false z7e zd8 fun x => z54 x
theorem zhV : GSOK Tryz.prog 146 zfx := zm tok zmC fmo (Ht := zfw) (fn := Tryz.f146) (Tryz.func146) (c := zfu) (by kernel_rfl) (by kernel_rfl) (by kernel_rfl) (by decide +kernel) (by decide) zhU
end Go.Proofs.Y
namespace Go.Proofs.Y
open Go.Rb Go.Kx
noncomputable def z7K : Code := zl Tryz.f115
noncomputable def z7L : FuncId → Option GS := tabG [(126, z1n), (146, zfx), (114, z3W)]
theorem zgq : ΓOK Tryz.prog z7L := z8 (z2I) (z8 (zhV) (z8 (z52) (zg)))
def z7M : HT := ⟨tabL [], tabH []⟩
abbrev z1p : List IT := [.v (.cons (.int .i64) (.cons (.int .i64) (.cons (.int .i64) (.one (.sl 4 (.one .bool)))))) true, .v (.cons (.int .i64) (.cons (.int .i64) (.cons (.int .i64) (.one (.sl 4 (.one .bool)))))) true]
abbrev z6l : List OT := [⟨.cons (.int .i64) (.cons (.int .i64) (.cons (.int .i64) (.one (.sl 4 (.one .bool))))), true, []⟩, ⟨.one (.int .i64), false, []⟩]
set_option maxRecDepth 100000
noncomputable def yQ : Int × Int × Int × List Bool → Int × Int × Int × List Bool → Option ((Int × Int × Int × List Bool) × Int) := fun a b => z6 (Yf (a.1, a.2.1, a.2.2.1, a.2.2.2)) fun y => ifB (neI y.2 0) (some ((0, 0, 0, []), y.2)) (z6 (Yf (b.1, b.2.1, b.2.2.1, b.2.2.2)) fun y_1 => ifB (neI y_1.2 0) (some ((0, 0, 0, []), y_1.2)) (z6 (z54 [y.1, y_1.1]) fun y => z6 (yJ y) fun y => some ((y.1.1, y.1.2.1, y.1.2.2.1, y.1.2.2.2), y.2)))
theorem zbW (x : PI z1p) : yQ (x.1) (x.2) = fnE T z7L z7M z7K (zu Tryz.f115) z1p z6l x := by kernel_rfl
noncomputable abbrev z7N : GS := zt false z1p z6l fun x => yQ (x.1) (x.2)
theorem zbX : GSOK Tryz.prog 115 z7N := zm tok zgq fmo (Ht := z7M) (fn := Tryz.f115) (Tryz.func115) (c := z7K) (by kernel_rfl) (by kernel_rfl) (by kernel_rfl) (by decide +kernel) (by decide) zbW
end Go.Proofs.Y
namespace Go.Proofs.Y
open Go.Rb Go.Kx
noncomputable def zfy : Code := zl Tryz.f116
noncomputable def zfz : FuncId → Option GS := tabG []
theorem zmD : ΓOK Tryz.prog zfz := zg
def zfA : HT := ⟨tabL [], tabH []⟩
abbrev z7f : List WA := [.d (.int .i64), .d (.int .i64)]
abbrev zd9 : List OT := [⟨.one (.sl 126 (.cons (.int .i64) (.cons (.int .i64) (.cons (.int .i64) (.one (.sl 4 (.one .bool))))))), false, []⟩]
set_option maxRecDepth 100000
noncomputable def vp : List (Int × Int × Int × List Bool) → Int → Int → Option (List (Int × Int × Int × List Bool)) := fun a b c => ifB (ifB (in2 a b c) (eqI (lenI a) (lenI a)) false) (ifB (eqI b c) (some a) (ifB (in1 a b) (ifB (in1 a c) (ifB (inN a (addN 0 (natI c)) (ZB (lenN a) c)) (ifB (inN a (addN 0 (natI b)) (lenN (subN a (addN 0 (natI c)) (ZB (lenN a) c)))) (ifB (in2C (addN (natI b) (lenN (subN a (addN 0 (natI c)) (ZB (lenN a) c)))) (capN (lenN (zN a (addN 0 (natI b)) (subN a (addN 0 (natI c)) (ZB (lenN a) c)))) 0) (intN (addN (natI b) (lenN (subN a (addN 0 (natI c)) (ZB (lenN a) c))))) (lenI a)) (ifB (inN (zN a (addN 0 (natI b)) (subN a (addN 0 (natI c)) (ZB (lenN a) c))) (addN 0 (natI (intN (addN (natI b) (lenN (subN a (addN 0 (natI c)) (ZB (lenN a) c))))))) (subI (intN (addN (natI b) (lenN (subN a (addN 0 (natI c)) (ZB (lenN a) c))))) (lenI a))) (ifB (inN (zN (zN a (addN 0 (natI b)) (subN a (addN 0 (natI c)) (ZB (lenN a) c))) (addN 0 (natI (intN (addN (natI b) (lenN (subN a (addN 0 (natI c)) (ZB (lenN a) c))))))) (repN (subI (intN (addN (natI b) (lenN (subN a (addN 0 (natI c)) (ZB (lenN a) c))))) (lenI a)) (0, 0, 0, []))) 0 (addN (natI b) (lenN (subN a (addN 0 (natI c)) (ZB (lenN a) c))))) (some (subN (zN (zN a (addN 0 (natI b)) (subN a (addN 0 (natI c)) (ZB (lenN a) c))) (addN 0 (natI (intN (addN (natI b) (lenN (subN a (addN 0 (natI c)) (ZB (lenN a) c))))))) (repN (subI (intN (addN (natI b) (lenN (subN a (addN 0 (natI c)) (ZB (lenN a) c))))) (lenI a)) (0, 0, 0, []))) 0 (addN (natI b) (lenN (subN a (addN 0 (natI c)) (ZB (lenN a) c)))))) none) none) none) none) none) none) none)) none
theorem zhW (rows : List (DenR (.cons (.int .i64) (.cons (.int .i64) (.cons (.int .i64) (.one (.sl 4 (.one .bool)))))))) (x : PW z7f) : vp rows (x.1) (x.2.1) = fnM T zfz zfA zfy (zu Tryz.f116) 126 (.cons (.int .i64) (.cons (.int .i64) (.cons (.int .i64) (.one (.sl 4 (.one .bool)))))) z7f zd9 rows x := by kernel_rfl
noncomputable abbrev zfB : GS := zm5 126 (.cons (.int .i64) (.cons (.int .i64) (.cons (.int .i64) (.one (.sl 4 (.one .bool)))))) z7f zd9 fun rows x => vp rows (x.1) (x.2.1)
theorem zhX : GSOK Tryz.prog 116 zfB := zku tok zmD fmo (Ht := zfA) (fn := Tryz.f116) (Tryz.func116) (c := zfy) (by kernel_rfl) (by kernel_rfl) (by kernel_rfl) (by decide +kernel) (by decide) zhW
end Go.Proofs.Y
