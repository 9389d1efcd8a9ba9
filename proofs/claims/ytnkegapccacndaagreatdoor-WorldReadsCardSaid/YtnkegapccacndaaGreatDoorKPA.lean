/-
  What is proved, part by part: facts on the types of the program. what rainbookref.FreshShelf comes to. what note.Check comes to. what rainbookref.in comes to. what rainbookref.CheckPoint comes to. what rainbookref.CheckRec comes to. what rainbookref.Decoded comes to. what rainbookref.UnpackedOf comes to. what rainbookref.PointsOf comes to. what rainbookref.CheckPoints comes to. what rainbookref.RowPoints comes to. what rainbookref.CheckShelf comes to. what slices.Clone[[]api.Row,api.Row] comes to. what slices.Clone[[]api.Point,api.Point] comes to. what rainbookref.PutAll comes to. what slices.Clone[[]bool,bool] comes to. what rainbookref.Coded comes to. what rainbookref.PackedOf comes to. what rainbookref.BlockOf comes to. what slices.Clone[[]api.Block,api.Block] comes to. what rainbookref.Sealed comes to. what rainbookref.Merged comes to. what slices.Grow[[]api.Block,api.Block] comes to. what slices.Concat[[]api.Block,api.Block] comes to. what rainbookref.MergedRow comes to. what rainbookref.Dropped comes to. what rainbookref.nexted comes to. what rainbookref.Nexted comes to. what rainbookref.ShelfOf comes to. what bits.Read comes to. what zig.Read comes to. what line.Check comes to. what line.Unpack comes to. what block.Points comes to. what shelf.all comes to. what shelf.Check comes to. what block.Copy comes to. what shelf.Copy comes to. what shelf.Put comes to. what zig.fold comes to. what bits.Put comes to. what zig.Put comes to. what line.Pack comes to. what block.Make comes to. what shelf.Seal comes to. what slices.Grow[[]api.Point,api.Point] comes to. what slices.Concat[[]api.Point,api.Point] comes to. what block.Merge comes to. what slices.Delete[[]api.Block,api.Block] comes to. Conditions: none.
-/
import Derived.Test.YtnkegapccacndaaGreatDoorKED
import Derived.Test.YtnkegapccacndaaGreatDoorProg
import Derived.KernelRfl
set_option linter.unusedVariables false
set_option linter.unusedSimpArgs false
set_option linter.unnecessarySimpa false
set_option maxRecDepth 4000
namespace Go.Proofs.Y
open Go.Rb Go.Kx
theorem okT2 : OkTD Tryz.prog 2 ⟨.int .i64, 1, 8, some (.one (.int .i64))⟩ := ⟨⟨by kernel_rfl, by kernel_rfl, by kernel_rfl⟩, Tryz.underlying2, ⟨by kernel_rfl, by kernel_rfl⟩, trivial⟩
theorem okT3 : OkTD Tryz.prog 3 ⟨.int .i64, 1, 8, some (.one (.int .i64))⟩ := ⟨⟨by kernel_rfl, by kernel_rfl, by kernel_rfl⟩, Tryz.underlying3, ⟨by kernel_rfl, by kernel_rfl⟩, trivial⟩
theorem okT4 : OkTD Tryz.prog 4 ⟨.bool, 1, 1, some (.one .bool)⟩ := ⟨⟨by kernel_rfl, by kernel_rfl, by kernel_rfl⟩, Tryz.underlying4, ⟨by kernel_rfl, by kernel_rfl⟩, trivial⟩
theorem okT5 : OkTD Tryz.prog 5 ⟨.int .u8, 1, 1, some (.one (.int .u8))⟩ := ⟨⟨by kernel_rfl, by kernel_rfl, by kernel_rfl⟩, Tryz.underlying5, ⟨by kernel_rfl, by kernel_rfl⟩, trivial⟩
theorem okT9 : OkTD Tryz.prog 9 ⟨.str, 1, 16, some (.one .str)⟩ := ⟨⟨by kernel_rfl, by kernel_rfl, by kernel_rfl⟩, Tryz.underlying9, ⟨by kernel_rfl, by kernel_rfl⟩, trivial⟩
theorem zrH : OkTD Tryz.prog 22 ⟨.sl 95, 1, 24, some (.one (.sl 95 (.cons (.sl 126 (.cons (.int .i64) (.cons (.int .i64) (.cons (.int .i64) (.one (.sl 4 (.one .bool))))))) (.one (.sl 73 (.cons (.int .i64) (.one (.int .i64))))))))⟩ := ⟨⟨by kernel_rfl, by kernel_rfl, by kernel_rfl⟩, ⟨Tryz.underlying22, by kernel_rfl⟩, ⟨by kernel_rfl, by kernel_rfl⟩, trivial⟩
theorem zrI : OkTD Tryz.prog 24 ⟨.st [(0, 1)], 1, 24, some (.one (.sl 95 (.cons (.sl 126 (.cons (.int .i64) (.cons (.int .i64) (.cons (.int .i64) (.one (.sl 4 (.one .bool))))))) (.one (.sl 73 (.cons (.int .i64) (.one (.int .i64))))))))⟩ := ⟨⟨by kernel_rfl, by kernel_rfl, by kernel_rfl⟩, ⟨_, Tryz.underlying24, by kernel_rfl, by kernel_rfl⟩, ⟨by kernel_rfl, by kernel_rfl⟩, fun h => absurd (by rfl) h⟩
theorem zrJ : OkTD Tryz.prog 25 ⟨.sl 5, 1, 24, some (.one (.sl 5 (.one (.int .u8))))⟩ := ⟨⟨by kernel_rfl, by kernel_rfl, by kernel_rfl⟩, ⟨Tryz.underlying25, by kernel_rfl⟩, ⟨by kernel_rfl, by kernel_rfl⟩, trivial⟩
theorem zrK : OkTD Tryz.prog 27 ⟨.st [(0, 1), (1, 1)], 2, 48, some (.cons (.sl 5 (.one (.int .u8))) (.one (.sl 5 (.one (.int .u8)))))⟩ := ⟨⟨by kernel_rfl, by kernel_rfl, by kernel_rfl⟩, ⟨_, Tryz.underlying27, by kernel_rfl, by kernel_rfl⟩, ⟨by kernel_rfl, by kernel_rfl⟩, fun h => absurd (by rfl) h⟩
theorem zrL : OkTD Tryz.prog 28 ⟨.sl 3, 1, 24, some (.one (.sl 3 (.one (.int .i64))))⟩ := ⟨⟨by kernel_rfl, by kernel_rfl, by kernel_rfl⟩, ⟨Tryz.underlying28, by kernel_rfl⟩, ⟨by kernel_rfl, by kernel_rfl⟩, trivial⟩
theorem zrM : OkTD Tryz.prog 30 ⟨.st [(0, 1), (1, 2), (3, 1), (4, 1)], 5, 104, some (.cons (.sl 95 (.cons (.sl 126 (.cons (.int .i64) (.cons (.int .i64) (.cons (.int .i64) (.one (.sl 4 (.one .bool))))))) (.one (.sl 73 (.cons (.int .i64) (.one (.int .i64))))))) (.cons (.sl 5 (.one (.int .u8))) (.cons (.sl 5 (.one (.int .u8))) (.cons (.bool) (.one (.sl 3 (.one (.int .i64))))))))⟩ := ⟨⟨by kernel_rfl, by kernel_rfl, by kernel_rfl⟩, ⟨_, Tryz.underlying30, by kernel_rfl, by kernel_rfl⟩, ⟨by kernel_rfl, by kernel_rfl⟩, fun h => absurd (by rfl) h⟩
theorem zrN : OkTD Tryz.prog 31 ⟨.sl 41, 1, 24, some (.one (.sl 41 (.cons (.int .i64) (.cons (.int .i64) (.cons (.int .i64) (.one (.sl 77 (.cons (.int .i64) (.cons (.int .i64) (.one (.int .i64)))))))))))⟩ := ⟨⟨by kernel_rfl, by kernel_rfl, by kernel_rfl⟩, ⟨Tryz.underlying31, by kernel_rfl⟩, ⟨by kernel_rfl, by kernel_rfl⟩, trivial⟩
theorem zrO : OkTD Tryz.prog 32 ⟨.sl 33, 1, 24, some (.one (.sl 33 (.one (.int .i64))))⟩ := ⟨⟨by kernel_rfl, by kernel_rfl, by kernel_rfl⟩, ⟨Tryz.underlying32, by kernel_rfl⟩, ⟨by kernel_rfl, by kernel_rfl⟩, trivial⟩
theorem zrP : OkTD Tryz.prog 33 ⟨.int .i64, 1, 8, some (.one (.int .i64))⟩ := ⟨⟨by kernel_rfl, by kernel_rfl, by kernel_rfl⟩, Tryz.underlying33, ⟨by kernel_rfl, by kernel_rfl⟩, trivial⟩
theorem zrQ : OkTD Tryz.prog 39 ⟨.sl 77, 1, 24, some (.one (.sl 77 (.cons (.int .i64) (.cons (.int .i64) (.one (.int .i64))))))⟩ := ⟨⟨by kernel_rfl, by kernel_rfl, by kernel_rfl⟩, ⟨Tryz.underlying39, by kernel_rfl⟩, ⟨by kernel_rfl, by kernel_rfl⟩, trivial⟩
theorem zrR : OkTD Tryz.prog 41 ⟨.st [(0, 1), (1, 1), (2, 1), (3, 1)], 4, 48, some (.cons (.int .i64) (.cons (.int .i64) (.cons (.int .i64) (.one (.sl 77 (.cons (.int .i64) (.cons (.int .i64) (.one (.int .i64)))))))))⟩ := ⟨⟨by kernel_rfl, by kernel_rfl, by kernel_rfl⟩, ⟨_, Tryz.underlying41, by kernel_rfl, by kernel_rfl⟩, ⟨by kernel_rfl, by kernel_rfl⟩, fun h => absurd (by rfl) h⟩
theorem zrS : OkTD Tryz.prog 48 ⟨.sl 52, 1, 24, some (.one (.sl 52 (.cons (.int .i64) (.cons (.int .i64) (.cons (.int .i64) (.one (.sl 77 (.cons (.int .i64) (.cons (.int .i64) (.one (.int .i64)))))))))))⟩ := ⟨⟨by kernel_rfl, by kernel_rfl, by kernel_rfl⟩, ⟨Tryz.underlying48, by kernel_rfl⟩, ⟨by kernel_rfl, by kernel_rfl⟩, trivial⟩
theorem zrT : OkTD Tryz.prog 52 ⟨.st [(0, 1), (1, 1), (2, 1), (3, 1)], 4, 48, some (.cons (.int .i64) (.cons (.int .i64) (.cons (.int .i64) (.one (.sl 77 (.cons (.int .i64) (.cons (.int .i64) (.one (.int .i64)))))))))⟩ := ⟨⟨by kernel_rfl, by kernel_rfl, by kernel_rfl⟩, ⟨_, Tryz.underlying52, by kernel_rfl, by kernel_rfl⟩, ⟨by kernel_rfl, by kernel_rfl⟩, fun h => absurd (by rfl) h⟩
theorem zrU : OkTD Tryz.prog 65 ⟨.sl 73, 1, 24, some (.one (.sl 73 (.cons (.int .i64) (.one (.int .i64)))))⟩ := ⟨⟨by kernel_rfl, by kernel_rfl, by kernel_rfl⟩, ⟨Tryz.underlying65, by kernel_rfl⟩, ⟨by kernel_rfl, by kernel_rfl⟩, trivial⟩
theorem zrV : OkTD Tryz.prog 73 ⟨.st [(0, 1), (1, 1)], 2, 16, some (.cons (.int .i64) (.one (.int .i64)))⟩ := ⟨⟨by kernel_rfl, by kernel_rfl, by kernel_rfl⟩, ⟨_, Tryz.underlying73, by kernel_rfl, by kernel_rfl⟩, ⟨by kernel_rfl, by kernel_rfl⟩, fun _ => zbx (Tryz.underlying73) (by kernel_rfl) (by kernel_rfl) (by kernel_rfl) (by kernel_rfl)⟩
theorem zrW : OkTD Tryz.prog 77 ⟨.st [(0, 1), (1, 1), (2, 1)], 3, 24, some (.cons (.int .i64) (.cons (.int .i64) (.one (.int .i64))))⟩ := ⟨⟨by kernel_rfl, by kernel_rfl, by kernel_rfl⟩, ⟨_, Tryz.underlying77, by kernel_rfl, by kernel_rfl⟩, ⟨by kernel_rfl, by kernel_rfl⟩, fun _ => zbx (Tryz.underlying77) (by kernel_rfl) (by kernel_rfl) (by kernel_rfl) (by kernel_rfl)⟩
theorem zrX : OkTD Tryz.prog 93 ⟨.sl 126, 1, 24, some (.one (.sl 126 (.cons (.int .i64) (.cons (.int .i64) (.cons (.int .i64) (.one (.sl 4 (.one .bool))))))))⟩ := ⟨⟨by kernel_rfl, by kernel_rfl, by kernel_rfl⟩, ⟨Tryz.underlying93, by kernel_rfl⟩, ⟨by kernel_rfl, by kernel_rfl⟩, trivial⟩
theorem zrY : OkTD Tryz.prog 95 ⟨.st [(0, 1), (1, 1)], 2, 48, some (.cons (.sl 126 (.cons (.int .i64) (.cons (.int .i64) (.cons (.int .i64) (.one (.sl 4 (.one .bool))))))) (.one (.sl 73 (.cons (.int .i64) (.one (.int .i64))))))⟩ := ⟨⟨by kernel_rfl, by kernel_rfl, by kernel_rfl⟩, ⟨_, Tryz.underlying95, by kernel_rfl, by kernel_rfl⟩, ⟨by kernel_rfl, by kernel_rfl⟩, fun h => absurd (by rfl) h⟩
theorem zrc : OkTD Tryz.prog 124 ⟨.sl 4, 1, 24, some (.one (.sl 4 (.one .bool)))⟩ := ⟨⟨by kernel_rfl, by kernel_rfl, by kernel_rfl⟩, ⟨Tryz.underlying124, by kernel_rfl⟩, ⟨by kernel_rfl, by kernel_rfl⟩, trivial⟩
theorem zrd : OkTD Tryz.prog 126 ⟨.st [(0, 1), (1, 1), (2, 1), (3, 1)], 4, 48, some (.cons (.int .i64) (.cons (.int .i64) (.cons (.int .i64) (.one (.sl 4 (.one .bool))))))⟩ := ⟨⟨by kernel_rfl, by kernel_rfl, by kernel_rfl⟩, ⟨_, Tryz.underlying126, by kernel_rfl, by kernel_rfl⟩, ⟨by kernel_rfl, by kernel_rfl⟩, fun h => absurd (by rfl) h⟩
theorem zre : OkTD Tryz.prog 130 ⟨.sl 32, 1, 24, some (.one (.sl 32 (.one (.sl 33 (.one (.int .i64))))))⟩ := ⟨⟨by kernel_rfl, by kernel_rfl, by kernel_rfl⟩, ⟨Tryz.underlying130, by kernel_rfl⟩, ⟨by kernel_rfl, by kernel_rfl⟩, trivial⟩
theorem zrf : OkTD Tryz.prog 149 ⟨.sl 9, 1, 24, some (.one (.sl 9 (.one .str)))⟩ := ⟨⟨by kernel_rfl, by kernel_rfl, by kernel_rfl⟩, ⟨Tryz.underlying149, by kernel_rfl⟩, ⟨by kernel_rfl, by kernel_rfl⟩, trivial⟩
theorem zrg : OkTD Tryz.prog 152 ⟨.sl 25, 1, 24, some (.one (.sl 25 (.one (.sl 5 (.one (.int .u8))))))⟩ := ⟨⟨by kernel_rfl, by kernel_rfl, by kernel_rfl⟩, ⟨Tryz.underlying152, by kernel_rfl⟩, ⟨by kernel_rfl, by kernel_rfl⟩, trivial⟩
theorem zrh : OkTD Tryz.prog 162 ⟨.sl 48, 1, 24, some (.one (.sl 48 (.one (.sl 52 (.cons (.int .i64) (.cons (.int .i64) (.cons (.int .i64) (.one (.sl 77 (.cons (.int .i64) (.cons (.int .i64) (.one (.int .i64)))))))))))))⟩ := ⟨⟨by kernel_rfl, by kernel_rfl, by kernel_rfl⟩, ⟨Tryz.underlying162, by kernel_rfl⟩, ⟨by kernel_rfl, by kernel_rfl⟩, trivial⟩
theorem zri : OkTD Tryz.prog 172 ⟨.mp, 1, 8, none⟩ := ⟨⟨by kernel_rfl, by kernel_rfl, by kernel_rfl⟩, zrG Tryz.underlying172 Tryz.underlying3 (by kernel_rfl), trivial, trivial⟩
theorem zrj : OkTD Tryz.prog 174 ⟨.int .u64, 1, 8, some (.one (.int .u64))⟩ := ⟨⟨by kernel_rfl, by kernel_rfl, by kernel_rfl⟩, Tryz.underlying174, ⟨by kernel_rfl, by kernel_rfl⟩, trivial⟩
theorem zrk : OkTD Tryz.prog 183 ⟨.ifc, 1, 16, none⟩ := ⟨⟨by kernel_rfl, by kernel_rfl, by kernel_rfl⟩, ⟨_, Tryz.underlying183⟩, trivial, trivial⟩
theorem zrl : OkTD Tryz.prog 199 ⟨.int .u32, 1, 4, some (.one (.int .u32))⟩ := ⟨⟨by kernel_rfl, by kernel_rfl, by kernel_rfl⟩, Tryz.underlying199, ⟨by kernel_rfl, by kernel_rfl⟩, trivial⟩
theorem zrm : OkTD Tryz.prog 202 ⟨.int .u64, 1, 8, some (.one (.int .u64))⟩ := ⟨⟨by kernel_rfl, by kernel_rfl, by kernel_rfl⟩, Tryz.underlying202, ⟨by kernel_rfl, by kernel_rfl⟩, trivial⟩
theorem zrn : OkTD Tryz.prog 206 ⟨.sl 65, 1, 24, some (.one (.sl 65 (.one (.sl 73 (.cons (.int .i64) (.one (.int .i64)))))))⟩ := ⟨⟨by kernel_rfl, by kernel_rfl, by kernel_rfl⟩, ⟨Tryz.underlying206, by kernel_rfl⟩, ⟨by kernel_rfl, by kernel_rfl⟩, trivial⟩
theorem zro : OkTD Tryz.prog 213 ⟨.sl 93, 1, 24, some (.one (.sl 93 (.one (.sl 126 (.cons (.int .i64) (.cons (.int .i64) (.cons (.int .i64) (.one (.sl 4 (.one .bool))))))))))⟩ := ⟨⟨by kernel_rfl, by kernel_rfl, by kernel_rfl⟩, ⟨Tryz.underlying213, by kernel_rfl⟩, ⟨by kernel_rfl, by kernel_rfl⟩, trivial⟩
def tL : List (Nat × TD) := [(2, ⟨.int .i64, 1, 8, some (.one (.int .i64))⟩),
 (3, ⟨.int .i64, 1, 8, some (.one (.int .i64))⟩),
 (4, ⟨.bool, 1, 1, some (.one .bool)⟩),
 (5, ⟨.int .u8, 1, 1, some (.one (.int .u8))⟩),
 (9, ⟨.str, 1, 16, some (.one .str)⟩),
 (22, ⟨.sl 95, 1, 24, some (.one (.sl 95 (.cons (.sl 126 (.cons (.int .i64) (.cons (.int .i64) (.cons (.int .i64) (.one (.sl 4 (.one .bool))))))) (.one (.sl 73 (.cons (.int .i64) (.one (.int .i64))))))))⟩),
 (24, ⟨.st [(0, 1)], 1, 24, some (.one (.sl 95 (.cons (.sl 126 (.cons (.int .i64) (.cons (.int .i64) (.cons (.int .i64) (.one (.sl 4 (.one .bool))))))) (.one (.sl 73 (.cons (.int .i64) (.one (.int .i64))))))))⟩),
 (25, ⟨.sl 5, 1, 24, some (.one (.sl 5 (.one (.int .u8))))⟩),
 (27, ⟨.st [(0, 1), (1, 1)], 2, 48, some (.cons (.sl 5 (.one (.int .u8))) (.one (.sl 5 (.one (.int .u8)))))⟩),
 (28, ⟨.sl 3, 1, 24, some (.one (.sl 3 (.one (.int .i64))))⟩),
 (30, ⟨.st [(0, 1), (1, 2), (3, 1), (4, 1)], 5, 104, some (.cons (.sl 95 (.cons (.sl 126 (.cons (.int .i64) (.cons (.int .i64) (.cons (.int .i64) (.one (.sl 4 (.one .bool))))))) (.one (.sl 73 (.cons (.int .i64) (.one (.int .i64))))))) (.cons (.sl 5 (.one (.int .u8))) (.cons (.sl 5 (.one (.int .u8))) (.cons (.bool) (.one (.sl 3 (.one (.int .i64))))))))⟩),
 (31, ⟨.sl 41, 1, 24, some (.one (.sl 41 (.cons (.int .i64) (.cons (.int .i64) (.cons (.int .i64) (.one (.sl 77 (.cons (.int .i64) (.cons (.int .i64) (.one (.int .i64)))))))))))⟩),
 (32, ⟨.sl 33, 1, 24, some (.one (.sl 33 (.one (.int .i64))))⟩),
 (33, ⟨.int .i64, 1, 8, some (.one (.int .i64))⟩),
 (39, ⟨.sl 77, 1, 24, some (.one (.sl 77 (.cons (.int .i64) (.cons (.int .i64) (.one (.int .i64))))))⟩),
 (41, ⟨.st [(0, 1), (1, 1), (2, 1), (3, 1)], 4, 48, some (.cons (.int .i64) (.cons (.int .i64) (.cons (.int .i64) (.one (.sl 77 (.cons (.int .i64) (.cons (.int .i64) (.one (.int .i64)))))))))⟩),
 (48, ⟨.sl 52, 1, 24, some (.one (.sl 52 (.cons (.int .i64) (.cons (.int .i64) (.cons (.int .i64) (.one (.sl 77 (.cons (.int .i64) (.cons (.int .i64) (.one (.int .i64)))))))))))⟩),
 (52, ⟨.st [(0, 1), (1, 1), (2, 1), (3, 1)], 4, 48, some (.cons (.int .i64) (.cons (.int .i64) (.cons (.int .i64) (.one (.sl 77 (.cons (.int .i64) (.cons (.int .i64) (.one (.int .i64)))))))))⟩),
 (65, ⟨.sl 73, 1, 24, some (.one (.sl 73 (.cons (.int .i64) (.one (.int .i64)))))⟩),
 (73, ⟨.st [(0, 1), (1, 1)], 2, 16, some (.cons (.int .i64) (.one (.int .i64)))⟩),
 (77, ⟨.st [(0, 1), (1, 1), (2, 1)], 3, 24, some (.cons (.int .i64) (.cons (.int .i64) (.one (.int .i64))))⟩),
 (93, ⟨.sl 126, 1, 24, some (.one (.sl 126 (.cons (.int .i64) (.cons (.int .i64) (.cons (.int .i64) (.one (.sl 4 (.one .bool))))))))⟩),
 (95, ⟨.st [(0, 1), (1, 1)], 2, 48, some (.cons (.sl 126 (.cons (.int .i64) (.cons (.int .i64) (.cons (.int .i64) (.one (.sl 4 (.one .bool))))))) (.one (.sl 73 (.cons (.int .i64) (.one (.int .i64))))))⟩),
 (124, ⟨.sl 4, 1, 24, some (.one (.sl 4 (.one .bool)))⟩),
 (126, ⟨.st [(0, 1), (1, 1), (2, 1), (3, 1)], 4, 48, some (.cons (.int .i64) (.cons (.int .i64) (.cons (.int .i64) (.one (.sl 4 (.one .bool))))))⟩),
 (130, ⟨.sl 32, 1, 24, some (.one (.sl 32 (.one (.sl 33 (.one (.int .i64))))))⟩),
 (149, ⟨.sl 9, 1, 24, some (.one (.sl 9 (.one .str)))⟩),
 (152, ⟨.sl 25, 1, 24, some (.one (.sl 25 (.one (.sl 5 (.one (.int .u8))))))⟩),
 (162, ⟨.sl 48, 1, 24, some (.one (.sl 48 (.one (.sl 52 (.cons (.int .i64) (.cons (.int .i64) (.cons (.int .i64) (.one (.sl 77 (.cons (.int .i64) (.cons (.int .i64) (.one (.int .i64)))))))))))))⟩),
 (172, ⟨.mp, 1, 8, none⟩),
 (174, ⟨.int .u64, 1, 8, some (.one (.int .u64))⟩),
 (183, ⟨.ifc, 1, 16, none⟩),
 (199, ⟨.int .u32, 1, 4, some (.one (.int .u32))⟩),
 (202, ⟨.int .u64, 1, 8, some (.one (.int .u64))⟩),
 (206, ⟨.sl 65, 1, 24, some (.one (.sl 65 (.one (.sl 73 (.cons (.int .i64) (.one (.int .i64)))))))⟩),
 (213, ⟨.sl 93, 1, 24, some (.one (.sl 93 (.one (.sl 126 (.cons (.int .i64) (.cons (.int .i64) (.cons (.int .i64) (.one (.sl 4 (.one .bool))))))))))⟩)]
def T : TT := tabT tL
theorem tok : TOK Tryz.prog T := zrb (L := tL) (List.forall_mem_cons.2 ⟨okT2, List.forall_mem_cons.2 ⟨okT3, List.forall_mem_cons.2 ⟨okT4, List.forall_mem_cons.2 ⟨okT5, List.forall_mem_cons.2 ⟨okT9, List.forall_mem_cons.2 ⟨zrH, List.forall_mem_cons.2 ⟨zrI, List.forall_mem_cons.2 ⟨zrJ, List.forall_mem_cons.2 ⟨zrK, List.forall_mem_cons.2 ⟨zrL, List.forall_mem_cons.2 ⟨zrM, List.forall_mem_cons.2 ⟨zrN, List.forall_mem_cons.2 ⟨zrO, List.forall_mem_cons.2 ⟨zrP, List.forall_mem_cons.2 ⟨zrQ, List.forall_mem_cons.2 ⟨zrR, List.forall_mem_cons.2 ⟨zrS, List.forall_mem_cons.2 ⟨zrT, List.forall_mem_cons.2 ⟨zrU, List.forall_mem_cons.2 ⟨zrV, List.forall_mem_cons.2 ⟨zrW, List.forall_mem_cons.2 ⟨zrX, List.forall_mem_cons.2 ⟨zrY, List.forall_mem_cons.2 ⟨zrc, List.forall_mem_cons.2 ⟨zrd, List.forall_mem_cons.2 ⟨zre, List.forall_mem_cons.2 ⟨zrf, List.forall_mem_cons.2 ⟨zrg, List.forall_mem_cons.2 ⟨zrh, List.forall_mem_cons.2 ⟨zri, List.forall_mem_cons.2 ⟨zrj, List.forall_mem_cons.2 ⟨zrk, List.forall_mem_cons.2 ⟨zrl, List.forall_mem_cons.2 ⟨zrm, List.forall_mem_cons.2 ⟨zrn, List.forall_mem_cons.2 ⟨zro, (by intro q h; cases h)⟩⟩⟩⟩⟩⟩⟩⟩⟩⟩⟩⟩⟩⟩⟩⟩⟩⟩⟩⟩⟩⟩⟩⟩⟩⟩⟩⟩⟩⟩⟩⟩⟩⟩⟩⟩)
theorem fmo : Tryz.prog.follows .mixedOrders = true := by kernel_rfl
end Go.Proofs.Y
namespace Go.Proofs.Y
open Go.Rb Go.Kx
noncomputable def zir : Code := zj Tryz.f70
noncomputable def zis : FuncId → Option GS := tabG []
theorem zoZ : ΓOK Tryz.prog zis := zg
def zit : HT := ⟨tabL [], tabH []⟩
abbrev z9k : List IT := []
abbrev zg4 : List OT := [⟨.one (.sl 95 (.cons (.sl 126 (.cons (.int .i64) (.cons (.int .i64) (.cons (.int .i64) (.one (.sl 4 (.one .bool))))))) (.one (.sl 73 (.cons (.int .i64) (.one (.int .i64))))))), true, []⟩]
set_option maxRecDepth 100000
noncomputable def z3X : Option (List (List (Int × Int × Int × List Bool) × List (Int × Int))) := ifB (z3j 48 4) (some (repI 4 ([], []))) none
theorem zkv (x : PI z9k) : z3X  = fnE T zis zit zir (zt Tryz.f70) z9k zg4 x := by kernel_rfl
noncomputable abbrev ziu : GS := zw false z9k zg4 fun x => z3X 
theorem zkw : GSOK Tryz.prog 70 ziu := zm tok zoZ fmo (Ht := zit) (fn := Tryz.f70) (Tryz.func70) (c := zir) (by kernel_rfl) (by kernel_rfl) (by kernel_rfl) (by decide +kernel) (by decide) zkv
end Go.Proofs.Y
namespace Go.Proofs.Y
open Go.Rb Go.Kx
noncomputable def z9l : Code := zj Tryz.f79
noncomputable def z9m : FuncId → Option GS := tabG []
theorem ziv : ΓOK Tryz.prog z9m := zg
def z9n : HT := ⟨tabL [(9, .it [] (dyn [.t 31 (.int .i64)]))], tabH []⟩
abbrev z2x : List IT := [.v (.cons (.int .i64) (.cons (.int .i64) (.cons (.int .i64) (.one (.sl 77 (.cons (.int .i64) (.cons (.int .i64) (.one (.int .i64))))))))) true]
abbrev z88 : List OT := [⟨.one (.int .i64), false, []⟩]
set_option maxRecDepth 100000
noncomputable def Zf : Int × Int × Int × List (Int × Int × Int) → Option Int := fun a => ifB (ltI a.1 1) (some 4) (ifB (gtI a.1 4) (some 4) (ifB (eqI a.1 1) (ifB (neI a.2.1 0) (some 4) (ifB (neI a.2.2.1 0) (some 4) (ifB (gtI (lenI a.2.2.2) 10) (some 2) (zi maxR (fun (x : Int) => ifB (ltI x (lenI a.2.2.2)) (z6 (atI a.2.2.2 x) fun y => ifB (ltI y.1 0) (mapO Sum.inr (some 3)) (ifB (geI y.1 4) (mapO Sum.inr (some 3)) (ifB (ltI y.2.1 0) (mapO Sum.inr (some 3)) (ifB (gtI y.2.1 100000) (mapO Sum.inr (some 3)) (ifB (ltI y.2.2 (-1000000)) (mapO Sum.inr (some 3)) (ifB (gtI y.2.2 1000000) (mapO Sum.inr (some 3)) (some (Sum.inl (wadd .i64 x 1))))))))) (mapO Sum.inr (some 0))) 0)))) (ifB (gtI (lenI a.2.2.2) 0) (some 4) (ifB (eqI a.1 4) (ifB (neI a.2.1 0) (some 4) (ifB (ltI a.2.1 0) (some 3) (ifB (geI a.2.1 4) (some 3) (ifB (ltI a.2.2.1 0) (some 3) (ifB (gtI a.2.2.1 100001) (some 3) (some 0)))))) (ifB (ltI a.2.1 0) (some 3) (ifB (geI a.2.1 4) (some 3) (ifB (ltI a.2.2.1 0) (some 3) (ifB (gtI a.2.2.1 100001) (some 3) (some 0)))))))))
theorem zdw (x : PI z2x) : Zf x = fnE T z9m z9n z9l (zt Tryz.f79) z2x z88 x := by kernel_rfl
noncomputable abbrev z0N : GS := zw false z2x z88 fun x => Zf x
theorem z0O : GSOK Tryz.prog 79 z0N := zm tok ziv fmo (Ht := z9n) (fn := Tryz.f79) (Tryz.func79) (c := z9l) (by kernel_rfl) (by kernel_rfl) (by kernel_rfl) (by decide +kernel) (by decide) zdw
end Go.Proofs.Y
namespace Go.Proofs.Y
open Go.Rb Go.Kx
noncomputable def z3Y : Code := zj Tryz.f64
noncomputable def z3Z : FuncId → Option GS := tabG []
theorem zcB : ΓOK Tryz.prog z3Z := zg
def z40 : HT := ⟨tabL [], tabH []⟩
abbrev Jg : List IT := [.v (.one (.int .i64)) false, .v (.one (.int .i64)) false, .v (.one (.int .i64)) false]
abbrev z36 : List OT := [⟨.one .bool, false, []⟩]
set_option maxRecDepth 100000
noncomputable def zl : Int → Int → Int → Option Bool := fun a b c => ifB (leI b a) (some (leI a c)) (some false)
theorem z8T (x : PI Jg) : zl (x.1) (x.2.1) (x.2.2) = fnE T z3Z z40 z3Y (zt Tryz.f64) Jg z36 x := by kernel_rfl
noncomputable abbrev ZX : GS := zw false Jg z36 fun x => zl (x.1) (x.2.1) (x.2.2)
theorem ZQ : GSOK Tryz.prog 64 ZX := zm tok zcB fmo (Ht := z40) (fn := Tryz.f64) (Tryz.func64) (c := z3Y) (by kernel_rfl) (by kernel_rfl) (by kernel_rfl) (by decide +kernel) (by decide) z8T
end Go.Proofs.Y
namespace Go.Proofs.Y
open Go.Rb Go.Kx
noncomputable def VO : Code := zj Tryz.f131
noncomputable def VP : FuncId → Option GS := tabG [(64, ZX)]
theorem z41 : ΓOK Tryz.prog VP := z8 (ZQ) (zg)
def VQ : HT := ⟨tabL [], tabH []⟩
abbrev YC : List IT := [.v (.cons (.int .i64) (.one (.int .i64))) true]
abbrev Vv : List OT := [⟨.one (.int .i64), false, []⟩]
set_option maxRecDepth 100000
noncomputable def zE : Int × Int → Option Int := fun a => z6 (zl a.1 0 100000) fun y => ifB (notB y) (some 3) (z6 (zl a.2 (-1000000) 1000000) fun y => ifB (notB y) (some 3) (some 0))
theorem z2l (x : PI YC) : zE x = fnE T VP VQ VO (zt Tryz.f131) YC Vv x := by kernel_rfl
noncomputable abbrev Y6 : GS := zw false YC Vv fun x => zE x
theorem Yr : GSOK Tryz.prog 131 Y6 := zm tok z41 fmo (Ht := VQ) (fn := Tryz.f131) (Tryz.func131) (c := VO) (by kernel_rfl) (by kernel_rfl) (by kernel_rfl) (by decide +kernel) (by decide) z2l
end Go.Proofs.Y
namespace Go.Proofs.Y
open Go.Rb Go.Kx
noncomputable def Jm : Code := zj Tryz.f103
noncomputable def Jn : FuncId → Option GS := tabG [(64, ZX), (131, Y6)]
theorem z63 : ΓOK Tryz.prog Jn := z8 (ZQ) (z8 (Yr) (zg))
def Jo : HT := ⟨tabL [(11, .it [] (dyn [.t 59 (.int .i64)]))], tabH []⟩
abbrev vi : List IT := [.v (.cons (.int .i64) (.cons (.int .i64) (.cons (.int .i64) (.one (.sl 77 (.cons (.int .i64) (.cons (.int .i64) (.one (.int .i64))))))))) true]
abbrev jO : List OT := [⟨.one (.int .i64), false, []⟩]
set_option maxRecDepth 100000
noncomputable def zu : Int × Int × Int × List (Int × Int × Int) → Option Int := fun a => z6 (zl a.1 1 4) fun y => ifB (notB y) (some 4) (ifB (eqI a.1 1) (ifB (neI a.2.1 0) (some 4) (ifB (neI a.2.2.1 0) (some 4) (ifB (neI a.1 1) (ifB (gtI (lenI a.2.2.2) 0) (some 4) (ifB (eqI a.1 4) (ifB (neI a.2.1 0) (some 4) (ifB (gtI (lenI a.2.2.2) 10) (some 2) (z6 (zl a.2.1 0 3) fun y => ifB (notB y) (some 3) (z6 (zl a.2.2.1 0 100001) fun y => ifB (notB y) (some 3) (zi maxR (fun (x : Int) => ifB (ltI x (lenI a.2.2.2)) (z6 (atI a.2.2.2 x) fun y => z6 (zl y.1 0 3) fun y_1 => ifB (notB y_1) (mapO Sum.inr (some 3)) (z6 (zE (y.2.1, y.2.2)) fun y => ifB (neI y 0) (mapO Sum.inr (some 3)) (some (Sum.inl (wadd .i64 x 1))))) (mapO Sum.inr (some 0))) 0))))) (ifB (gtI (lenI a.2.2.2) 10) (some 2) (z6 (zl a.2.1 0 3) fun y => ifB (notB y) (some 3) (z6 (zl a.2.2.1 0 100001) fun y => ifB (notB y) (some 3) (zi maxR (fun (x : Int) => ifB (ltI x (lenI a.2.2.2)) (z6 (atI a.2.2.2 x) fun y => z6 (zl y.1 0 3) fun y_1 => ifB (notB y_1) (mapO Sum.inr (some 3)) (z6 (zE (y.2.1, y.2.2)) fun y => ifB (neI y 0) (mapO Sum.inr (some 3)) (some (Sum.inl (wadd .i64 x 1))))) (mapO Sum.inr (some 0))) 0)))))) (ifB (eqI a.1 4) (ifB (neI a.2.1 0) (some 4) (ifB (gtI (lenI a.2.2.2) 10) (some 2) (z6 (zl a.2.1 0 3) fun y => ifB (notB y) (some 3) (z6 (zl a.2.2.1 0 100001) fun y => ifB (notB y) (some 3) (zi maxR (fun (x : Int) => ifB (ltI x (lenI a.2.2.2)) (z6 (atI a.2.2.2 x) fun y => z6 (zl y.1 0 3) fun y_1 => ifB (notB y_1) (mapO Sum.inr (some 3)) (z6 (zE (y.2.1, y.2.2)) fun y => ifB (neI y 0) (mapO Sum.inr (some 3)) (some (Sum.inl (wadd .i64 x 1))))) (mapO Sum.inr (some 0))) 0))))) (ifB (gtI (lenI a.2.2.2) 10) (some 2) (z6 (zl a.2.1 0 3) fun y => ifB (notB y) (some 3) (z6 (zl a.2.2.1 0 100001) fun y => ifB (notB y) (some 3) (zi maxR (fun (x : Int) => ifB (ltI x (lenI a.2.2.2)) (z6 (atI a.2.2.2 x) fun y => z6 (zl y.1 0 3) fun y_1 => ifB (notB y_1) (mapO Sum.inr (some 3)) (z6 (zE (y.2.1, y.2.2)) fun y => ifB (neI y 0) (mapO Sum.inr (some 3)) (some (Sum.inl (wadd .i64 x 1))))) (mapO Sum.inr (some 0))) 0)))))))) (ifB (neI a.1 1) (ifB (gtI (lenI a.2.2.2) 0) (some 4) (ifB (eqI a.1 4) (ifB (neI a.2.1 0) (some 4) (ifB (gtI (lenI a.2.2.2) 10) (some 2) (z6 (zl a.2.1 0 3) fun y => ifB (notB y) (some 3) (z6 (zl a.2.2.1 0 100001) fun y => ifB (notB y) (some 3) (zi maxR (fun (x : Int) => ifB (ltI x (lenI a.2.2.2)) (z6 (atI a.2.2.2 x) fun y => z6 (zl y.1 0 3) fun y_1 => ifB (notB y_1) (mapO Sum.inr (some 3)) (z6 (zE (y.2.1, y.2.2)) fun y => ifB (neI y 0) (mapO Sum.inr (some 3)) (some (Sum.inl (wadd .i64 x 1))))) (mapO Sum.inr (some 0))) 0))))) (ifB (gtI (lenI a.2.2.2) 10) (some 2) (z6 (zl a.2.1 0 3) fun y => ifB (notB y) (some 3) (z6 (zl a.2.2.1 0 100001) fun y => ifB (notB y) (some 3) (zi maxR (fun (x : Int) => ifB (ltI x (lenI a.2.2.2)) (z6 (atI a.2.2.2 x) fun y => z6 (zl y.1 0 3) fun y_1 => ifB (notB y_1) (mapO Sum.inr (some 3)) (z6 (zE (y.2.1, y.2.2)) fun y => ifB (neI y 0) (mapO Sum.inr (some 3)) (some (Sum.inl (wadd .i64 x 1))))) (mapO Sum.inr (some 0))) 0)))))) (ifB (eqI a.1 4) (ifB (neI a.2.1 0) (some 4) (ifB (gtI (lenI a.2.2.2) 10) (some 2) (z6 (zl a.2.1 0 3) fun y => ifB (notB y) (some 3) (z6 (zl a.2.2.1 0 100001) fun y => ifB (notB y) (some 3) (zi maxR (fun (x : Int) => ifB (ltI x (lenI a.2.2.2)) (z6 (atI a.2.2.2 x) fun y => z6 (zl y.1 0 3) fun y_1 => ifB (notB y_1) (mapO Sum.inr (some 3)) (z6 (zE (y.2.1, y.2.2)) fun y => ifB (neI y 0) (mapO Sum.inr (some 3)) (some (Sum.inl (wadd .i64 x 1))))) (mapO Sum.inr (some 0))) 0))))) (ifB (gtI (lenI a.2.2.2) 10) (some 2) (z6 (zl a.2.1 0 3) fun y => ifB (notB y) (some 3) (z6 (zl a.2.2.1 0 100001) fun y => ifB (notB y) (some 3) (zi maxR (fun (x : Int) => ifB (ltI x (lenI a.2.2.2)) (z6 (atI a.2.2.2 x) fun y => z6 (zl y.1 0 3) fun y_1 => ifB (notB y_1) (mapO Sum.inr (some 3)) (z6 (zE (y.2.1, y.2.2)) fun y => ifB (neI y 0) (mapO Sum.inr (some 3)) (some (Sum.inl (wadd .i64 x 1))))) (mapO Sum.inr (some 0))) 0)))))))
theorem z3s (x : PI vi) : zu x = fnE T Jn Jo Jm (zt Tryz.f103) vi jO x := by kernel_rfl
noncomputable abbrev vC : GS := zw false vi jO fun x => zu x
theorem Vw : GSOK Tryz.prog 103 vC := zm tok z63 fmo (Ht := Jo) (fn := Tryz.f103) (Tryz.func103) (c := Jm) (by kernel_rfl) (by kernel_rfl) (by kernel_rfl) (by decide +kernel) (by decide) z3s
end Go.Proofs.Y
namespace Go.Proofs.Y
open Go.Rb Go.Kx
noncomputable def z02 : Code := zj Tryz.f161
noncomputable def z03 : FuncId → Option GS := tabG []
theorem z6E : ΓOK Tryz.prog z03 := zg
def z04 : HT := ⟨tabL [(4, .it [] (dyn [.t 0 (.sl 4 (.one .bool)), .t 5 (.int .i64), .t 6 (.int .i64), .t 7 (.int .i64)])), (10, .it [] (dyn [.t 8 (.int .i64), .t 22 (.int .i64)]))], tabH []⟩
abbrev vD : List IT := [.v (.one (.sl 4 (.one .bool))) false]
abbrev Jp : List OT := [⟨.one (.int .i64), false, []⟩, ⟨.one (.sl 4 (.one .bool)), false, []⟩, ⟨.one (.int .i64), false, []⟩]
set_option maxRecDepth 100000
noncomputable def yj : List Bool → Option (Int × List Bool × Int) := fun a => zi maxR (fun (x : List Bool × Int × Int × Int) => ifB (eqI x.2.2.2 8) (mapO Sum.inr (some (0, [], 3))) (ifB (ltI (lenI x.1) 4) (mapO Sum.inr (some (0, [], 8))) (ifB (in2 x.1 1 4) (zi maxR (fun (x_1 : Int × Int) => ifB (ltI x_1.2 (lenI (sliI x.1 1 4))) (z6 (atI (sliI x.1 1 4) x_1.2) fun y => ifB y (ifB (ltI x_1.2 0) none (some (Sum.inl (wadd .i64 x_1.1 (wshr .i64 4 x_1.2), wadd .i64 x_1.2 1)))) (some (Sum.inl (x_1.1, wadd .i64 x_1.2 1)))) (mapO Sum.inr (ifB (gtI x.2.2.2 0) (ifB (eqI x_1.1 0) (z6 (atI x.1 0) fun y => ifB (notB y) (mapO Sum.inr (some (0, [], 4))) (ifB (gtI (wadd .i64 x.2.1 (wmul .i64 x_1.1 x.2.2.1)) 8000000) (mapO Sum.inr (some (0, [], 3))) (z6 (atI x.1 0) fun y => ifB (in1 x.1 4) (ifB (notB y) (mapO Sum.inr (ifB (eqI (wrem (wadd .i64 x.2.1 (wmul .i64 x_1.1 x.2.2.1)) 2) 0) (some (wquo .i64 (wadd .i64 x.2.1 (wmul .i64 x_1.1 x.2.2.1)) 2, yh x.1 4, 0)) (some (wneg .i64 (wadd .i64 (wquo .i64 (wadd .i64 x.2.1 (wmul .i64 x_1.1 x.2.2.1)) 2) 1), yh x.1 4, 0)))) (some (Sum.inl (yh x.1 4, wadd .i64 x.2.1 (wmul .i64 x_1.1 x.2.2.1), wmul .i64 x.2.2.1 8, wadd .i64 x.2.2.2 1)))) none))) (ifB (gtI (wadd .i64 x.2.1 (wmul .i64 x_1.1 x.2.2.1)) 8000000) (mapO Sum.inr (some (0, [], 3))) (z6 (atI x.1 0) fun y => ifB (in1 x.1 4) (ifB (notB y) (mapO Sum.inr (ifB (eqI (wrem (wadd .i64 x.2.1 (wmul .i64 x_1.1 x.2.2.1)) 2) 0) (some (wquo .i64 (wadd .i64 x.2.1 (wmul .i64 x_1.1 x.2.2.1)) 2, yh x.1 4, 0)) (some (wneg .i64 (wadd .i64 (wquo .i64 (wadd .i64 x.2.1 (wmul .i64 x_1.1 x.2.2.1)) 2) 1), yh x.1 4, 0)))) (some (Sum.inl (yh x.1 4, wadd .i64 x.2.1 (wmul .i64 x_1.1 x.2.2.1), wmul .i64 x.2.2.1 8, wadd .i64 x.2.2.2 1)))) none))) (ifB (gtI (wadd .i64 x.2.1 (wmul .i64 x_1.1 x.2.2.1)) 8000000) (mapO Sum.inr (some (0, [], 3))) (z6 (atI x.1 0) fun y => ifB (in1 x.1 4) (ifB (notB y) (mapO Sum.inr (ifB (eqI (wrem (wadd .i64 x.2.1 (wmul .i64 x_1.1 x.2.2.1)) 2) 0) (some (wquo .i64 (wadd .i64 x.2.1 (wmul .i64 x_1.1 x.2.2.1)) 2, yh x.1 4, 0)) (some (wneg .i64 (wadd .i64 (wquo .i64 (wadd .i64 x.2.1 (wmul .i64 x_1.1 x.2.2.1)) 2) 1), yh x.1 4, 0)))) (some (Sum.inl (yh x.1 4, wadd .i64 x.2.1 (wmul .i64 x_1.1 x.2.2.1), wmul .i64 x.2.2.1 8, wadd .i64 x.2.2.2 1)))) none))))) (0, 0)) none))) (a, 0, 1, 0)
theorem z42 (x : PI vD) : yj x = fnE T z03 z04 z02 (zt Tryz.f161) vD Jp x := by kernel_rfl
noncomputable abbrev z05 : GS := zw false vD Jp fun x => yj x
theorem z43 : GSOK Tryz.prog 161 z05 := zm tok z6E fmo (Ht := z04) (fn := Tryz.f161) (Tryz.func161) (c := z02) (by kernel_rfl) (by kernel_rfl) (by kernel_rfl) (by decide +kernel) (by decide) z42
end Go.Proofs.Y
namespace Go.Proofs.Y
open Go.Rb Go.Kx
noncomputable def VS : Code := zj Tryz.f136
noncomputable def VT : FuncId → Option GS := tabG [(64, ZX), (161, z05), (131, Y6)]
theorem z44 : ΓOK Tryz.prog VT := z8 (ZQ) (z8 (z43) (z8 (Yr) (zg)))
def VU : HT := ⟨tabL [(5, .it [] (dyn [.t 0 (.sl 4 (.one .bool)), .a 6 73 (.cons (.int .i64) (.one (.int .i64))), .t 23 (.int .i64)]))], tabH []⟩
abbrev YD : List IT := [.v (.one (.sl 4 (.one .bool))) false, .v (.one (.int .i64)) false]
abbrev Vx : List OT := [⟨.one (.sl 73 (.cons (.int .i64) (.one (.int .i64)))), false, []⟩, ⟨.one (.int .i64), false, []⟩]
set_option maxRecDepth 100000
noncomputable def yp : List Bool → Int → Option (List (Int × Int) × Int) := fun a b => z6 (zl b 0 40) fun y => ifB (notB y) (some ([], 2)) (zi maxR (fun (x : List Bool × Int × List (Int × Int)) => ifB (ltI x.2.1 b) (z6 (yj x.1) fun y => ifB (neI y.2.2 0) (mapO Sum.inr (some ([], y.2.2))) (z6 (yj y.2.1) fun y_1 => ifB (neI y_1.2.2 0) (mapO Sum.inr (some ([], y_1.2.2))) (ifB (ltL x.2.1 x.2.2) (z6 (atN x.2.2 (natI x.2.1)) fun y_2 => ifB (ltL (wadd .i64 x.2.1 1) x.2.2) (z6 (atN x.2.2 (natI (wadd .i64 x.2.1 1))) fun y_3 => z6 (zE (wadd .i64 (wsub .i64 (wmul .i64 2 y_3.1) y_2.1) y.1, wadd .i64 y_3.2 y_1.1)) fun y_4 => ifB (neI y_4 0) (mapO Sum.inr (some ([], y_4))) (ifB (gtI x.2.1 0) (ifB (leI (wadd .i64 (wsub .i64 (wmul .i64 2 y_3.1) y_2.1) y.1) y_3.1) (mapO Sum.inr (some ([], 7))) (ifB (zf 16 x.2.2 [(wadd .i64 (wsub .i64 (wmul .i64 2 y_3.1) y_2.1) y.1, wadd .i64 y_3.2 y_1.1)]) (some (Sum.inl (y_1.2.1, wadd .i64 x.2.1 1, cat x.2.2 [(wadd .i64 (wsub .i64 (wmul .i64 2 y_3.1) y_2.1) y.1, wadd .i64 y_3.2 y_1.1)]))) none)) (ifB (zf 16 x.2.2 [(wadd .i64 (wsub .i64 (wmul .i64 2 y_3.1) y_2.1) y.1, wadd .i64 y_3.2 y_1.1)]) (some (Sum.inl (y_1.2.1, wadd .i64 x.2.1 1, cat x.2.2 [(wadd .i64 (wsub .i64 (wmul .i64 2 y_3.1) y_2.1) y.1, wadd .i64 y_3.2 y_1.1)]))) none))) none) none))) (mapO Sum.inr (ifB (gtI (lenI x.1) 0) (some ([], 8)) (ifB (in1 x.2.2 2) (ifB (inN x.2.2 (addN 0 (natI 2)) (Zd (lenN x.2.2) 2)) (some (subN x.2.2 (addN 0 (natI 2)) (Zd (lenN x.2.2) 2), 0)) none) none)))) (a, 0, [(0, 0), (0, 0)]))
theorem z2m (x : PI YD) : yp (x.1) (x.2) = fnE T VT VU VS (zt Tryz.f136) YD Vx x := by kernel_rfl
noncomputable abbrev VV : GS := zw false YD Vx fun x => yp (x.1) (x.2)
theorem z2n : GSOK Tryz.prog 136 VV := zm tok z44 fmo (Ht := VU) (fn := Tryz.f136) (Tryz.func136) (c := VS) (by kernel_rfl) (by kernel_rfl) (by kernel_rfl) (by decide +kernel) (by decide) z2m
end Go.Proofs.Y
namespace Go.Proofs.Y
open Go.Rb Go.Kx
noncomputable def Jq : Code := zj Tryz.f105
noncomputable def Jr : FuncId → Option GS := tabG [(136, VV)]
theorem z64 : ΓOK Tryz.prog Jr := z8 (z2n) (zg)
def Js : HT := ⟨tabL [], tabH []⟩
abbrev vj : List IT := [.v (.cons (.int .i64) (.cons (.int .i64) (.cons (.int .i64) (.one (.sl 4 (.one .bool)))))) true]
abbrev jP : List OT := [⟨.one (.sl 73 (.cons (.int .i64) (.one (.int .i64)))), false, []⟩, ⟨.one (.int .i64), false, []⟩]
set_option maxRecDepth 100000
noncomputable def ZY : Int × Int × Int × List Bool → Option (List (Int × Int) × Int) := fun a => z6 (yp a.2.2.2 a.1) fun y => ifB (eqI y.2 0) (ifB (eqI (lenI y.1) 0) (some ([], 4)) (z6 (atI y.1 0) fun y_1 => ifB (neI a.2.1 y_1.1) (some ([], 4)) (z6 (atI y.1 (wsub .i64 (lenI y.1) 1)) fun y_2 => ifB (neI a.2.2.1 y_2.1) (some ([], 4)) (ifB (neI y.2 0) (some ([], y.2)) (some (y.1, 0)))))) (ifB (neI y.2 0) (some ([], y.2)) (some (y.1, 0)))
theorem z3t (x : PI vj) : ZY x = fnE T Jr Js Jq (zt Tryz.f105) vj jP x := by kernel_rfl
noncomputable abbrev vE : GS := zw false vj jP fun x => ZY x
theorem Vy : GSOK Tryz.prog 105 vE := zm tok z64 fmo (Ht := Js) (fn := Tryz.f105) (Tryz.func105) (c := Jq) (by kernel_rfl) (by kernel_rfl) (by kernel_rfl) (by decide +kernel) (by decide) z3t
end Go.Proofs.Y
namespace Go.Proofs.Y
open Go.Rb Go.Kx
noncomputable def Vz : Code := zj Tryz.f106
noncomputable def VA : FuncId → Option GS := tabG [(131, Y6)]
theorem z3u : ΓOK Tryz.prog VA := z8 (Yr) (zg)
def VB : HT := ⟨tabL [(5, .it [] (dyn [.t 3 (.int .i64), .t 12 (.int .i64)]))], tabH []⟩
abbrev Yw : List IT := [.v (.one (.sl 73 (.cons (.int .i64) (.one (.int .i64))))) false]
abbrev Vi : List OT := [⟨.one (.int .i64), false, []⟩]
set_option maxRecDepth 100000
noncomputable def ZZ : List (Int × Int) → Option Int := fun a => ifB (gtI (lenI a) 40) (some 2) (zi maxR (fun (x : Int × Int) => ifB (ltI x.2 (lenI a)) (z6 (atI a x.2) fun y => z6 (zE (y.1, y.2)) fun y_1 => ifB (neI y_1 0) (mapO Sum.inr (some y_1)) (ifB (leI y.1 x.1) (mapO Sum.inr (some 7)) (some (Sum.inl (y.1, wadd .i64 x.2 1))))) (mapO Sum.inr (some 0))) (-1, 0))
theorem z1H (x : PI Yw) : ZZ x = fnE T VA VB Vz (zt Tryz.f106) Yw Vi x := by kernel_rfl
noncomputable abbrev YE : GS := zw false Yw Vi fun x => ZZ x
theorem vR : GSOK Tryz.prog 106 YE := zm tok z3u fmo (Ht := VB) (fn := Tryz.f106) (Tryz.func106) (c := Vz) (by kernel_rfl) (by kernel_rfl) (by kernel_rfl) (by decide +kernel) (by decide) z1H
end Go.Proofs.Y
namespace Go.Proofs.Y
open Go.Rb Go.Kx
noncomputable def jQ : Code := zj Tryz.f57
noncomputable def jR : FuncId → Option GS := tabG [(105, vE), (106, YE)]
theorem z4P : ΓOK Tryz.prog jR := z8 (Vy) (z8 (vR) (zg))
def jS : HT := ⟨tabL [(5, .it [] (dyn [.a 4 73 (.cons (.int .i64) (.one (.int .i64))), .t 17 (.int .i64)]))], tabH []⟩
abbrev YW : List IT := [.v (.cons (.sl 126 (.cons (.int .i64) (.cons (.int .i64) (.cons (.int .i64) (.one (.sl 4 (.one .bool))))))) (.one (.sl 73 (.cons (.int .i64) (.one (.int .i64)))))) true]
abbrev VW : List OT := [⟨.one (.sl 73 (.cons (.int .i64) (.one (.int .i64)))), false, []⟩, ⟨.one (.int .i64), false, []⟩]
set_option maxRecDepth 100000
noncomputable def Zv : List (Int × Int × Int × List Bool) × List (Int × Int) → Option (List (Int × Int) × Int) := fun a => ifB (gtI (lenI a.1) 8) (some ([], 2)) (zi maxR (fun (x : Int × List (Int × Int)) => ifB (ltI x.1 (lenI a.1)) (z6 (atI a.1 x.1) fun y => z6 (ZY (y.1, y.2.1, y.2.2.1, y.2.2.2)) fun y => ifB (neI y.2 0) (mapO Sum.inr (some ([], y.2))) (ifB (zf 16 x.2 y.1) (some (Sum.inl (wadd .i64 x.1 1, cat x.2 y.1))) none)) (mapO Sum.inr (ifB (zf 16 x.2 a.2) (z6 (ZZ (cat x.2 a.2)) fun y => ifB (neI y 0) (some ([], y)) (some (cat x.2 a.2, 0))) none))) (0, []))
theorem z2y (x : PI YW) : Zv x = fnE T jR jS jQ (zt Tryz.f57) YW VW x := by kernel_rfl
noncomputable abbrev vk : GS := zw false YW VW fun x => Zv x
theorem Vj : GSOK Tryz.prog 57 vk := zm tok z4P fmo (Ht := jS) (fn := Tryz.f57) (Tryz.func57) (c := jQ) (by kernel_rfl) (by kernel_rfl) (by kernel_rfl) (by decide +kernel) (by decide) z2y
end Go.Proofs.Y
namespace Go.Proofs.Y
open Go.Rb Go.Kx
set_option maxRecDepth 100000
end Go.Proofs.Y
namespace Go.Proofs.Y
open Go.Rb Go.Kx
noncomputable def zg5 : Code := zj Tryz.f137
noncomputable def zg6 : FuncId → Option GS := tabG []
theorem znv : ΓOK Tryz.prog zg6 := zg
def zg7 : HT := ⟨tabL [], tabH []⟩
abbrev z7B : List IT := [.v (.one (.sl 95 (.cons (.sl 126 (.cons (.int .i64) (.cons (.int .i64) (.cons (.int .i64) (.one (.sl 4 (.one .bool))))))) (.one (.sl 73 (.cons (.int .i64) (.one (.int .i64)))))))) false]
abbrev zdx : List OT := [⟨.one (.sl 95 (.cons (.sl 126 (.cons (.int .i64) (.cons (.int .i64) (.cons (.int .i64) (.one (.sl 4 (.one .bool))))))) (.one (.sl 73 (.cons (.int .i64) (.one (.int .i64))))))), false, [true]⟩]
set_option maxRecDepth 100000
noncomputable def Ye : List (List (Int × Int × Int × List Bool) × List (Int × Int)) → Option (List (List (Int × Int × Int × List Bool) × List (Int × Int))) := fun a => ifB (isE a) (ambO (some []) (ifB (zf 48 [] a) (some (cat [] a)) none)) (ifB (zf 48 [] a) (some (cat [] a)) none)
theorem ziw (x : PI z7B) : Ye x = fnE T zg6 zg7 zg5 (zt Tryz.f137) z7B zdx x := by kernel_rfl
noncomputable abbrev z06 : GS := zw false z7B zdx fun x => Ye x
theorem VX : GSOK Tryz.prog 137 z06 := zm tok znv fmo (Ht := zg7) (fn := Tryz.f137) (Tryz.func137) (c := zg5) (by kernel_rfl) (by kernel_rfl) (by kernel_rfl) (by decide +kernel) (by decide) ziw
end Go.Proofs.Y
namespace Go.Proofs.Y
open Go.Rb Go.Kx
noncomputable def zix : Code := zj Tryz.f139
noncomputable def ziy : FuncId → Option GS := tabG []
theorem zp0 : ΓOK Tryz.prog ziy := zg
def ziz : HT := ⟨tabL [], tabH []⟩
abbrev z9o : List IT := [.v (.one (.sl 73 (.cons (.int .i64) (.one (.int .i64))))) false]
abbrev zg8 : List OT := [⟨.one (.sl 73 (.cons (.int .i64) (.one (.int .i64)))), false, [true]⟩]
set_option maxRecDepth 100000
noncomputable def Zl : List (Int × Int) → Option (List (Int × Int)) := fun a => ifB (isE a) (ambO (some []) (ifB (zf 16 [] a) (some (cat [] a)) none)) (ifB (zf 16 [] a) (some (cat [] a)) none)
theorem zkx (x : PI z9o) : Zl x = fnE T ziy ziz zix (zt Tryz.f139) z9o zg8 x := by kernel_rfl
noncomputable abbrev z45 : GS := zw false z9o zg8 fun x => Zl x
theorem z29 : GSOK Tryz.prog 139 z45 := zm tok zp0 fmo (Ht := ziz) (fn := Tryz.f139) (Tryz.func139) (c := zix) (by kernel_rfl) (by kernel_rfl) (by kernel_rfl) (by decide +kernel) (by decide) zkx
end Go.Proofs.Y
namespace Go.Proofs.Y
open Go.Rb Go.Kx
noncomputable def z0P : Code := zj Tryz.f132
noncomputable def z0Q : FuncId → Option GS := tabG [(137, z06), (64, ZX), (139, z45), (57, vk)]
theorem z7C : ΓOK Tryz.prog z0Q := z8 (VX) (z8 (ZQ) (z8 (z29) (z8 (Vj) (zg))))
def z0R : HT := ⟨tabL [(5, .it [] (dyn [.t 21 (.int .i64), .a 6 95 (.cons (.sl 126 (.cons (.int .i64) (.cons (.int .i64) (.cons (.int .i64) (.one (.sl 4 (.one .bool))))))) (.one (.sl 73 (.cons (.int .i64) (.one (.int .i64)))))), .c 4 0 (.sl 95 (.cons (.sl 126 (.cons (.int .i64) (.cons (.int .i64) (.cons (.int .i64) (.one (.sl 4 (.one .bool))))))) (.one (.sl 73 (.cons (.int .i64) (.one (.int .i64)))))))]))], tabH [(5, [.touch 6])]⟩
abbrev vS : List IT := [.v (.one (.sl 95 (.cons (.sl 126 (.cons (.int .i64) (.cons (.int .i64) (.cons (.int .i64) (.one (.sl 4 (.one .bool))))))) (.one (.sl 73 (.cons (.int .i64) (.one (.int .i64)))))))) true, .v (.one (.sl 77 (.cons (.int .i64) (.cons (.int .i64) (.one (.int .i64)))))) false]
abbrev z07 : List OT := [⟨.one (.sl 95 (.cons (.sl 126 (.cons (.int .i64) (.cons (.int .i64) (.cons (.int .i64) (.one (.sl 4 (.one .bool))))))) (.one (.sl 73 (.cons (.int .i64) (.one (.int .i64))))))), true, []⟩, ⟨.one (.int .i64), false, []⟩]
set_option maxRecDepth 100000
noncomputable def Y7 : List (List (Int × Int × Int × List Bool) × List (Int × Int)) → List (Int × Int × Int) → Option (List (List (Int × Int × Int × List Bool) × List (Int × Int)) × Int) := fun a b => ifB (gtI (lenI b) 10) (some ([], 2)) (z6 (Ye a) fun y => zi maxR (fun (x : Int × List (List (Int × Int × Int × List Bool) × List (Int × Int)) × List (List (Int × Int × Int × List Bool) × List (Int × Int))) => ifB (ltI x.1 (lenI b)) (z6 (atI b x.1) fun y => z6 (zl y.1 0 3) fun y_1 => ifB (notB y_1) (mapO Sum.inr (some ([], 5))) (ifB (ltL y.1 x.2.2) (z6 (atN x.2.2 (natI y.1)) fun y_2 => z6 (Zl y_2.2) fun y_3 => ifB (zf 16 y_3 [(y.2.1, y.2.2)]) (z6 (Zv (y_2.1, cat y_3 [(y.2.1, y.2.2)])) fun y_4 => ifB (neI y_4.2 0) (mapO Sum.inr (some ([], y_4.2))) (ifB (ltL y.1 x.2.2) (z6 (atN x.2.2 (natI y.1)) fun y_5 => some (Sum.inl (wadd .i64 x.1 1, x.2.1, setN x.2.2 (natI y.1) (y_2.1, cat y_3 [(y.2.1, y.2.2)])))) none)) none) none)) (mapO Sum.inr (some (x.2.2, 0)))) (0, [], y))
theorem z4Q (x : PI vS) : Y7 (x.1) (x.2) = fnE T z0Q z0R z0P (zt Tryz.f132) vS z07 x := by kernel_rfl
noncomputable abbrev z0S : GS := zw false vS z07 fun x => Y7 (x.1) (x.2)
theorem z4R : GSOK Tryz.prog 132 z0S := zm tok z7C fmo (Ht := z0R) (fn := Tryz.f132) (Tryz.func132) (c := z0P) (by kernel_rfl) (by kernel_rfl) (by kernel_rfl) (by decide +kernel) (by decide) z4Q
end Go.Proofs.Y
namespace Go.Proofs.Y
open Go.Rb Go.Kx
noncomputable def ziA : Code := zj Tryz.f162
noncomputable def ziB : FuncId → Option GS := tabG []
theorem zp1 : ΓOK Tryz.prog ziB := zg
def ziC : HT := ⟨tabL [], tabH []⟩
abbrev z9p : List IT := [.v (.one (.sl 4 (.one .bool))) false]
abbrev zg9 : List OT := [⟨.one (.sl 4 (.one .bool)), false, [true]⟩]
set_option maxRecDepth 100000
noncomputable def JV : List Bool → Option (List Bool) := fun a => ifB (isE a) (ambO (some []) (ifB (zf 1 [] a) (some (cat [] a)) none)) (ifB (zf 1 [] a) (some (cat [] a)) none)
theorem zky (x : PI z9p) : JV x = fnE T ziB ziC ziA (zt Tryz.f162) z9p zg9 x := by kernel_rfl
noncomputable abbrev z7D : GS := zw false z9p zg9 fun x => JV x
theorem z65 : GSOK Tryz.prog 162 z7D := zm tok zp1 fmo (Ht := ziC) (fn := Tryz.f162) (Tryz.func162) (c := ziA) (by kernel_rfl) (by kernel_rfl) (by kernel_rfl) (by decide +kernel) (by decide) zky
end Go.Proofs.Y
namespace Go.Proofs.Y
open Go.Rb Go.Kx
noncomputable def z1u : Code := zj Tryz.f202
noncomputable def z1v : FuncId → Option GS := tabG [(64, ZX), (162, z7D)]
theorem z8U : ΓOK Tryz.prog z1v := z8 (ZQ) (z8 (z65) (zg))
def z1w : HT := ⟨tabL [(8, .it [] (dyn [.t 6 (.int .i64), .a 7 3 (.one (.int .i64)), .t 8 (.bool)])), (14, .it [] (dyn [.a 9 4 (.one .bool), .t 39 (.int .i64)]))], tabH []⟩
abbrev Va : List IT := [.v (.one (.sl 4 (.one .bool))) false, .v (.one (.int .i64)) false]
abbrev z0T : List OT := [⟨.one (.sl 4 (.one .bool)), false, []⟩, ⟨.one (.int .i64), false, []⟩]
set_option maxRecDepth 100000
noncomputable def zZ : List Bool → Int → Option (List Bool × Int) := fun a b => z6 (zl b (-4000000) 4000000) fun y => ifB (notB y) (some ([], 3)) (ifB (ltI b 0) (zi maxR (fun (x : Int × Bool × List Int) => ifB x.2.1 (ifB (zf 8 x.2.2 [wrem x.1 8]) (some (Sum.inl (wquo .i64 x.1 8, false, cat x.2.2 [wrem x.1 8]))) none) (ifB (gtI x.1 0) (ifB (zf 8 x.2.2 [wrem x.1 8]) (some (Sum.inl (wquo .i64 x.1 8, false, cat x.2.2 [wrem x.1 8]))) none) (mapO Sum.inr (z6 (JV a) fun y => zi maxR (fun (x_1 : Int × List Bool) => ifB (ltI x_1.1 (lenI x.2.2)) (ifB (ltL x_1.1 x.2.2) (z6 (atN x.2.2 (natI x_1.1)) fun y => ifB (zf 1 x_1.2 [ltI x_1.1 (wsub .i64 (lenI x.2.2) 1), geI y 4, geI (wrem y 4) 2, eqI (wrem y 2) 1]) (some (Sum.inl (wadd .i64 x_1.1 1, cat x_1.2 [ltI x_1.1 (wsub .i64 (lenI x.2.2) 1), geI y 4, geI (wrem y 4) 2, eqI (wrem y 2) 1]))) none) none) (mapO Sum.inr (some (x_1.2, 0)))) (0, y))))) (wsub .i64 (wmul .i64 2 (wneg .i64 b)) 1, true, [])) (zi maxR (fun (x : Int × Bool × List Int) => ifB x.2.1 (ifB (zf 8 x.2.2 [wrem x.1 8]) (some (Sum.inl (wquo .i64 x.1 8, false, cat x.2.2 [wrem x.1 8]))) none) (ifB (gtI x.1 0) (ifB (zf 8 x.2.2 [wrem x.1 8]) (some (Sum.inl (wquo .i64 x.1 8, false, cat x.2.2 [wrem x.1 8]))) none) (mapO Sum.inr (z6 (JV a) fun y => zi maxR (fun (x_1 : Int × List Bool) => ifB (ltI x_1.1 (lenI x.2.2)) (ifB (ltL x_1.1 x.2.2) (z6 (atN x.2.2 (natI x_1.1)) fun y => ifB (zf 1 x_1.2 [ltI x_1.1 (wsub .i64 (lenI x.2.2) 1), geI y 4, geI (wrem y 4) 2, eqI (wrem y 2) 1]) (some (Sum.inl (wadd .i64 x_1.1 1, cat x_1.2 [ltI x_1.1 (wsub .i64 (lenI x.2.2) 1), geI y 4, geI (wrem y 4) 2, eqI (wrem y 2) 1]))) none) none) (mapO Sum.inr (some (x_1.2, 0)))) (0, y))))) (wmul .i64 2 b, true, [])))
theorem z66 (x : PI Va) : zZ (x.1) (x.2) = fnE T z1v z1w z1u (zt Tryz.f202) Va z0T x := by kernel_rfl
noncomputable abbrev z1x : GS := zw false Va z0T fun x => zZ (x.1) (x.2)
theorem z67 : GSOK Tryz.prog 202 z1x := zm tok z8U fmo (Ht := z1w) (fn := Tryz.f202) (Tryz.func202) (c := z1u) (by kernel_rfl) (by kernel_rfl) (by kernel_rfl) (by decide +kernel) (by decide) z66
end Go.Proofs.Y
namespace Go.Proofs.Y
open Go.Rb Go.Kx
noncomputable def Jt : Code := zj Tryz.f179
noncomputable def Ju : FuncId → Option GS := tabG [(106, YE), (202, z1x)]
theorem z68 : ΓOK Tryz.prog Ju := z8 (vR) (z8 (z67) (zg))
def Jv : HT := ⟨tabL [(6, .it [] (dyn [.t 5 (.sl 4 (.one .bool)), .t 17 (.int .i64)]))], tabH []⟩
abbrev vl : List IT := [.v (.one (.sl 73 (.cons (.int .i64) (.one (.int .i64))))) false]
abbrev jT : List OT := [⟨.one (.sl 4 (.one .bool)), false, []⟩, ⟨.one (.int .i64), false, []⟩]
set_option maxRecDepth 100000
noncomputable def yN : List (Int × Int) → Option (List Bool × Int) := fun a => z6 (ZZ a) fun y => ifB (neI y 0) (some ([], y)) (zi maxR (fun (x : List Bool × Int) => ifB (ltI x.2 (lenI a)) (z6 (atI a x.2) fun y => ifB (gtI x.2 0) (z6 (atI a (wsub .i64 x.2 1)) fun y_1 => z6 (atI a (wsub .i64 x.2 1)) fun y_2 => ifB (gtI x.2 1) (z6 (atI a (wsub .i64 x.2 2)) fun y_3 => z6 (zZ x.1 (wadd .i64 (wsub .i64 y.1 (wmul .i64 2 y_2.1)) y_3.1)) fun y_4 => z6 (zZ y_4.1 (wsub .i64 y.2 y_1.2)) fun y => some (Sum.inl (y.1, wadd .i64 x.2 1))) (z6 (zZ x.1 (wsub .i64 y.1 (wmul .i64 2 y_2.1))) fun y_3 => z6 (zZ y_3.1 (wsub .i64 y.2 y_1.2)) fun y => some (Sum.inl (y.1, wadd .i64 x.2 1)))) (ifB (gtI x.2 1) (z6 (atI a (wsub .i64 x.2 2)) fun y_1 => z6 (zZ x.1 (wadd .i64 y.1 y_1.1)) fun y_2 => z6 (zZ y_2.1 y.2) fun y => some (Sum.inl (y.1, wadd .i64 x.2 1))) (z6 (zZ x.1 y.1) fun y_1 => z6 (zZ y_1.1 y.2) fun y => some (Sum.inl (y.1, wadd .i64 x.2 1))))) (mapO Sum.inr (some (x.1, 0)))) ([], 0))
theorem z3v (x : PI vl) : yN x = fnE T Ju Jv Jt (zt Tryz.f179) vl jT x := by kernel_rfl
noncomputable abbrev Jw : GS := zw false vl jT fun x => yN x
theorem z3w : GSOK Tryz.prog 179 Jw := zm tok z68 fmo (Ht := Jv) (fn := Tryz.f179) (Tryz.func179) (c := Jt) (by kernel_rfl) (by kernel_rfl) (by kernel_rfl) (by decide +kernel) (by decide) z3v
end Go.Proofs.Y
namespace Go.Proofs.Y
open Go.Rb Go.Kx
noncomputable def z08 : Code := zj Tryz.f158
noncomputable def z09 : FuncId → Option GS := tabG [(179, Jw)]
theorem z6F : ΓOK Tryz.prog z09 := z8 (z3w) (zg)
def z0a : HT := ⟨tabL [], tabH []⟩
abbrev vF : List IT := [.v (.one (.sl 73 (.cons (.int .i64) (.one (.int .i64))))) false]
abbrev Jx : List OT := [⟨.cons (.int .i64) (.cons (.int .i64) (.cons (.int .i64) (.one (.sl 4 (.one .bool))))), true, []⟩, ⟨.one (.int .i64), false, []⟩]
set_option maxRecDepth 100000
noncomputable def yk : List (Int × Int) → Option ((Int × Int × Int × List Bool) × Int) := fun a => z6 (yN a) fun y => ifB (eqI y.2 0) (ifB (eqI (lenI a) 0) (some ((0, 0, 0, []), 4)) (ifB (neI y.2 0) (some ((0, 0, 0, []), y.2)) (z6 (atI a 0) fun y_1 => z6 (atI a (wsub .i64 (lenI a) 1)) fun y_2 => some ((lenI a, y_1.1, y_2.1, y.1), 0)))) (ifB (neI y.2 0) (some ((0, 0, 0, []), y.2)) (z6 (atI a 0) fun y_1 => z6 (atI a (wsub .i64 (lenI a) 1)) fun y_2 => some ((lenI a, y_1.1, y_2.1, y.1), 0)))
theorem z47 (x : PI vF) : yk x = fnE T z09 z0a z08 (zt Tryz.f158) vF Jx x := by kernel_rfl
noncomputable abbrev vT : GS := zw false vF Jx fun x => yk x
theorem VY : GSOK Tryz.prog 158 vT := zm tok z6F fmo (Ht := z0a) (fn := Tryz.f158) (Tryz.func158) (c := z08) (by kernel_rfl) (by kernel_rfl) (by kernel_rfl) (by decide +kernel) (by decide) z47
end Go.Proofs.Y
namespace Go.Proofs.Y
open Go.Rb Go.Kx
noncomputable def zga : Code := zj Tryz.f138
noncomputable def zgb : FuncId → Option GS := tabG []
theorem znw : ΓOK Tryz.prog zgb := zg
def zgc : HT := ⟨tabL [], tabH []⟩
abbrev z7E : List IT := [.v (.one (.sl 126 (.cons (.int .i64) (.cons (.int .i64) (.cons (.int .i64) (.one (.sl 4 (.one .bool)))))))) false]
abbrev zdy : List OT := [⟨.one (.sl 126 (.cons (.int .i64) (.cons (.int .i64) (.cons (.int .i64) (.one (.sl 4 (.one .bool))))))), false, [true]⟩]
set_option maxRecDepth 100000
noncomputable def Za : List (Int × Int × Int × List Bool) → Option (List (Int × Int × Int × List Bool)) := fun a => ifB (isE a) (ambO (some []) (ifB (zf 48 [] a) (some (cat [] a)) none)) (ifB (zf 48 [] a) (some (cat [] a)) none)
theorem ziD (x : PI z7E) : Za x = fnE T zgb zgc zga (zt Tryz.f138) z7E zdy x := by kernel_rfl
noncomputable abbrev z5r : GS := zw false z7E zdy fun x => Za x
theorem z48 : GSOK Tryz.prog 138 z5r := zm tok znw fmo (Ht := zgc) (fn := Tryz.f138) (Tryz.func138) (c := zga) (by kernel_rfl) (by kernel_rfl) (by kernel_rfl) (by decide +kernel) (by decide) ziD
end Go.Proofs.Y
namespace Go.Proofs.Y
open Go.Rb Go.Kx
noncomputable def z0U : Code := zj Tryz.f133
noncomputable def z0V : FuncId → Option GS := tabG [(64, ZX), (137, z06), (158, vT), (138, z5r)]
theorem z7F : ΓOK Tryz.prog z0V := z8 (ZQ) (z8 (VX) (z8 (VY) (z8 (z48) (zg))))
def z0W : HT := ⟨tabL [], tabH []⟩
abbrev vU : List IT := [.v (.one (.sl 95 (.cons (.sl 126 (.cons (.int .i64) (.cons (.int .i64) (.cons (.int .i64) (.one (.sl 4 (.one .bool))))))) (.one (.sl 73 (.cons (.int .i64) (.one (.int .i64)))))))) true, .v (.one (.int .i64)) false, .v (.one (.int .i64)) false]
abbrev z0b : List OT := [⟨.one (.sl 95 (.cons (.sl 126 (.cons (.int .i64) (.cons (.int .i64) (.cons (.int .i64) (.one (.sl 4 (.one .bool))))))) (.one (.sl 73 (.cons (.int .i64) (.one (.int .i64))))))), true, []⟩, ⟨.one (.int .i64), false, []⟩]
set_option maxRecDepth 100000
noncomputable def Y8 : List (List (Int × Int × Int × List Bool) × List (Int × Int)) → Int → Int → Option (List (List (Int × Int × Int × List Bool) × List (Int × Int)) × Int) := fun a b c => z6 (zl b 0 3) fun y => ifB (notB y) (some ([], 5)) (z6 (Ye a) fun y => ifB (ltL b y) (z6 (atN y (natI b)) fun y_1 => z6 (zl c 1 (lenI y_1.2)) fun y_2 => ifB (notB y_2) (some ([], 3)) (ifB (geI (lenI y_1.1) 8) (some ([], 2)) (ifB (in1 y_1.2 c) (z6 (yk (YA y_1.2 c)) fun y_3 => z6 (Za y_1.1) fun y_4 => ifB (zf 48 y_4 [(y_3.1.1, y_3.1.2.1, y_3.1.2.2.1, y_3.1.2.2.2)]) (ifB (in1 y_1.2 c) (ifB (ltL b y) (z6 (atN y (natI b)) fun y_5 => some (setN y (natI b) (cat y_4 [(y_3.1.1, y_3.1.2.1, y_3.1.2.2.1, y_3.1.2.2.2)], yh y_1.2 c), 0)) none) none) none) none))) none)
theorem z4S (x : PI vU) : Y8 (x.1) (x.2.1) (x.2.2) = fnE T z0V z0W z0U (zt Tryz.f133) vU z0b x := by kernel_rfl
noncomputable abbrev z0X : GS := zw false vU z0b fun x => Y8 (x.1) (x.2.1) (x.2.2)
theorem z4T : GSOK Tryz.prog 133 z0X := zm tok z7F fmo (Ht := z0W) (fn := Tryz.f133) (Tryz.func133) (c := z0U) (by kernel_rfl) (by kernel_rfl) (by kernel_rfl) (by decide +kernel) (by decide) z4S
end Go.Proofs.Y
namespace Go.Proofs.Y
open Go.Rb Go.Kx
noncomputable def z0Y : Code := zj Tryz.f159
noncomputable def z0Z : FuncId → Option GS := tabG [(105, vE), (139, z45), (158, vT)]
theorem z7G : ΓOK Tryz.prog z0Z := z8 (Vy) (z8 (z29) (z8 (VY) (zg)))
def z10 : HT := ⟨tabL [], tabH []⟩
abbrev vV : List IT := [.v (.cons (.int .i64) (.cons (.int .i64) (.cons (.int .i64) (.one (.sl 4 (.one .bool)))))) true, .v (.cons (.int .i64) (.cons (.int .i64) (.cons (.int .i64) (.one (.sl 4 (.one .bool)))))) true]
abbrev z0c : List OT := [⟨.cons (.int .i64) (.cons (.int .i64) (.cons (.int .i64) (.one (.sl 4 (.one .bool))))), true, []⟩, ⟨.one (.int .i64), false, []⟩]
set_option maxRecDepth 100000
noncomputable def Y9 : Int × Int × Int × List Bool → Int × Int × Int × List Bool → Option ((Int × Int × Int × List Bool) × Int) := fun a b => z6 (ZY (a.1, a.2.1, a.2.2.1, a.2.2.2)) fun y => ifB (neI y.2 0) (some ((0, 0, 0, []), y.2)) (z6 (ZY (b.1, b.2.1, b.2.2.1, b.2.2.2)) fun y_1 => ifB (neI y_1.2 0) (some ((0, 0, 0, []), y_1.2)) (z6 (Zl y.1) fun y => ifB (zf 16 y y_1.1) (z6 (yk (cat y y_1.1)) fun y => some ((y.1.1, y.1.2.1, y.1.2.2.1, y.1.2.2.2), y.2)) none))
theorem z4U (x : PI vV) : Y9 (x.1) (x.2) = fnE T z0Z z10 z0Y (zt Tryz.f159) vV z0c x := by kernel_rfl
noncomputable abbrev z11 : GS := zw false vV z0c fun x => Y9 (x.1) (x.2)
theorem z4V : GSOK Tryz.prog 159 z11 := zm tok z7G fmo (Ht := z10) (fn := Tryz.f159) (Tryz.func159) (c := z0Y) (by kernel_rfl) (by kernel_rfl) (by kernel_rfl) (by decide +kernel) (by decide) z4U
end Go.Proofs.Y
namespace Go.Proofs.Y
open Go.Rb Go.Kx
noncomputable def ziE : Code := zj Tryz.f180
noncomputable def ziF : FuncId → Option GS := tabG []
theorem zp2 : ΓOK Tryz.prog ziF := zg
def ziG : HT := ⟨tabL [], tabH []⟩
noncomputable def ziH : GS := inl T ziF ziG ziE (zt Tryz.f180) (Tryz.f180.ntmps)
theorem zkz : GSOK Tryz.prog 180 ziH := yZ tok zp2 fmo (Ht := ziG) (fn := Tryz.f180) (Tryz.func180) (c := ziE) (by kernel_rfl) (by kernel_rfl) (by kernel_rfl)
end Go.Proofs.Y
namespace Go.Proofs.Y
open Go.Rb Go.Kx
noncomputable def zdz : Code := zj Tryz.f160
noncomputable def zdA : FuncId → Option GS := tabG [(180, ziH)]
theorem zmn : ΓOK Tryz.prog zdA := z8 (zkz) (zg)
def zdB : HT := ⟨tabL [(3, .it [] (dyn [.t 3 (.int .i64), .t 11 (.int .i64)])), (11, .it [] (dyn [.a 6 126 (.cons (.int .i64) (.cons (.int .i64) (.cons (.int .i64) (.one (.sl 4 (.one .bool)))))), .t 27 (.int .i64)]))], tabH [(10, [.trim 6])]⟩
abbrev z69 : List IT := [.v (.one (.sl 93 (.one (.sl 126 (.cons (.int .i64) (.cons (.int .i64) (.cons (.int .i64) (.one (.sl 4 (.one .bool)))))))))) false]
abbrev zbK : List OT := [⟨.one (.sl 126 (.cons (.int .i64) (.cons (.int .i64) (.cons (.int .i64) (.one (.sl 4 (.one .bool))))))), false, []⟩]
set_option maxRecDepth 100000
noncomputable def z3x : List (List (Int × Int × Int × List Bool)) → Option (List (Int × Int × Int × List Bool)) := fun a => zi maxR (fun (x : Int × Int) => ifB (ltI x.2 (lenI a)) (z6 (atI a x.2) fun y => ifB (ltI (wadd .i64 x.1 (lenI y)) 0) none (some (Sum.inl (wadd .i64 x.1 (lenI y), wadd .i64 x.2 1)))) (mapO Sum.inr (ifB (ltI x.1 0) none (ifB (gtI (wsub .i64 x.1 (wsub .i64 0 0)) 0) (ifB (z0G 48 (wsub .i64 x.1 (wsub .i64 0 0))) (ifB (in1 (repI (wsub .i64 x.1 (wsub .i64 0 0)) ((0, 0, 0, []) : Int × Int × Int × List Bool)) 0) (ifB (inN (repI (wsub .i64 x.1 (wsub .i64 0 0)) ((0, 0, 0, []) : Int × Int × Int × List Bool)) 0 (natI 0)) (zi maxR (fun (x : Int × List (Int × Int × Int × List Bool)) => ifB (ltI x.1 (lenI a)) (z6 (atI a x.1) fun y => ifB (zf 48 x.2 y) (some (Sum.inl (wadd .i64 x.1 1, cat x.2 y))) none) (mapO Sum.inr (some x.2))) (0, subN (repI (wsub .i64 x.1 (wsub .i64 0 0)) ((0, 0, 0, []) : Int × Int × Int × List Bool)) 0 (natI 0))) none) none) none) (zi maxR (fun (x : Int × List (Int × Int × Int × List Bool)) => ifB (ltI x.1 (lenI a)) (z6 (atI a x.1) fun y => ifB (zf 48 x.2 y) (some (Sum.inl (wadd .i64 x.1 1, cat x.2 y))) none) (mapO Sum.inr (some x.2))) (0, [])))))) (0, 0)
theorem zh8 (x : PI z69) : z3x x = fnE T zdA zdB zdz (zt Tryz.f160) z69 zbK x := by kernel_rfl
noncomputable abbrev zdC : GS := zw false z69 zbK fun x => z3x x
theorem zh9 : GSOK Tryz.prog 160 zdC := zm tok zmn fmo (Ht := zdB) (fn := Tryz.f160) (Tryz.func160) (c := zdz) (by kernel_rfl) (by kernel_rfl) (by kernel_rfl) (by decide +kernel) (by decide) zh8
end Go.Proofs.Y
namespace Go.Proofs.Y
open Go.Rb Go.Kx
noncomputable def jU : Code := zj Tryz.f134
noncomputable def jV : FuncId → Option GS := tabG [(64, ZX), (137, z06), (159, z11), (160, zdC)]
theorem z4W : ΓOK Tryz.prog jV := z8 (ZQ) (z8 (VX) (z8 (z4V) (z8 (zh9) (zg))))
def jW : HT := ⟨tabL [], tabH []⟩
abbrev YX : List IT := [.v (.one (.sl 95 (.cons (.sl 126 (.cons (.int .i64) (.cons (.int .i64) (.cons (.int .i64) (.one (.sl 4 (.one .bool))))))) (.one (.sl 73 (.cons (.int .i64) (.one (.int .i64)))))))) true, .v (.one (.int .i64)) false, .v (.one (.int .i64)) false]
abbrev VZ : List OT := [⟨.one (.sl 95 (.cons (.sl 126 (.cons (.int .i64) (.cons (.int .i64) (.cons (.int .i64) (.one (.sl 4 (.one .bool))))))) (.one (.sl 73 (.cons (.int .i64) (.one (.int .i64))))))), true, []⟩, ⟨.one (.int .i64), false, []⟩]
set_option maxRecDepth 100000
noncomputable def yE : List (List (Int × Int × Int × List Bool) × List (Int × Int)) → Int → Int → Option (List (List (Int × Int × Int × List Bool) × List (Int × Int)) × Int) := fun a b c => z6 (zl b 0 3) fun y => ifB (notB y) (some ([], 5)) (z6 (Ye a) fun y => ifB (ltL b y) (z6 (atN y (natI b)) fun y_1 => ifB (ltI c 0) (some ([], 3)) (ifB (leI (wadd .i64 c 1) 0) (some ([], 3)) (ifB (geI (wadd .i64 c 1) (lenI y_1.1)) (some ([], 3)) (z6 (atI y_1.1 c) fun y_2 => z6 (atI y_1.1 (wadd .i64 c 1)) fun y_3 => z6 (Y9 (y_2.1, y_2.2.1, y_2.2.2.1, y_2.2.2.2) (y_3.1, y_3.2.1, y_3.2.2.1, y_3.2.2.2)) fun y_4 => ifB (neI y_4.2 0) (some ([], y_4.2)) (ifB (in1 y_1.1 c) (ifB (in1 y_1.1 (wadd .i64 c 2)) (z6 (z3x [YA y_1.1 c, [(y_4.1.1, y_4.1.2.1, y_4.1.2.2.1, y_4.1.2.2.2)], yh y_1.1 (wadd .i64 c 2)]) fun y_5 => ifB (ltL b y) (z6 (atN y (natI b)) fun y_6 => some (setN y (natI b) (y_5, y_1.2), 0)) none) none) none))))) none)
theorem z2z (x : PI YX) : yE (x.1) (x.2.1) (x.2.2) = fnE T jV jW jU (zt Tryz.f134) YX VZ x := by kernel_rfl
noncomputable abbrev jX : GS := zw false YX VZ fun x => yE (x.1) (x.2.1) (x.2.2)
theorem z2A : GSOK Tryz.prog 134 jX := zm tok z4W fmo (Ht := jW) (fn := Tryz.f134) (Tryz.func134) (c := jU) (by kernel_rfl) (by kernel_rfl) (by kernel_rfl) (by decide +kernel) (by decide) z2z
end Go.Proofs.Y
namespace Go.Proofs.Y
open Go.Rb Go.Kx
noncomputable def z0d : Code := zj Tryz.f135
noncomputable def z0e : FuncId → Option GS := tabG [(64, ZX)]
theorem z6G : ΓOK Tryz.prog z0e := z8 (ZQ) (zg)
def z0f : HT := ⟨tabL [(5, .it [] (dyn [.t 19 (.int .i64), .b 6 0 95 (.cons (.sl 126 (.cons (.int .i64) (.cons (.int .i64) (.cons (.int .i64) (.one (.sl 4 (.one .bool))))))) (.one (.sl 73 (.cons (.int .i64) (.one (.int .i64))))))])), (9, .it [] (dyn [.t 29 (.int .i64), .b 9 0 126 (.cons (.int .i64) (.cons (.int .i64) (.cons (.int .i64) (.one (.sl 4 (.one .bool))))))]))], tabH []⟩
abbrev vG : List IT := [.v (.one (.sl 95 (.cons (.sl 126 (.cons (.int .i64) (.cons (.int .i64) (.cons (.int .i64) (.one (.sl 4 (.one .bool))))))) (.one (.sl 73 (.cons (.int .i64) (.one (.int .i64)))))))) true, .v (.one (.int .i64)) false]
abbrev Jy : List OT := [⟨.one (.sl 95 (.cons (.sl 126 (.cons (.int .i64) (.cons (.int .i64) (.cons (.int .i64) (.one (.sl 4 (.one .bool))))))) (.one (.sl 73 (.cons (.int .i64) (.one (.int .i64))))))), true, []⟩, ⟨.one (.int .i64), false, []⟩]
set_option maxRecDepth 100000
noncomputable def Y0 : List (List (Int × Int × Int × List Bool) × List (Int × Int)) → Int → Option (List (List (Int × Int × Int × List Bool) × List (Int × Int)) × Int) := fun a b => z6 (zl b 0 100001) fun y => ifB (notB y) (some ([], 3)) (zi maxR (fun (x : Int × List (List (Int × Int × Int × List Bool) × List (Int × Int))) => ifB (ltI x.1 (lenI a)) (z6 (atI a x.1) fun y => zi maxR (fun (x_1 : Int × List (Int × Int × Int × List Bool)) => ifB (ltI x_1.1 (lenI y.1)) (z6 (atI y.1 x_1.1) fun y => ifB (geI y.2.2.1 b) (ifB (zf 48 x_1.2 [(y.1, y.2.1, y.2.2.1, y.2.2.2)]) (some (Sum.inl (wadd .i64 x_1.1 1, cat x_1.2 [(y.1, y.2.1, y.2.2.1, y.2.2.2)]))) none) (some (Sum.inl (wadd .i64 x_1.1 1, x_1.2)))) (mapO Sum.inr (ifB (zf 48 x.2 [(x_1.2, y.2)]) (some (Sum.inl (wadd .i64 x.1 1, cat x.2 [(x_1.2, y.2)]))) none))) (0, [])) (mapO Sum.inr (some (x.2, 0)))) (0, []))
theorem z49 (x : PI vG) : Y0 (x.1) (x.2) = fnE T z0e z0f z0d (zt Tryz.f135) vG Jy x := by kernel_rfl
noncomputable abbrev z0g : GS := zw false vG Jy fun x => Y0 (x.1) (x.2)
theorem z4a : GSOK Tryz.prog 135 z0g := zm tok z6G fmo (Ht := z0f) (fn := Tryz.f135) (Tryz.func135) (c := z0d) (by kernel_rfl) (by kernel_rfl) (by kernel_rfl) (by decide +kernel) (by decide) z49
end Go.Proofs.Y
namespace Go.Proofs.Y
open Go.Rb Go.Kx
noncomputable def z12 : Code := zj Tryz.f104
noncomputable def z13 : FuncId → Option GS := tabG [(132, z0S), (133, z0X), (134, jX), (135, z0g)]
theorem z7H : ΓOK Tryz.prog z13 := z8 (z4R) (z8 (z4T) (z8 (z2A) (z8 (z4a) (zg))))
def z14 : HT := ⟨tabL [], tabH []⟩
abbrev vW : List IT := [.v (.one (.sl 95 (.cons (.sl 126 (.cons (.int .i64) (.cons (.int .i64) (.cons (.int .i64) (.one (.sl 4 (.one .bool))))))) (.one (.sl 73 (.cons (.int .i64) (.one (.int .i64)))))))) true, .v (.cons (.int .i64) (.cons (.int .i64) (.cons (.int .i64) (.one (.sl 77 (.cons (.int .i64) (.cons (.int .i64) (.one (.int .i64))))))))) true]
abbrev z0h : List OT := [⟨.one (.sl 95 (.cons (.sl 126 (.cons (.int .i64) (.cons (.int .i64) (.cons (.int .i64) (.one (.sl 4 (.one .bool))))))) (.one (.sl 73 (.cons (.int .i64) (.one (.int .i64))))))), true, []⟩, ⟨.one (.int .i64), false, []⟩]
set_option maxRecDepth 100000
noncomputable def yB : List (List (Int × Int × Int × List Bool) × List (Int × Int)) → Int × Int × Int × List (Int × Int × Int) → Option (List (List (Int × Int × Int × List Bool) × List (Int × Int)) × Int) := fun a b => ifB (eqI b.1 1) (z6 (Y7 a b.2.2.2) fun y => some (y.1, y.2)) (ifB (eqI b.1 2) (z6 (Y8 a b.2.1 b.2.2.1) fun y => some (y.1, y.2)) (ifB (eqI b.1 3) (z6 (yE a b.2.1 b.2.2.1) fun y => some (y.1, y.2)) (z6 (Y0 a b.2.2.1) fun y => some (y.1, y.2))))
theorem z4X (x : PI vW) : yB (x.1) (x.2) = fnE T z13 z14 z12 (zt Tryz.f104) vW z0h x := by kernel_rfl
noncomputable abbrev z15 : GS := zw false vW z0h fun x => yB (x.1) (x.2)
theorem z4Y : GSOK Tryz.prog 104 z15 := zm tok z7H fmo (Ht := z14) (fn := Tryz.f104) (Tryz.func104) (c := z12) (by kernel_rfl) (by kernel_rfl) (by kernel_rfl) (by decide +kernel) (by decide) z4X
end Go.Proofs.Y
namespace Go.Proofs.Y
open Go.Rb Go.Kx
set_option maxRecDepth 100000
end Go.Proofs.Y
namespace Go.Proofs.Y
open Go.Rb Go.Kx
noncomputable def z0i : Code := zj Tryz.f56
noncomputable def z0j : FuncId → Option GS := tabG [(70, ziu), (103, vC), (104, z15)]
theorem z6H : ΓOK Tryz.prog z0j := z8 (zkw) (z8 (Vw) (z8 (z4Y) (zg)))
def z0k : HT := ⟨tabL [(5, .it [] (dyn [.t 17 (.int .i64), .c 2 0 (.sl 95 (.cons (.sl 126 (.cons (.int .i64) (.cons (.int .i64) (.cons (.int .i64) (.one (.sl 4 (.one .bool))))))) (.one (.sl 73 (.cons (.int .i64) (.one (.int .i64))))))), .c 4 0 (.sl 95 (.cons (.sl 126 (.cons (.int .i64) (.cons (.int .i64) (.cons (.int .i64) (.one (.sl 4 (.one .bool))))))) (.one (.sl 73 (.cons (.int .i64) (.one (.int .i64)))))))]))], tabH []⟩
abbrev vH : List IT := [.v (.one (.sl 52 (.cons (.int .i64) (.cons (.int .i64) (.cons (.int .i64) (.one (.sl 77 (.cons (.int .i64) (.cons (.int .i64) (.one (.int .i64))))))))))) false]
abbrev Jz : List OT := [⟨.one (.sl 95 (.cons (.sl 126 (.cons (.int .i64) (.cons (.int .i64) (.cons (.int .i64) (.one (.sl 4 (.one .bool))))))) (.one (.sl 73 (.cons (.int .i64) (.one (.int .i64))))))), true, []⟩, ⟨.one (.int .i64), false, []⟩]
set_option maxRecDepth 100000
noncomputable def ZC : List (Int × Int × Int × List (Int × Int × Int)) → Option (List (List (Int × Int × Int × List Bool) × List (Int × Int)) × Int) := fun a => ifB (gtI (lenI a) 60) (some ([], 2)) (z6 z3X fun y => zi maxR (fun (x : Int × List (List (Int × Int × Int × List Bool) × List (Int × Int)) × List (List (Int × Int × Int × List Bool) × List (Int × Int))) => ifB (ltI x.1 (lenI a)) (z6 (atI a x.1) fun y => z6 (zu (y.1, y.2.1, y.2.2.1, y.2.2.2)) fun y_1 => ifB (neI y_1 0) (mapO Sum.inr (some ([], y_1))) (z6 (yB x.2.2 (y.1, y.2.1, y.2.2.1, y.2.2.2)) fun y => ifB (neI y.2 0) (mapO Sum.inr (some ([], y.2))) (some (Sum.inl (wadd .i64 x.1 1, x.2.1, y.1))))) (mapO Sum.inr (some (x.2.2, 0)))) (0, [], y))
theorem z4b (x : PI vH) : ZC x = fnE T z0j z0k z0i (zt Tryz.f56) vH Jz x := by kernel_rfl
noncomputable abbrev vX : GS := zw false vH Jz fun x => ZC x
theorem j5 : GSOK Tryz.prog 56 vX := zm tok z6H fmo (Ht := z0k) (fn := Tryz.f56) (Tryz.func56) (c := z0i) (by kernel_rfl) (by kernel_rfl) (by kernel_rfl) (by decide +kernel) (by decide) z4b
end Go.Proofs.Y
namespace Go.Proofs.Y
open Go.Rb Go.Kx
noncomputable def zbL : Code := zj Tryz.f197
noncomputable def zbM : FuncId → Option GS := tabG []
theorem zkA : ΓOK Tryz.prog zbM := zg
def zbN : HT := ⟨tabL [(7, .it [] (dyn [.t 6 (.int .i64), .t 23 (.int .i64)]))], tabH []⟩
abbrev z4c : List IT := [.v (.one (.sl 4 (.one .bool))) false, .v (.one (.int .i64)) false]
abbrev z9q : List OT := [⟨.one (.int .i64), false, []⟩, ⟨.one (.int .i64), false, []⟩]
set_option maxRecDepth 100000
noncomputable def JA : List Bool → Int → Option (Int × Int) := fun a b => ifB (ltI b 0) (some (0, 3)) (ifB (gtI b 40) (some (0, 3)) (ifB (ltI (lenI a) b) (some (0, 8)) (ifB (in1 a b) (zi maxR (fun (x : Int × Int) => ifB (ltI x.2 (lenI (YA a b))) (z6 (atI (YA a b) x.2) fun y => ifB y (some (Sum.inl (wadd .i64 (wmul .i64 x.1 2) 1, wadd .i64 x.2 1))) (some (Sum.inl (wmul .i64 x.1 2, wadd .i64 x.2 1)))) (mapO Sum.inr (some (x.1, 0)))) (0, 0)) none)))
theorem zfa (x : PI z4c) : JA (x.1) (x.2) = fnE T zbM zbN zbL (zt Tryz.f197) z4c z9q x := by kernel_rfl
noncomputable abbrev zbO : GS := zw false z4c z9q fun x => JA (x.1) (x.2)
theorem zfb : GSOK Tryz.prog 197 zbO := zm tok zkA fmo (Ht := zbN) (fn := Tryz.f197) (Tryz.func197) (c := zbL) (by kernel_rfl) (by kernel_rfl) (by kernel_rfl) (by decide +kernel) (by decide) zfa
end Go.Proofs.Y
namespace Go.Proofs.Y
open Go.Rb Go.Kx
noncomputable def zdD : Code := zj Tryz.f174
noncomputable def zdE : FuncId → Option GS := tabG [(197, zbO)]
theorem zmo : ΓOK Tryz.prog zdE := z8 (zfb) (zg)
def zdF : HT := ⟨tabL [(3, .it [] (dyn [.t 5 (.int .i64), .t 6 (.int .i64), .t 10 (.int .i64)]))], tabH []⟩
abbrev z6a : List IT := [.v (.one (.sl 4 (.one .bool))) false]
abbrev zbP : List OT := [⟨.one (.int .i64), false, []⟩, ⟨.one (.int .i64), false, []⟩, ⟨.one (.int .i64), false, []⟩]
set_option maxRecDepth 100000
noncomputable def jC : List Bool → Option (Int × Int × Int) := fun a => zi maxR (fun (x : Int × Int × Int) => ifB (ltI x.2.2 8) (ifB (in1 a (minI (lenI a) (wmul .i64 4 x.2.2))) (z6 (JA (yh a (minI (lenI a) (wmul .i64 4 x.2.2))) 4) fun y => ifB (neI y.2 0) (mapO Sum.inr (some (0, 0, y.2))) (ifB (eqI y.1 0) (ifB (gtI x.2.2 0) (mapO Sum.inr (some (0, 0, 4))) (ifB (gtI (wadd .i64 x.1 (wmul .i64 (wrem y.1 8) x.2.1)) 8000000) (mapO Sum.inr (some (0, 0, 3))) (ifB (ltI y.1 8) (ifB (eqI (wrem (wadd .i64 x.1 (wmul .i64 (wrem y.1 8) x.2.1)) 2) 1) (mapO Sum.inr (some (wquo .i64 (wneg .i64 (wadd .i64 (wadd .i64 x.1 (wmul .i64 (wrem y.1 8) x.2.1)) 1)) 2, wadd .i64 (wmul .i64 4 x.2.2) 4, 0))) (mapO Sum.inr (some (wquo .i64 (wadd .i64 x.1 (wmul .i64 (wrem y.1 8) x.2.1)) 2, wadd .i64 (wmul .i64 4 x.2.2) 4, 0)))) (some (Sum.inl (wadd .i64 x.1 (wmul .i64 (wrem y.1 8) x.2.1), wmul .i64 x.2.1 8, wadd .i64 x.2.2 1)))))) (ifB (gtI (wadd .i64 x.1 (wmul .i64 (wrem y.1 8) x.2.1)) 8000000) (mapO Sum.inr (some (0, 0, 3))) (ifB (ltI y.1 8) (ifB (eqI (wrem (wadd .i64 x.1 (wmul .i64 (wrem y.1 8) x.2.1)) 2) 1) (mapO Sum.inr (some (wquo .i64 (wneg .i64 (wadd .i64 (wadd .i64 x.1 (wmul .i64 (wrem y.1 8) x.2.1)) 1)) 2, wadd .i64 (wmul .i64 4 x.2.2) 4, 0))) (mapO Sum.inr (some (wquo .i64 (wadd .i64 x.1 (wmul .i64 (wrem y.1 8) x.2.1)) 2, wadd .i64 (wmul .i64 4 x.2.2) 4, 0)))) (some (Sum.inl (wadd .i64 x.1 (wmul .i64 (wrem y.1 8) x.2.1), wmul .i64 x.2.1 8, wadd .i64 x.2.2 1))))))) none) (mapO Sum.inr (some (0, 0, 3)))) (0, 1, 0)
theorem zha (x : PI z6a) : jC x = fnE T zdE zdF zdD (zt Tryz.f174) z6a zbP x := by kernel_rfl
noncomputable abbrev zdG : GS := zw false z6a zbP fun x => jC x
theorem zhb : GSOK Tryz.prog 174 zdG := zm tok zmo fmo (Ht := zdF) (fn := Tryz.f174) (Tryz.func174) (c := zdD) (by kernel_rfl) (by kernel_rfl) (by kernel_rfl) (by decide +kernel) (by decide) zha
end Go.Proofs.Y
namespace Go.Proofs.Y
open Go.Rb Go.Kx
noncomputable def z4d : Code := zj Tryz.f50
noncomputable def z9r : FuncId → Option GS := tabG []
theorem z9s : ΓOK Tryz.prog z9r := zg
def z4e : HT := ⟨tabL [(4, .it [] (dyn [.t 10 (.int .i64)]))], tabH []⟩
abbrev JP : List IT := [.v (.one (.sl 73 (.cons (.int .i64) (.one (.int .i64))))) false]
abbrev z2B : List OT := [⟨.one (.int .i64), false, []⟩]
set_option maxRecDepth 100000
noncomputable def Ys : List (Int × Int) → Option Int := fun a => ifB (gtI (lenI a) 40) (some 2) (zi maxR (fun (x : Int) => ifB (ltI x (lenI a)) (z6 (atI a x) fun y => ifB (ltI y.1 0) (mapO Sum.inr (some 3)) (ifB (gtI y.1 100000) (mapO Sum.inr (some 3)) (ifB (ltI y.2 (-1000000)) (mapO Sum.inr (some 3)) (ifB (gtI y.2 1000000) (mapO Sum.inr (some 3)) (ifB (gtI x 0) (z6 (atI a (wsub .i64 x 1)) fun y_1 => ifB (geI y_1.1 y.1) (mapO Sum.inr (some 7)) (some (Sum.inl (wadd .i64 x 1)))) (some (Sum.inl (wadd .i64 x 1)))))))) (mapO Sum.inr (some 0))) 0)
theorem z5s (x : PI JP) : Ys x = fnE T z9r z4e z4d (zt Tryz.f50) JP z2B x := by kernel_rfl
noncomputable abbrev z4f : GS := zw false JP z2B fun x => Ys x
theorem z5t : GSOK Tryz.prog 50 z4f := zm tok z9s fmo (Ht := z4e) (fn := Tryz.f50) (Tryz.func50) (c := z4d) (by kernel_rfl) (by kernel_rfl) (by kernel_rfl) (by decide +kernel) (by decide) z5s
noncomputable abbrev z9t : GS := zw true JP z2B fun x => Ys x
theorem zdH : GSOK Tryz.prog 50 z9t := zm tok z9s fmo (Ht := z4e) (fn := Tryz.f50) (Tryz.func50) (c := z4d) (by kernel_rfl) (by kernel_rfl) (by kernel_rfl) (by decide +kernel) (by decide) z5s
end Go.Proofs.Y
namespace Go.Proofs.Y
open Go.Rb Go.Kx
noncomputable def z89 : Code := zj Tryz.f153
noncomputable def z8a : FuncId → Option GS := tabG [(174, zdG), (50, z4f)]
theorem zhc : ΓOK Tryz.prog z8a := z8 (zhb) (z8 (z5t) (zg))
def z8b : HT := ⟨tabL [(7, .it [] (dyn [.t 0 (.sl 4 (.one .bool)), .a 6 73 (.cons (.int .i64) (.one (.int .i64))), .t 8 (.int .i64), .t 23 (.int .i64), .c 7 0 (.int .i64), .c 7 1 (.int .i64)]))], tabH []⟩
abbrev z1I : List IT := [.v (.one (.sl 4 (.one .bool))) false, .v (.one (.int .i64)) false]
abbrev z6I : List OT := [⟨.one (.sl 73 (.cons (.int .i64) (.one (.int .i64)))), false, []⟩, ⟨.one (.int .i64), false, []⟩]
set_option maxRecDepth 100000
noncomputable def Vk : List Bool → Int → Option (List (Int × Int) × Int) := fun a b => ifB (ltI b 0) (some ([], 2)) (ifB (gtI b 40) (some ([], 2)) (zi maxR (fun (x : List Bool × Int × Int × Int × Int × List (Int × Int)) => ifB (ltI x.2.2.1 b) (z6 (jC x.1) fun y => ifB (neI y.2.2 0) (mapO Sum.inr (some ([], y.2.2))) (ifB (in1 x.1 y.2.1) (z6 (jC (yh x.1 y.2.1)) fun y_1 => ifB (neI y_1.2.2 0) (mapO Sum.inr (some ([], y_1.2.2))) (ifB (in1 x.1 (wadd .i64 y.2.1 y_1.2.1)) (ifB (ifB (in2 x.2.2.2.2.2 (maxI 0 (wsub .i64 (lenI x.2.2.2.2.2) 1)) (lenI x.2.2.2.2.2)) (eqI (lenI x.2.2.2.2.2) (lenI x.2.2.2.2.2)) false) (ifB (ifB (inN x.2.2.2.2.2 (natI (maxI 0 (wsub .i64 (lenI x.2.2.2.2.2) 1))) (subI (maxI 0 (wsub .i64 (lenI x.2.2.2.2.2) 1)) (lenI x.2.2.2.2.2))) (zf 16 (subN x.2.2.2.2.2 (natI (maxI 0 (wsub .i64 (lenI x.2.2.2.2.2) 1))) (subI (maxI 0 (wsub .i64 (lenI x.2.2.2.2.2) 1)) (lenI x.2.2.2.2.2))) [(wadd .i64 (wadd .i64 x.2.2.2.1 x.2.1) y.1, wadd .i64 x.2.2.2.2.1 y_1.1)]) false) (ifB (fits (subI (maxI 0 (wsub .i64 (lenI x.2.2.2.2.2) 1)) (lenI x.2.2.2.2.2)) [(wadd .i64 (wadd .i64 x.2.2.2.1 x.2.1) y.1, wadd .i64 x.2.2.2.2.1 y_1.1)] (capN (lenN x.2.2.2.2.2) (natI (maxI 0 (wsub .i64 (lenI x.2.2.2.2.2) 1))))) none (z6 (Ys (cat (subN x.2.2.2.2.2 (natI (maxI 0 (wsub .i64 (lenI x.2.2.2.2.2) 1))) (subI (maxI 0 (wsub .i64 (lenI x.2.2.2.2.2) 1)) (lenI x.2.2.2.2.2))) [(wadd .i64 (wadd .i64 x.2.2.2.1 x.2.1) y.1, wadd .i64 x.2.2.2.2.1 y_1.1)])) fun y_2 => ifB (neI y_2 0) (mapO Sum.inr (some ([], y_2))) (ifB (zf 16 x.2.2.2.2.2 [(wadd .i64 (wadd .i64 x.2.2.2.1 x.2.1) y.1, wadd .i64 x.2.2.2.2.1 y_1.1)]) (some (Sum.inl (yh x.1 (wadd .i64 y.2.1 y_1.2.1), wsub .i64 (wadd .i64 (wadd .i64 x.2.2.2.1 x.2.1) y.1) x.2.2.2.1, wadd .i64 x.2.2.1 1, wadd .i64 (wadd .i64 x.2.2.2.1 x.2.1) y.1, wadd .i64 x.2.2.2.2.1 y_1.1, cat x.2.2.2.2.2 [(wadd .i64 (wadd .i64 x.2.2.2.1 x.2.1) y.1, wadd .i64 x.2.2.2.2.1 y_1.1)]))) none))) none) none) none)) none)) (mapO Sum.inr (ifB (gtI (lenI x.1) 0) (some ([], 8)) (some (x.2.2.2.2.2, 0))))) (a, 0, 0, 0, 0, [])))
theorem zcC (x : PI z1I) : Vk (x.1) (x.2) = fnE T z8a z8b z89 (zt Tryz.f153) z1I z6I x := by kernel_rfl
noncomputable abbrev z8c : GS := zw false z1I z6I fun x => Vk (x.1) (x.2)
theorem zcD : GSOK Tryz.prog 153 z8c := zm tok zhc fmo (Ht := z8b) (fn := Tryz.f153) (Tryz.func153) (c := z89) (by kernel_rfl) (by kernel_rfl) (by kernel_rfl) (by decide +kernel) (by decide) zcC
end Go.Proofs.Y
namespace Go.Proofs.Y
open Go.Rb Go.Kx
noncomputable def z6J : Code := zj Tryz.f126
noncomputable def z6K : FuncId → Option GS := tabG [(153, z8c)]
theorem zfc : ΓOK Tryz.prog z6K := z8 (zcD) (zg)
def z6L : HT := ⟨tabL [], tabH []⟩
abbrev z16 : List IT := [.v (.cons (.int .i64) (.cons (.int .i64) (.cons (.int .i64) (.one (.sl 4 (.one .bool)))))) true]
abbrev z5u : List OT := [⟨.one (.sl 73 (.cons (.int .i64) (.one (.int .i64)))), false, []⟩, ⟨.one (.int .i64), false, []⟩]
set_option maxRecDepth 100000
noncomputable def Yk : Int × Int × Int × List Bool → Option (List (Int × Int) × Int) := fun a => z6 (Vk a.2.2.2 a.1) fun y => ifB (neI y.2 0) (some ([], y.2)) (ifB (eqI (lenI y.1) 0) (some ([], 4)) (z6 (atI y.1 0) fun y_1 => ifB (neI y_1.1 a.2.1) (some ([], 4)) (z6 (atI y.1 (wsub .i64 (lenI y.1) 1)) fun y_2 => ifB (neI y_2.1 a.2.2.1) (some ([], 4)) (some (y.1, 0)))))
theorem zbq (x : PI z16) : Yk x = fnE T z6K z6L z6J (zt Tryz.f126) z16 z5u x := by kernel_rfl
noncomputable abbrev z1J : GS := zw false z16 z5u fun x => Yk x
theorem z38 : GSOK Tryz.prog 126 z1J := zm tok zfc fmo (Ht := z6L) (fn := Tryz.f126) (Tryz.func126) (c := z6J) (by kernel_rfl) (by kernel_rfl) (by kernel_rfl) (by decide +kernel) (by decide) zbq
end Go.Proofs.Y
namespace Go.Proofs.Y
open Go.Rb Go.Kx
noncomputable def z6b : Code := zj Tryz.f97
noncomputable def zbQ : FuncId → Option GS := tabG [(126, z1J), (50, z9t)]
theorem zbR : ΓOK Tryz.prog zbQ := z8 (z38) (z8 (zdH) (zg))
def z6c : HT := ⟨tabL [(5, .it [] (dyn [.a 4 73 (.cons (.int .i64) (.one (.int .i64))), .t 16 (.int .i64)]))], tabH []⟩
abbrev z17 : List IT := [.v (.cons (.sl 126 (.cons (.int .i64) (.cons (.int .i64) (.cons (.int .i64) (.one (.sl 4 (.one .bool))))))) (.one (.sl 73 (.cons (.int .i64) (.one (.int .i64)))))) true]
abbrev z4g : List OT := [⟨.one (.sl 73 (.cons (.int .i64) (.one (.int .i64)))), false, [true]⟩, ⟨.one (.int .i64), false, []⟩]
set_option maxRecDepth 100000
noncomputable def yd : List (Int × Int × Int × List Bool) × List (Int × Int) → Option (List (Int × Int) × Int) := fun a => ifB (gtI (lenI a.1) 8) (some ([], 2)) (zi maxR (fun (x : Int × List (Int × Int)) => ifB (ltI x.1 (lenI a.1)) (z6 (atI a.1 x.1) fun y => z6 (Yk (y.1, y.2.1, y.2.2.1, y.2.2.2)) fun y => ifB (neI y.2 0) (mapO Sum.inr (some ([], y.2))) (ifB (zf 16 x.2 y.1) (some (Sum.inl (wadd .i64 x.1 1, cat x.2 y.1))) none)) (mapO Sum.inr (ifB (zf 16 x.2 a.2) (z6 (Ys (cat x.2 a.2)) fun y => some (cat x.2 a.2, y)) none))) (0, []))
theorem z6M (x : PI z17) : yd x = fnE T zbQ z6c z6b (zt Tryz.f97) z17 z4g x := by kernel_rfl
noncomputable abbrev z6d : GS := zw false z17 z4g fun x => yd x
theorem z6N : GSOK Tryz.prog 97 z6d := zm tok zbR fmo (Ht := z6c) (fn := Tryz.f97) (Tryz.func97) (c := z6b) (by kernel_rfl) (by kernel_rfl) (by kernel_rfl) (by decide +kernel) (by decide) z6M
noncomputable abbrev zbS : GS := zw true z17 z4g fun x => yd x
theorem zfd : GSOK Tryz.prog 97 zbS := zm tok zbR fmo (Ht := z6c) (fn := Tryz.f97) (Tryz.func97) (c := z6b) (by kernel_rfl) (by kernel_rfl) (by kernel_rfl) (by decide +kernel) (by decide) z6M
end Go.Proofs.Y
namespace Go.Proofs.Y
open Go.Rb Go.Kx
noncomputable def z8d : Code := zj Tryz.f78
noncomputable def z8e : FuncId → Option GS := tabG [(97, z6d)]
theorem zhd : ΓOK Tryz.prog z8e := z8 (z6N) (zg)
def z8f : HT := ⟨tabL [(4, .it [] (dyn [.t 14 (.int .i64)]))], tabH []⟩
abbrev z1K : List IT := [.v (.one (.sl 95 (.cons (.sl 126 (.cons (.int .i64) (.cons (.int .i64) (.cons (.int .i64) (.one (.sl 4 (.one .bool))))))) (.one (.sl 73 (.cons (.int .i64) (.one (.int .i64)))))))) true]
abbrev z6O : List OT := [⟨.one (.int .i64), false, []⟩]
set_option maxRecDepth 100000
noncomputable def yw : List (List (Int × Int × Int × List Bool) × List (Int × Int)) → Option Int := fun a => ifB (neI (lenI a) 4) (some 4) (zi maxR (fun (x : Int) => ifB (ltI x (lenI a)) (z6 (atI a x) fun y => z6 (yd (y.1, y.2)) fun y => ifB (neI y.2 0) (mapO Sum.inr (some y.2)) (some (Sum.inl (wadd .i64 x 1)))) (mapO Sum.inr (some 0))) 0)
theorem zcE (x : PI z1K) : yw x = fnE T z8e z8f z8d (zt Tryz.f78) z1K z6O x := by kernel_rfl
noncomputable abbrev Yx : GS := zw false z1K z6O fun x => yw x
theorem Yl : GSOK Tryz.prog 78 Yx := zm tok zhd fmo (Ht := z8f) (fn := Tryz.f78) (Tryz.func78) (c := z8d) (by kernel_rfl) (by kernel_rfl) (by kernel_rfl) (by decide +kernel) (by decide) zcE
end Go.Proofs.Y
namespace Go.Proofs.Y
open Go.Rb Go.Kx
noncomputable def z9u : Code := zj Tryz.f140
noncomputable def z9v : FuncId → Option GS := tabG [(162, z7D)]
theorem ziI : ΓOK Tryz.prog z9v := z8 (z65) (zg)
def z9w : HT := ⟨tabL [], tabH []⟩
abbrev z2C : List IT := [.v (.cons (.int .i64) (.cons (.int .i64) (.cons (.int .i64) (.one (.sl 4 (.one .bool)))))) true]
abbrev z8g : List OT := [⟨.cons (.int .i64) (.cons (.int .i64) (.cons (.int .i64) (.one (.sl 4 (.one .bool))))), true, []⟩]
set_option maxRecDepth 100000
noncomputable def zO : Int × Int × Int × List Bool → Option (Int × Int × Int × List Bool) := fun a => z6 (JV a.2.2.2) fun y => some (a.1, a.2.1, a.2.2.1, y)
theorem zdI (x : PI z2C) : zO x = fnE T z9v z9w z9u (zt Tryz.f140) z2C z8g x := by kernel_rfl
noncomputable abbrev z4h : GS := zw false z2C z8g fun x => zO x
theorem z5v : GSOK Tryz.prog 140 z4h := zm tok ziI fmo (Ht := z9w) (fn := Tryz.f140) (Tryz.func140) (c := z9u) (by kernel_rfl) (by kernel_rfl) (by kernel_rfl) (by decide +kernel) (by decide) zdI
end Go.Proofs.Y
namespace Go.Proofs.Y
open Go.Rb Go.Kx
noncomputable def z9x : Code := zj Tryz.f107
noncomputable def z9y : FuncId → Option GS := tabG [(137, z06), (138, z5r), (139, z45), (140, z4h)]
theorem ziJ : ΓOK Tryz.prog z9y := z8 (VX) (z8 (z48) (z8 (z29) (z8 (z5v) (zg))))
def z9z : HT := ⟨tabL [(3, .unroll 5), (7, .it [] (dyn [.t 33 (.int .i64), .b 29 0 126 (.cons (.int .i64) (.cons (.int .i64) (.cons (.int .i64) (.one (.sl 4 (.one .bool))))))]))], tabH [(2, [.expl 1 0])]⟩
noncomputable def j6 : GS := inl T z9y z9z z9x (zt Tryz.f107) (Tryz.f107.ntmps)
theorem VC : GSOK Tryz.prog 107 j6 := yZ tok ziJ fmo (Ht := z9z) (fn := Tryz.f107) (Tryz.func107) (c := z9x) (by kernel_rfl) (by kernel_rfl) (by kernel_rfl)
end Go.Proofs.Y
namespace Go.Proofs.Y
open Go.Rb Go.Kx
noncomputable def zbT : Code := zj Tryz.f80
noncomputable def zbU : FuncId → Option GS := tabG [(78, Yx), (107, j6), (97, zbS)]
theorem zkB : ΓOK Tryz.prog zbU := z8 (Yl) (z8 (VC) (z8 (zfd) (zg)))
def zbV : HT := ⟨tabL [(8, .it [] (dyn [.t 26 (.int .i64), .q 2 0 1 73 (.cons (.int .i64) (.one (.int .i64))), .q 2 0 3 73 (.cons (.int .i64) (.one (.int .i64))), .q 2 0 5 73 (.cons (.int .i64) (.one (.int .i64))), .q 2 0 7 73 (.cons (.int .i64) (.one (.int .i64)))]))], tabH [(18, [.frzq 2 0 0, .frzq 2 0 1, .frzq 2 0 2, .frzq 2 0 3, .frzq 2 0 4, .frzq 2 0 5, .frzq 2 0 6, .frzq 2 0 7, .pack 2 0 (.cons (.sl 126 (.cons (.int .i64) (.cons (.int .i64) (.cons (.int .i64) (.one (.sl 4 (.one .bool))))))) (.one (.sl 73 (.cons (.int .i64) (.one (.int .i64))))))])]⟩
abbrev z4i : List IT := [.v (.one (.sl 95 (.cons (.sl 126 (.cons (.int .i64) (.cons (.int .i64) (.cons (.int .i64) (.one (.sl 4 (.one .bool))))))) (.one (.sl 73 (.cons (.int .i64) (.one (.int .i64)))))))) true, .v (.one (.sl 77 (.cons (.int .i64) (.cons (.int .i64) (.one (.int .i64)))))) false]
abbrev z9A : List OT := [⟨.one (.sl 95 (.cons (.sl 126 (.cons (.int .i64) (.cons (.int .i64) (.cons (.int .i64) (.one (.sl 4 (.one .bool))))))) (.one (.sl 73 (.cons (.int .i64) (.one (.int .i64))))))), true, []⟩, ⟨.one (.int .i64), false, []⟩]
set_option maxRecDepth 100000
noncomputable def JB : List (List (Int × Int × Int × List Bool) × List (Int × Int)) → List (Int × Int × Int) → Option (List (List (Int × Int × Int × List Bool) × List (Int × Int)) × Int) := fun a b => z6 (yw a) fun y => ifB (neI y 0) (some ([], y)) (ifB (gtI (lenI b) 10) (some ([], 2)) (z6 (Ye a) fun y => z6 (four y) fun (y : (List (Int × Int × Int × List Bool) × List (Int × Int)) × (List (Int × Int × Int × List Bool) × List (Int × Int)) × (List (Int × Int × Int × List Bool) × List (Int × Int)) × List (Int × Int × Int × List Bool) × List (Int × Int)) => z6 (Za y.1.1) fun y_1 => z6 (Zl y.1.2) fun y_2 => zi maxR (fun (x : Int × List (Int × Int × Int × List Bool)) => ifB (ltI x.1 (lenI y.1.1)) (z6 (atI y.1.1 x.1) fun y => z6 (zO (y.1, y.2.1, y.2.2.1, y.2.2.2)) fun y => ifB (ltL x.1 x.2) (z6 (atN x.2 (natI x.1)) fun y_3 => some (Sum.inl (wadd .i64 x.1 1, setN x.2 (natI x.1) (y.1, y.2.1, y.2.2.1, y.2.2.2)))) none) (mapO Sum.inr (z6 (Za y.2.1.1) fun y_3 => z6 (Zl y.2.1.2) fun y_4 => zi maxR (fun (x_1 : Int × List (Int × Int × Int × List Bool)) => ifB (ltI x_1.1 (lenI y.2.1.1)) (z6 (atI y.2.1.1 x_1.1) fun y => z6 (zO (y.1, y.2.1, y.2.2.1, y.2.2.2)) fun y => ifB (ltL x_1.1 x_1.2) (z6 (atN x_1.2 (natI x_1.1)) fun y_5 => some (Sum.inl (wadd .i64 x_1.1 1, setN x_1.2 (natI x_1.1) (y.1, y.2.1, y.2.2.1, y.2.2.2)))) none) (mapO Sum.inr (z6 (Za y.2.2.1.1) fun y_5 => z6 (Zl y.2.2.1.2) fun y_6 => zi maxR (fun (x_2 : Int × List (Int × Int × Int × List Bool)) => ifB (ltI x_2.1 (lenI y.2.2.1.1)) (z6 (atI y.2.2.1.1 x_2.1) fun y => z6 (zO (y.1, y.2.1, y.2.2.1, y.2.2.2)) fun y => ifB (ltL x_2.1 x_2.2) (z6 (atN x_2.2 (natI x_2.1)) fun y_7 => some (Sum.inl (wadd .i64 x_2.1 1, setN x_2.2 (natI x_2.1) (y.1, y.2.1, y.2.2.1, y.2.2.2)))) none) (mapO Sum.inr (z6 (Za y.2.2.2.1) fun y_7 => z6 (Zl y.2.2.2.2) fun y_8 => zi maxR (fun (x_3 : Int × List (Int × Int × Int × List Bool)) => ifB (ltI x_3.1 (lenI y.2.2.2.1)) (z6 (atI y.2.2.2.1 x_3.1) fun y => z6 (zO (y.1, y.2.1, y.2.2.1, y.2.2.2)) fun y => ifB (ltL x_3.1 x_3.2) (z6 (atN x_3.2 (natI x_3.1)) fun y_9 => some (Sum.inl (wadd .i64 x_3.1 1, setN x_3.2 (natI x_3.1) (y.1, y.2.1, y.2.2.1, y.2.2.2)))) none) (mapO Sum.inr (zi maxR (fun (x_4 : Int × List (Int × Int) × List (Int × Int) × List (Int × Int) × List (Int × Int)) => ifB (ltI x_4.1 (lenI b)) (z6 (atI b x_4.1) fun y => ifB (ltI y.1 0) (mapO Sum.inr (some ([], 5))) (ifB (geI y.1 4) (mapO Sum.inr (some ([], 5))) (ifB (eqI y.1 0) (ifB (zf 16 x_4.2.1 [(y.2.1, y.2.2)]) (z6 (yd (x.2, cat x_4.2.1 [(y.2.1, y.2.2)])) fun y_9 => ifB (neI y_9.2 0) (mapO Sum.inr (some ([], y_9.2))) (some (Sum.inl (wadd .i64 x_4.1 1, cat x_4.2.1 [(y.2.1, y.2.2)], x_4.2.2.1, x_4.2.2.2.1, x_4.2.2.2.2)))) none) (ifB (eqI y.1 1) (ifB (zf 16 x_4.2.2.1 [(y.2.1, y.2.2)]) (z6 (yd (x_1.2, cat x_4.2.2.1 [(y.2.1, y.2.2)])) fun y_9 => ifB (neI y_9.2 0) (mapO Sum.inr (some ([], y_9.2))) (some (Sum.inl (wadd .i64 x_4.1 1, x_4.2.1, cat x_4.2.2.1 [(y.2.1, y.2.2)], x_4.2.2.2.1, x_4.2.2.2.2)))) none) (ifB (eqI y.1 2) (ifB (zf 16 x_4.2.2.2.1 [(y.2.1, y.2.2)]) (z6 (yd (x_2.2, cat x_4.2.2.2.1 [(y.2.1, y.2.2)])) fun y_9 => ifB (neI y_9.2 0) (mapO Sum.inr (some ([], y_9.2))) (some (Sum.inl (wadd .i64 x_4.1 1, x_4.2.1, x_4.2.2.1, cat x_4.2.2.2.1 [(y.2.1, y.2.2)], x_4.2.2.2.2)))) none) (ifB (eqI y.1 3) (ifB (zf 16 x_4.2.2.2.2 [(y.2.1, y.2.2)]) (z6 (yd (x_3.2, cat x_4.2.2.2.2 [(y.2.1, y.2.2)])) fun y_9 => ifB (neI y_9.2 0) (mapO Sum.inr (some ([], y_9.2))) (some (Sum.inl (wadd .i64 x_4.1 1, x_4.2.1, x_4.2.2.1, x_4.2.2.2.1, cat x_4.2.2.2.2 [(y.2.1, y.2.2)])))) none) none)))))) (mapO Sum.inr (some ([(x.2, x_4.2.1), (x_1.2, x_4.2.2.1), (x_2.2, x_4.2.2.2.1), (x_3.2, x_4.2.2.2.2)], 0)))) (0, y_2, y_4, y_6, y_8)))) (0, y_7)))) (0, y_5)))) (0, y_3)))) (0, y_1)))
theorem zfe (x : PI z4i) : JB (x.1) (x.2) = fnE T zbU zbV zbT (zt Tryz.f80) z4i z9A x := by kernel_rfl
noncomputable abbrev zbW : GS := zw false z4i z9A fun x => JB (x.1) (x.2)
theorem zff : GSOK Tryz.prog 80 zbW := zm tok zkB fmo (Ht := zbV) (fn := Tryz.f80) (Tryz.func80) (c := zbT) (by kernel_rfl) (by kernel_rfl) (by kernel_rfl) (by decide +kernel) (by decide) zfe
end Go.Proofs.Y
namespace Go.Proofs.Y
open Go.Rb Go.Kx
noncomputable def zdJ : Code := zj Tryz.f183
noncomputable def zdK : FuncId → Option GS := tabG []
theorem zmp : ΓOK Tryz.prog zdK := zg
def zdL : HT := ⟨tabL [], tabH []⟩
abbrev z6e : List IT := [.v (.one (.int .i64)) false]
abbrev zbX : List OT := [⟨.one (.int .i64), false, []⟩]
set_option maxRecDepth 100000
noncomputable def z18 : Int → Option Int := fun a => ifB (ltI a 0) (some (wsub .i64 (wmul .i64 (-2) a) 1)) (some (wmul .i64 2 a))
theorem zhe (x : PI z6e) : z18 x = fnE T zdK zdL zdJ (zt Tryz.f183) z6e zbX x := by kernel_rfl
noncomputable abbrev zdM : GS := zw false z6e zbX fun x => z18 x
theorem zhf : GSOK Tryz.prog 183 zdM := zm tok zmp fmo (Ht := zdL) (fn := Tryz.f183) (Tryz.func183) (c := zdJ) (by kernel_rfl) (by kernel_rfl) (by kernel_rfl) (by decide +kernel) (by decide) zhe
end Go.Proofs.Y
namespace Go.Proofs.Y
open Go.Rb Go.Kx
noncomputable def zdN : Code := zj Tryz.f184
noncomputable def zdO : FuncId → Option GS := tabG [(162, z7D)]
theorem zmq : ΓOK Tryz.prog zdO := z8 (z65) (zg)
def zdP : HT := ⟨tabL [(5, .it [] (dyn [.a 0 4 (.one .bool), .t 8 (.int .i64)]))], tabH []⟩
abbrev z6f : List IT := [.v (.one (.sl 4 (.one .bool))) false, .v (.one (.int .i64)) false, .v (.one (.int .i64)) false]
abbrev zbY : List OT := [⟨.one (.sl 4 (.one .bool)), false, []⟩, ⟨.one (.int .i64), false, []⟩]
set_option maxRecDepth 100000
noncomputable def jD : List Bool → Int → Int → Option (List Bool × Int) := fun a b c => ifB (ltI c 0) (some ([], 3)) (ifB (gtI c 40) (some ([], 3)) (ifB (ltI b 0) (some ([], 3)) (ifB (ltI c 0) none (ifB (neI (wshr .i64 b c) 0) (some ([], 3)) (z6 (JV a) fun y => zi maxR (fun (x : Int × List Bool) => ifB (geI x.1 0) (ifB (ltI x.1 0) none (ifB (zf 1 x.2 [eqI (wand .i64 (wshr .i64 b x.1) 1) 1]) (some (Sum.inl (wsub .i64 x.1 1, cat x.2 [eqI (wand .i64 (wshr .i64 b x.1) 1) 1]))) none)) (mapO Sum.inr (some (x.2, 0)))) (wsub .i64 c 1, y))))))
theorem zhg (x : PI z6f) : jD (x.1) (x.2.1) (x.2.2) = fnE T zdO zdP zdN (zt Tryz.f184) z6f zbY x := by kernel_rfl
noncomputable abbrev zdQ : GS := zw false z6f zbY fun x => jD (x.1) (x.2.1) (x.2.2)
theorem zhh : GSOK Tryz.prog 184 zdQ := zm tok zmq fmo (Ht := zdP) (fn := Tryz.f184) (Tryz.func184) (c := zdN) (by kernel_rfl) (by kernel_rfl) (by kernel_rfl) (by decide +kernel) (by decide) zhg
end Go.Proofs.Y
namespace Go.Proofs.Y
open Go.Rb Go.Kx
noncomputable def zgd : Code := zj Tryz.f168
noncomputable def zge : FuncId → Option GS := tabG [(183, zdM), (184, zdQ)]
theorem znx : ΓOK Tryz.prog zge := z8 (zhf) (z8 (zhh) (zg))
def zgf : HT := ⟨tabL [(4, .it [] (dyn [.t 0 (.sl 4 (.one .bool)), .t 6 (.int .i64)]))], tabH []⟩
abbrev z7I : List IT := [.v (.one (.sl 4 (.one .bool))) false, .v (.one (.int .i64)) false]
abbrev zdR : List OT := [⟨.one (.sl 4 (.one .bool)), false, []⟩, ⟨.one (.int .i64), false, []⟩]
set_option maxRecDepth 100000
noncomputable def z0l : List Bool → Int → Option (List Bool × Int) := fun a b => ifB (ltI b (-4000000)) (some ([], 3)) (ifB (gtI b 4000000) (some ([], 3)) (z6 (z18 b) fun y => zi maxR (fun (x : List Bool × Int) => ifB (geI x.2 8) (z6 (jD x.1 (wadd .i64 8 (wrem x.2 8)) 4) fun y => some (Sum.inl (y.1, wquo .i64 x.2 8))) (z6 (jD x.1 (wadd .i64 0 (wrem x.2 8)) 4) fun y => mapO Sum.inr (some (y.1, 0)))) (a, y)))
theorem ziK (x : PI z7I) : z0l (x.1) (x.2) = fnE T zge zgf zgd (zt Tryz.f168) z7I zdR x := by kernel_rfl
noncomputable abbrev zgg : GS := zw false z7I zdR fun x => z0l (x.1) (x.2)
theorem ziL : GSOK Tryz.prog 168 zgg := zm tok znx fmo (Ht := zgf) (fn := Tryz.f168) (Tryz.func168) (c := zgd) (by kernel_rfl) (by kernel_rfl) (by kernel_rfl) (by decide +kernel) (by decide) ziK
end Go.Proofs.Y
namespace Go.Proofs.Y
open Go.Rb Go.Kx
noncomputable def zbZ : Code := zj Tryz.f145
noncomputable def zc0 : FuncId → Option GS := tabG [(50, z4f), (168, zgg)]
theorem zkC : ΓOK Tryz.prog zc0 := z8 (z5t) (z8 (ziL) (zg))
def zc1 : HT := ⟨tabL [(8, .it [] (dyn [.t 5 (.sl 4 (.one .bool)), .t 7 (.int .i64), .t 17 (.int .i64), .c 6 0 (.int .i64), .c 6 1 (.int .i64)]))], tabH []⟩
abbrev z4j : List IT := [.v (.one (.sl 73 (.cons (.int .i64) (.one (.int .i64))))) false]
abbrev z9B : List OT := [⟨.one (.sl 4 (.one .bool)), false, []⟩, ⟨.one (.int .i64), false, []⟩]
set_option maxRecDepth 100000
noncomputable def JC : List (Int × Int) → Option (List Bool × Int) := fun a => z6 (Ys a) fun y => ifB (neI y 0) (some ([], y)) (zi maxR (fun (x : List Bool × Int × Int × Int × Int) => ifB (ltI x.2.2.1 (lenI a)) (z6 (atI a x.2.2.1) fun y => z6 (z0l x.1 (wsub .i64 (wsub .i64 y.1 x.2.2.2.1) x.2.1)) fun y_1 => z6 (z0l y_1.1 (wsub .i64 y.2 x.2.2.2.2)) fun y_2 => some (Sum.inl (y_2.1, wsub .i64 y.1 x.2.2.2.1, wadd .i64 x.2.2.1 1, y.1, y.2))) (mapO Sum.inr (some (x.1, 0)))) ([], 0, 0, 0, 0))
theorem zfg (x : PI z4j) : JC x = fnE T zc0 zc1 zbZ (zt Tryz.f145) z4j z9B x := by kernel_rfl
noncomputable abbrev zc2 : GS := zw false z4j z9B fun x => JC x
theorem zfh : GSOK Tryz.prog 145 zc2 := zm tok zkC fmo (Ht := zc1) (fn := Tryz.f145) (Tryz.func145) (c := zbZ) (by kernel_rfl) (by kernel_rfl) (by kernel_rfl) (by decide +kernel) (by decide) zfg
end Go.Proofs.Y
namespace Go.Proofs.Y
open Go.Rb Go.Kx
noncomputable def z9C : Code := zj Tryz.f114
noncomputable def z9D : FuncId → Option GS := tabG [(145, zc2)]
theorem ziM : ΓOK Tryz.prog z9D := z8 (zfh) (zg)
def z9E : HT := ⟨tabL [], tabH []⟩
abbrev z2D : List IT := [.v (.one (.sl 73 (.cons (.int .i64) (.one (.int .i64))))) false]
abbrev z8h : List OT := [⟨.cons (.int .i64) (.cons (.int .i64) (.cons (.int .i64) (.one (.sl 4 (.one .bool))))), true, []⟩, ⟨.one (.int .i64), false, []⟩]
set_option maxRecDepth 100000
noncomputable def yO : List (Int × Int) → Option ((Int × Int × Int × List Bool) × Int) := fun a => z6 (JC a) fun y => ifB (neI y.2 0) (some ((0, 0, 0, []), y.2)) (ifB (eqI (lenI a) 0) (some ((0, 0, 0, []), 4)) (z6 (atI a 0) fun y_1 => z6 (atI a (wsub .i64 (lenI a) 1)) fun y_2 => some ((lenI a, y_1.1, y_2.1, y.1), 0)))
theorem zdS (x : PI z2D) : yO x = fnE T z9D z9E z9C (zt Tryz.f114) z2D z8h x := by kernel_rfl
noncomputable abbrev z4k : GS := zw false z2D z8h fun x => yO x
theorem z5w : GSOK Tryz.prog 114 z4k := zm tok ziM fmo (Ht := z9E) (fn := Tryz.f114) (Tryz.func114) (c := z9C) (by kernel_rfl) (by kernel_rfl) (by kernel_rfl) (by decide +kernel) (by decide) zdS
end Go.Proofs.Y
namespace Go.Proofs.Y
open Go.Rb Go.Kx
noncomputable def z9F : Code := zj Tryz.f81
noncomputable def z9G : FuncId → Option GS := tabG [(78, Yx), (107, j6), (114, z4k)]
theorem ziN : ΓOK Tryz.prog z9G := z8 (Yl) (z8 (VC) (z8 (z5w) (zg)))
def z9H : HT := ⟨tabL [], tabH [(16, [.frzq 3 0 0, .frzq 3 0 1, .frzq 3 0 2, .frzq 3 0 3, .frzq 3 0 4, .frzq 3 0 5, .frzq 3 0 6, .frzq 3 0 7, .pack 3 0 (.cons (.sl 126 (.cons (.int .i64) (.cons (.int .i64) (.cons (.int .i64) (.one (.sl 4 (.one .bool))))))) (.one (.sl 73 (.cons (.int .i64) (.one (.int .i64))))))])]⟩
abbrev z2E : List IT := [.v (.one (.sl 95 (.cons (.sl 126 (.cons (.int .i64) (.cons (.int .i64) (.cons (.int .i64) (.one (.sl 4 (.one .bool))))))) (.one (.sl 73 (.cons (.int .i64) (.one (.int .i64)))))))) true, .v (.one (.int .i64)) false, .v (.one (.int .i64)) false]
abbrev z8i : List OT := [⟨.one (.sl 95 (.cons (.sl 126 (.cons (.int .i64) (.cons (.int .i64) (.cons (.int .i64) (.one (.sl 4 (.one .bool))))))) (.one (.sl 73 (.cons (.int .i64) (.one (.int .i64))))))), true, []⟩, ⟨.one (.int .i64), false, []⟩]
set_option maxRecDepth 100000
noncomputable def j7 : List (List (Int × Int × Int × List Bool) × List (Int × Int)) → Int → Int → Option (List (List (Int × Int × Int × List Bool) × List (Int × Int)) × Int) := fun a b c => z6 (yw a) fun y => ifB (neI y 0) (some ([], y)) (ifB (ltI b 0) (some ([], 5)) (ifB (geI b (lenI a)) (some ([], 5)) (z6 (Ye a) fun y => z6 (four y) fun (y : (List (Int × Int × Int × List Bool) × List (Int × Int)) × (List (Int × Int × Int × List Bool) × List (Int × Int)) × (List (Int × Int × Int × List Bool) × List (Int × Int)) × List (Int × Int × Int × List Bool) × List (Int × Int)) => z6 (Za y.1.1) fun y_1 => z6 (Zl y.1.2) fun y_2 => zi maxR (fun (x : Int × List (Int × Int × Int × List Bool)) => ifB (ltI x.1 (lenI y.1.1)) (z6 (atI y.1.1 x.1) fun y => z6 (zO (y.1, y.2.1, y.2.2.1, y.2.2.2)) fun y => ifB (ltL x.1 x.2) (z6 (atN x.2 (natI x.1)) fun y_3 => some (Sum.inl (wadd .i64 x.1 1, setN x.2 (natI x.1) (y.1, y.2.1, y.2.2.1, y.2.2.2)))) none) (mapO Sum.inr (z6 (Za y.2.1.1) fun y_3 => z6 (Zl y.2.1.2) fun y_4 => zi maxR (fun (x_1 : Int × List (Int × Int × Int × List Bool)) => ifB (ltI x_1.1 (lenI y.2.1.1)) (z6 (atI y.2.1.1 x_1.1) fun y => z6 (zO (y.1, y.2.1, y.2.2.1, y.2.2.2)) fun y => ifB (ltL x_1.1 x_1.2) (z6 (atN x_1.2 (natI x_1.1)) fun y_5 => some (Sum.inl (wadd .i64 x_1.1 1, setN x_1.2 (natI x_1.1) (y.1, y.2.1, y.2.2.1, y.2.2.2)))) none) (mapO Sum.inr (z6 (Za y.2.2.1.1) fun y_5 => z6 (Zl y.2.2.1.2) fun y_6 => zi maxR (fun (x_2 : Int × List (Int × Int × Int × List Bool)) => ifB (ltI x_2.1 (lenI y.2.2.1.1)) (z6 (atI y.2.2.1.1 x_2.1) fun y => z6 (zO (y.1, y.2.1, y.2.2.1, y.2.2.2)) fun y => ifB (ltL x_2.1 x_2.2) (z6 (atN x_2.2 (natI x_2.1)) fun y_7 => some (Sum.inl (wadd .i64 x_2.1 1, setN x_2.2 (natI x_2.1) (y.1, y.2.1, y.2.2.1, y.2.2.2)))) none) (mapO Sum.inr (z6 (Za y.2.2.2.1) fun y_7 => z6 (Zl y.2.2.2.2) fun y_8 => zi maxR (fun (x_3 : Int × List (Int × Int × Int × List Bool)) => ifB (ltI x_3.1 (lenI y.2.2.2.1)) (z6 (atI y.2.2.2.1 x_3.1) fun y => z6 (zO (y.1, y.2.1, y.2.2.1, y.2.2.2)) fun y => ifB (ltL x_3.1 x_3.2) (z6 (atN x_3.2 (natI x_3.1)) fun y_9 => some (Sum.inl (wadd .i64 x_3.1 1, setN x_3.2 (natI x_3.1) (y.1, y.2.1, y.2.2.1, y.2.2.2)))) none) (mapO Sum.inr (ifB (eqI b 0) (ifB (ltI c 1) (some ([], 3)) (ifB (gtI c (lenI y_2)) (some ([], 3)) (ifB (eqI (lenI x.2) 8) (some ([], 2)) (ifB (in1 y_2 c) (ifB (inN y_2 0 (natI c)) (z6 (yO (subN y_2 0 (natI c))) fun y => ifB (neI y.2 0) (some ([], y.2)) (ifB (zf 48 x.2 [(y.1.1, y.1.2.1, y.1.2.2.1, y.1.2.2.2)]) (ifB (in1 y_2 c) (some ([(cat x.2 [(y.1.1, y.1.2.1, y.1.2.2.1, y.1.2.2.2)], yh y_2 c), (x_1.2, y_4), (x_2.2, y_6), (x_3.2, y_8)], 0)) none) none)) none) none)))) (ifB (eqI b 1) (ifB (ltI c 1) (some ([], 3)) (ifB (gtI c (lenI y_4)) (some ([], 3)) (ifB (eqI (lenI x_1.2) 8) (some ([], 2)) (ifB (in1 y_4 c) (ifB (inN y_4 0 (natI c)) (z6 (yO (subN y_4 0 (natI c))) fun y => ifB (neI y.2 0) (some ([], y.2)) (ifB (zf 48 x_1.2 [(y.1.1, y.1.2.1, y.1.2.2.1, y.1.2.2.2)]) (ifB (in1 y_4 c) (some ([(x.2, y_2), (cat x_1.2 [(y.1.1, y.1.2.1, y.1.2.2.1, y.1.2.2.2)], yh y_4 c), (x_2.2, y_6), (x_3.2, y_8)], 0)) none) none)) none) none)))) (ifB (eqI b 2) (ifB (ltI c 1) (some ([], 3)) (ifB (gtI c (lenI y_6)) (some ([], 3)) (ifB (eqI (lenI x_2.2) 8) (some ([], 2)) (ifB (in1 y_6 c) (ifB (inN y_6 0 (natI c)) (z6 (yO (subN y_6 0 (natI c))) fun y => ifB (neI y.2 0) (some ([], y.2)) (ifB (zf 48 x_2.2 [(y.1.1, y.1.2.1, y.1.2.2.1, y.1.2.2.2)]) (ifB (in1 y_6 c) (some ([(x.2, y_2), (x_1.2, y_4), (cat x_2.2 [(y.1.1, y.1.2.1, y.1.2.2.1, y.1.2.2.2)], yh y_6 c), (x_3.2, y_8)], 0)) none) none)) none) none)))) (ifB (eqI b 3) (ifB (ltI c 1) (some ([], 3)) (ifB (gtI c (lenI y_8)) (some ([], 3)) (ifB (eqI (lenI x_3.2) 8) (some ([], 2)) (ifB (in1 y_8 c) (ifB (inN y_8 0 (natI c)) (z6 (yO (subN y_8 0 (natI c))) fun y => ifB (neI y.2 0) (some ([], y.2)) (ifB (zf 48 x_3.2 [(y.1.1, y.1.2.1, y.1.2.2.1, y.1.2.2.2)]) (ifB (in1 y_8 c) (some ([(x.2, y_2), (x_1.2, y_4), (x_2.2, y_6), (cat x_3.2 [(y.1.1, y.1.2.1, y.1.2.2.1, y.1.2.2.2)], yh y_8 c)], 0)) none) none)) none) none)))) none)))))) (0, y_7)))) (0, y_5)))) (0, y_3)))) (0, y_1))))
theorem zdT (x : PI z2E) : j7 (x.1) (x.2.1) (x.2.2) = fnE T z9G z9H z9F (zt Tryz.f81) z2E z8i x := by kernel_rfl
noncomputable abbrev z9I : GS := zw false z2E z8i fun x => j7 (x.1) (x.2.1) (x.2.2)
theorem zdU : GSOK Tryz.prog 81 z9I := zm tok ziN fmo (Ht := z9H) (fn := Tryz.f81) (Tryz.func81) (c := z9F) (by kernel_rfl) (by kernel_rfl) (by kernel_rfl) (by decide +kernel) (by decide) zdT
end Go.Proofs.Y
namespace Go.Proofs.Y
open Go.Rb Go.Kx
noncomputable def zlw : Code := zj Tryz.f169
noncomputable def zlx : FuncId → Option GS := tabG []
theorem zqq : ΓOK Tryz.prog zlx := zg
def zly : HT := ⟨tabL [], tabH []⟩
noncomputable def zlz : GS := inl T zlx zly zlw (zt Tryz.f169) (Tryz.f169.ntmps)
theorem zmr : GSOK Tryz.prog 169 zlz := yZ tok zqq fmo (Ht := zly) (fn := Tryz.f169) (Tryz.func169) (c := zlw) (by kernel_rfl) (by kernel_rfl) (by kernel_rfl)
end Go.Proofs.Y
namespace Go.Proofs.Y
open Go.Rb Go.Kx
noncomputable def zgh : Code := zj Tryz.f146
noncomputable def zgi : FuncId → Option GS := tabG [(169, zlz)]
theorem zny : ΓOK Tryz.prog zgi := z8 (zmr) (zg)
def zgj : HT := ⟨tabL [(3, .it [] (dyn [.t 3 (.int .i64), .t 11 (.int .i64)])), (11, .it [] (dyn [.a 6 73 (.cons (.int .i64) (.one (.int .i64))), .t 27 (.int .i64)]))], tabH [(10, [.trim 6])]⟩
abbrev z7J : List IT := [.v (.one (.sl 65 (.one (.sl 73 (.cons (.int .i64) (.one (.int .i64))))))) false]
abbrev zdV : List OT := [⟨.one (.sl 73 (.cons (.int .i64) (.one (.int .i64)))), false, []⟩]
set_option maxRecDepth 100000
noncomputable def z5x : List (List (Int × Int)) → Option (List (Int × Int)) := fun a => zi maxR (fun (x : Int × Int) => ifB (ltI x.2 (lenI a)) (z6 (atI a x.2) fun y => ifB (ltI (wadd .i64 x.1 (lenI y)) 0) none (some (Sum.inl (wadd .i64 x.1 (lenI y), wadd .i64 x.2 1)))) (mapO Sum.inr (ifB (ltI x.1 0) none (ifB (gtI (wsub .i64 x.1 (wsub .i64 0 0)) 0) (ifB (z0G 16 (wsub .i64 x.1 (wsub .i64 0 0))) (ifB (in1 (repI (wsub .i64 x.1 (wsub .i64 0 0)) (0, 0)) 0) (ifB (inN (repI (wsub .i64 x.1 (wsub .i64 0 0)) (0, 0)) 0 (natI 0)) (zi maxR (fun (x : Int × List (Int × Int)) => ifB (ltI x.1 (lenI a)) (z6 (atI a x.1) fun y => ifB (zf 16 x.2 y) (some (Sum.inl (wadd .i64 x.1 1, cat x.2 y))) none) (mapO Sum.inr (some x.2))) (0, subN (repI (wsub .i64 x.1 (wsub .i64 0 0)) (0, 0)) 0 (natI 0))) none) none) none) (zi maxR (fun (x : Int × List (Int × Int)) => ifB (ltI x.1 (lenI a)) (z6 (atI a x.1) fun y => ifB (zf 16 x.2 y) (some (Sum.inl (wadd .i64 x.1 1, cat x.2 y))) none) (mapO Sum.inr (some x.2))) (0, [])))))) (0, 0)
theorem ziO (x : PI z7J) : z5x x = fnE T zgi zgj zgh (zt Tryz.f146) z7J zdV x := by kernel_rfl
noncomputable abbrev zgk : GS := zw false z7J zdV fun x => z5x x
theorem ziP : GSOK Tryz.prog 146 zgk := zm tok zny fmo (Ht := zgj) (fn := Tryz.f146) (Tryz.func146) (c := zgh) (by kernel_rfl) (by kernel_rfl) (by kernel_rfl) (by decide +kernel) (by decide) ziO
end Go.Proofs.Y
namespace Go.Proofs.Y
open Go.Rb Go.Kx
noncomputable def z8j : Code := zj Tryz.f115
noncomputable def z8k : FuncId → Option GS := tabG [(126, z1J), (146, zgk), (114, z4k)]
theorem zhi : ΓOK Tryz.prog z8k := z8 (z38) (z8 (ziP) (z8 (z5w) (zg)))
def z8l : HT := ⟨tabL [], tabH []⟩
abbrev z1L : List IT := [.v (.cons (.int .i64) (.cons (.int .i64) (.cons (.int .i64) (.one (.sl 4 (.one .bool)))))) true, .v (.cons (.int .i64) (.cons (.int .i64) (.cons (.int .i64) (.one (.sl 4 (.one .bool)))))) true]
abbrev z6P : List OT := [⟨.cons (.int .i64) (.cons (.int .i64) (.cons (.int .i64) (.one (.sl 4 (.one .bool))))), true, []⟩, ⟨.one (.int .i64), false, []⟩]
set_option maxRecDepth 100000
noncomputable def yV : Int × Int × Int × List Bool → Int × Int × Int × List Bool → Option ((Int × Int × Int × List Bool) × Int) := fun a b => z6 (Yk (a.1, a.2.1, a.2.2.1, a.2.2.2)) fun y => ifB (neI y.2 0) (some ((0, 0, 0, []), y.2)) (z6 (Yk (b.1, b.2.1, b.2.2.1, b.2.2.2)) fun y_1 => ifB (neI y_1.2 0) (some ((0, 0, 0, []), y_1.2)) (z6 (z5x [y.1, y_1.1]) fun y => z6 (yO y) fun y => some ((y.1.1, y.1.2.1, y.1.2.2.1, y.1.2.2.2), y.2)))
theorem zcF (x : PI z1L) : yV (x.1) (x.2) = fnE T z8k z8l z8j (zt Tryz.f115) z1L z6P x := by kernel_rfl
noncomputable abbrev z8m : GS := zw false z1L z6P fun x => yV (x.1) (x.2)
theorem zcG : GSOK Tryz.prog 115 z8m := zm tok zhi fmo (Ht := z8l) (fn := Tryz.f115) (Tryz.func115) (c := z8j) (by kernel_rfl) (by kernel_rfl) (by kernel_rfl) (by decide +kernel) (by decide) zcF
end Go.Proofs.Y
namespace Go.Proofs.Y
open Go.Rb Go.Kx
noncomputable def zgl : Code := zj Tryz.f116
noncomputable def zgm : FuncId → Option GS := tabG []
theorem znz : ΓOK Tryz.prog zgm := zg
def zgn : HT := ⟨tabL [], tabH []⟩
abbrev z7K : List WA := [.d (.int .i64), .d (.int .i64)]
abbrev zdW : List OT := [⟨.one (.sl 126 (.cons (.int .i64) (.cons (.int .i64) (.cons (.int .i64) (.one (.sl 4 (.one .bool))))))), false, []⟩]
set_option maxRecDepth 100000
noncomputable def vu : List (Int × Int × Int × List Bool) → Int → Int → Option (List (Int × Int × Int × List Bool)) := fun a b c => ifB (ifB (in2 a b c) (eqI (lenI a) (lenI a)) false) (ifB (eqI b c) (some a) (ifB (in1 a b) (ifB (in1 a c) (ifB (inN a (addN 0 (natI c)) (Zd (lenN a) c)) (ifB (inN a (addN 0 (natI b)) (lenN (subN a (addN 0 (natI c)) (Zd (lenN a) c)))) (ifB (in2C (addN (natI b) (lenN (subN a (addN 0 (natI c)) (Zd (lenN a) c)))) (capN (lenN (zI a (addN 0 (natI b)) (subN a (addN 0 (natI c)) (Zd (lenN a) c)))) 0) (intN (addN (natI b) (lenN (subN a (addN 0 (natI c)) (Zd (lenN a) c))))) (lenI a)) (ifB (inN (zI a (addN 0 (natI b)) (subN a (addN 0 (natI c)) (Zd (lenN a) c))) (addN 0 (natI (intN (addN (natI b) (lenN (subN a (addN 0 (natI c)) (Zd (lenN a) c))))))) (subI (intN (addN (natI b) (lenN (subN a (addN 0 (natI c)) (Zd (lenN a) c))))) (lenI a))) (ifB (inN (zI (zI a (addN 0 (natI b)) (subN a (addN 0 (natI c)) (Zd (lenN a) c))) (addN 0 (natI (intN (addN (natI b) (lenN (subN a (addN 0 (natI c)) (Zd (lenN a) c))))))) (repN (subI (intN (addN (natI b) (lenN (subN a (addN 0 (natI c)) (Zd (lenN a) c))))) (lenI a)) (0, 0, 0, []))) 0 (addN (natI b) (lenN (subN a (addN 0 (natI c)) (Zd (lenN a) c))))) (some (subN (zI (zI a (addN 0 (natI b)) (subN a (addN 0 (natI c)) (Zd (lenN a) c))) (addN 0 (natI (intN (addN (natI b) (lenN (subN a (addN 0 (natI c)) (Zd (lenN a) c))))))) (repN (subI (intN (addN (natI b) (lenN (subN a (addN 0 (natI c)) (Zd (lenN a) c))))) (lenI a)) (0, 0, 0, []))) 0 (addN (natI b) (lenN (subN a (addN 0 (natI c)) (Zd (lenN a) c)))))) none) none) none) none) none) none) none)) none
theorem ziQ (rows : List (DenR (.cons (.int .i64) (.cons (.int .i64) (.cons (.int .i64) (.one (.sl 4 (.one .bool)))))))) (x : PW z7K) : vu rows (x.1) (x.2.1) = fnM T zgm zgn zgl (zt Tryz.f116) 126 (.cons (.int .i64) (.cons (.int .i64) (.cons (.int .i64) (.one (.sl 4 (.one .bool)))))) z7K zdW rows x := by kernel_rfl
noncomputable abbrev zgo : GS := zn1 126 (.cons (.int .i64) (.cons (.int .i64) (.cons (.int .i64) (.one (.sl 4 (.one .bool)))))) z7K zdW fun rows x => vu rows (x.1) (x.2.1)
theorem ziR : GSOK Tryz.prog 116 zgo := zlr tok znz fmo (Ht := zgn) (fn := Tryz.f116) (Tryz.func116) (c := zgl) (by kernel_rfl) (by kernel_rfl) (by kernel_rfl) (by decide +kernel) (by decide) ziQ
end Go.Proofs.Y
