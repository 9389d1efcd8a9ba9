/-
  What is proved, part by part: facts on the types of the program. what rainbookref.FreshShelf comes to. what note.Check comes to. what rainbookref.in comes to. what rainbookref.CheckPoint comes to. what rainbookref.CheckRec comes to. what rainbookref.Decoded comes to. what rainbookref.UnpackedOf comes to. what rainbookref.PointsOf comes to. what rainbookref.CheckPoints comes to. what rainbookref.RowPoints comes to. what rainbookref.CheckShelf comes to. what slices.Clone[[]api.Row,api.Row] comes to. what slices.Clone[[]api.Point,api.Point] comes to. what rainbookref.PutAll comes to. what slices.Clone[[]bool,bool] comes to. what rainbookref.Coded comes to. what rainbookref.PackedOf comes to. what rainbookref.BlockOf comes to. what slices.Clone[[]api.Block,api.Block] comes to. what rainbookref.Sealed comes to. what rainbookref.Merged comes to. what slices.Grow[[]api.Block,api.Block] comes to. what slices.Concat[[]api.Block,api.Block] comes to. what rainbookref.MergedRow comes to. what rainbookref.Dropped comes to. what rainbookref.nexted comes to. what rainbookref.Nexted comes to. what rainbookref.ShelfOf comes to. what bits.Read comes to. what zig.Read comes to. what line.Check comes to. what line.Unpack comes to. what block.Points comes to. what shelf.all comes to. what shelf.Check comes to. what block.Copy comes to. what shelf.Copy comes to. what shelf.Put comes to. what zig.fold comes to. what bits.Put comes to. what zig.Put comes to. what line.Pack comes to. what block.Make comes to. what shelf.Seal comes to. what slices.Grow[[]api.Point,api.Point] comes to. what slices.Concat[[]api.Point,api.Point] comes to. what block.Merge comes to. what slices.Delete[[]api.Block,api.Block] comes to. Conditions: none.
-/
import Derived.Test.YtnkegapccacndaaGreatDoorKED
import Derived.Test.YtnkegapccacndaaGreatDoorProg
import Derived.KernelRfl
set_option linter.unusedVariables false
set_option linter.unusedSimpArgs false
set_option linter.unnecessarySimpa false
set_option maxRecDepth 4000
namespace Go.Proofs.Y
open Go.Rb Go.Kx
theorem okT2 : OkTD Tryz.prog 2 ⟨.int .i64, 1, 8, some (.one (.int .i64))⟩ := ⟨⟨by kernel_rfl, by kernel_rfl, by kernel_rfl⟩, Tryz.underlying2, ⟨by kernel_rfl, by kernel_rfl⟩, trivial⟩
theorem okT3 : OkTD Tryz.prog 3 ⟨.int .i64, 1, 8, some (.one (.int .i64))⟩ := ⟨⟨by kernel_rfl, by kernel_rfl, by kernel_rfl⟩, Tryz.underlying3, ⟨by kernel_rfl, by kernel_rfl⟩, trivial⟩
theorem okT4 : OkTD Tryz.prog 4 ⟨.bool, 1, 1, some (.one .bool)⟩ := ⟨⟨by kernel_rfl, by kernel_rfl, by kernel_rfl⟩, Tryz.underlying4, ⟨by kernel_rfl, by kernel_rfl⟩, trivial⟩
theorem okT5 : OkTD Tryz.prog 5 ⟨.int .u8, 1, 1, some (.one (.int .u8))⟩ := ⟨⟨by kernel_rfl, by kernel_rfl, by kernel_rfl⟩, Tryz.underlying5, ⟨by kernel_rfl, by kernel_rfl⟩, trivial⟩
theorem okT9 : OkTD Tryz.prog 9 ⟨.str, 1, 16, some (.one .str)⟩ := ⟨⟨by kernel_rfl, by kernel_rfl, by kernel_rfl⟩, Tryz.underlying9, ⟨by kernel_rfl, by kernel_rfl⟩, trivial⟩
theorem zuW : OkTD Tryz.prog 22 ⟨.sl 95, 1, 24, some (.one (.sl 95 (.cons (.sl 126 (.cons (.int .i64) (.cons (.int .i64) (.cons (.int .i64) (.one (.sl 4 (.one .bool))))))) (.one (.sl 73 (.cons (.int .i64) (.one (.int .i64))))))))⟩ := ⟨⟨by kernel_rfl, by kernel_rfl, by kernel_rfl⟩, ⟨Tryz.underlying22, by kernel_rfl⟩, ⟨by kernel_rfl, by kernel_rfl⟩, trivial⟩
theorem zuX : OkTD Tryz.prog 24 ⟨.st [(0, 1)], 1, 24, some (.one (.sl 95 (.cons (.sl 126 (.cons (.int .i64) (.cons (.int .i64) (.cons (.int .i64) (.one (.sl 4 (.one .bool))))))) (.one (.sl 73 (.cons (.int .i64) (.one (.int .i64))))))))⟩ := ⟨⟨by kernel_rfl, by kernel_rfl, by kernel_rfl⟩, ⟨_, Tryz.underlying24, by kernel_rfl, by kernel_rfl⟩, ⟨by kernel_rfl, by kernel_rfl⟩, fun h => absurd (by rfl) h⟩
theorem zuY : OkTD Tryz.prog 25 ⟨.sl 5, 1, 24, some (.one (.sl 5 (.one (.int .u8))))⟩ := ⟨⟨by kernel_rfl, by kernel_rfl, by kernel_rfl⟩, ⟨Tryz.underlying25, by kernel_rfl⟩, ⟨by kernel_rfl, by kernel_rfl⟩, trivial⟩
theorem zuZ : OkTD Tryz.prog 27 ⟨.st [(0, 1), (1, 1)], 2, 48, some (.cons (.sl 5 (.one (.int .u8))) (.one (.sl 5 (.one (.int .u8)))))⟩ := ⟨⟨by kernel_rfl, by kernel_rfl, by kernel_rfl⟩, ⟨_, Tryz.underlying27, by kernel_rfl, by kernel_rfl⟩, ⟨by kernel_rfl, by kernel_rfl⟩, fun h => absurd (by rfl) h⟩
theorem zv0 : OkTD Tryz.prog 28 ⟨.sl 3, 1, 24, some (.one (.sl 3 (.one (.int .i64))))⟩ := ⟨⟨by kernel_rfl, by kernel_rfl, by kernel_rfl⟩, ⟨Tryz.underlying28, by kernel_rfl⟩, ⟨by kernel_rfl, by kernel_rfl⟩, trivial⟩
theorem zv1 : OkTD Tryz.prog 30 ⟨.st [(0, 1), (1, 2), (3, 1), (4, 1)], 5, 104, some (.cons (.sl 95 (.cons (.sl 126 (.cons (.int .i64) (.cons (.int .i64) (.cons (.int .i64) (.one (.sl 4 (.one .bool))))))) (.one (.sl 73 (.cons (.int .i64) (.one (.int .i64))))))) (.cons (.sl 5 (.one (.int .u8))) (.cons (.sl 5 (.one (.int .u8))) (.cons (.bool) (.one (.sl 3 (.one (.int .i64))))))))⟩ := ⟨⟨by kernel_rfl, by kernel_rfl, by kernel_rfl⟩, ⟨_, Tryz.underlying30, by kernel_rfl, by kernel_rfl⟩, ⟨by kernel_rfl, by kernel_rfl⟩, fun h => absurd (by rfl) h⟩
theorem zv2 : OkTD Tryz.prog 31 ⟨.sl 41, 1, 24, some (.one (.sl 41 (.cons (.int .i64) (.cons (.int .i64) (.cons (.int .i64) (.one (.sl 77 (.cons (.int .i64) (.cons (.int .i64) (.one (.int .i64)))))))))))⟩ := ⟨⟨by kernel_rfl, by kernel_rfl, by kernel_rfl⟩, ⟨Tryz.underlying31, by kernel_rfl⟩, ⟨by kernel_rfl, by kernel_rfl⟩, trivial⟩
theorem zv3 : OkTD Tryz.prog 32 ⟨.sl 33, 1, 24, some (.one (.sl 33 (.one (.int .i64))))⟩ := ⟨⟨by kernel_rfl, by kernel_rfl, by kernel_rfl⟩, ⟨Tryz.underlying32, by kernel_rfl⟩, ⟨by kernel_rfl, by kernel_rfl⟩, trivial⟩
theorem zv4 : OkTD Tryz.prog 33 ⟨.int .i64, 1, 8, some (.one (.int .i64))⟩ := ⟨⟨by kernel_rfl, by kernel_rfl, by kernel_rfl⟩, Tryz.underlying33, ⟨by kernel_rfl, by kernel_rfl⟩, trivial⟩
theorem zv5 : OkTD Tryz.prog 39 ⟨.sl 77, 1, 24, some (.one (.sl 77 (.cons (.int .i64) (.cons (.int .i64) (.one (.int .i64))))))⟩ := ⟨⟨by kernel_rfl, by kernel_rfl, by kernel_rfl⟩, ⟨Tryz.underlying39, by kernel_rfl⟩, ⟨by kernel_rfl, by kernel_rfl⟩, trivial⟩
theorem zv6 : OkTD Tryz.prog 41 ⟨.st [(0, 1), (1, 1), (2, 1), (3, 1)], 4, 48, some (.cons (.int .i64) (.cons (.int .i64) (.cons (.int .i64) (.one (.sl 77 (.cons (.int .i64) (.cons (.int .i64) (.one (.int .i64)))))))))⟩ := ⟨⟨by kernel_rfl, by kernel_rfl, by kernel_rfl⟩, ⟨_, Tryz.underlying41, by kernel_rfl, by kernel_rfl⟩, ⟨by kernel_rfl, by kernel_rfl⟩, fun h => absurd (by rfl) h⟩
theorem zv7 : OkTD Tryz.prog 48 ⟨.sl 52, 1, 24, some (.one (.sl 52 (.cons (.int .i64) (.cons (.int .i64) (.cons (.int .i64) (.one (.sl 77 (.cons (.int .i64) (.cons (.int .i64) (.one (.int .i64)))))))))))⟩ := ⟨⟨by kernel_rfl, by kernel_rfl, by kernel_rfl⟩, ⟨Tryz.underlying48, by kernel_rfl⟩, ⟨by kernel_rfl, by kernel_rfl⟩, trivial⟩
theorem zv8 : OkTD Tryz.prog 52 ⟨.st [(0, 1), (1, 1), (2, 1), (3, 1)], 4, 48, some (.cons (.int .i64) (.cons (.int .i64) (.cons (.int .i64) (.one (.sl 77 (.cons (.int .i64) (.cons (.int .i64) (.one (.int .i64)))))))))⟩ := ⟨⟨by kernel_rfl, by kernel_rfl, by kernel_rfl⟩, ⟨_, Tryz.underlying52, by kernel_rfl, by kernel_rfl⟩, ⟨by kernel_rfl, by kernel_rfl⟩, fun h => absurd (by rfl) h⟩
theorem zv9 : OkTD Tryz.prog 65 ⟨.sl 73, 1, 24, some (.one (.sl 73 (.cons (.int .i64) (.one (.int .i64)))))⟩ := ⟨⟨by kernel_rfl, by kernel_rfl, by kernel_rfl⟩, ⟨Tryz.underlying65, by kernel_rfl⟩, ⟨by kernel_rfl, by kernel_rfl⟩, trivial⟩
theorem zva : OkTD Tryz.prog 73 ⟨.st [(0, 1), (1, 1)], 2, 16, some (.cons (.int .i64) (.one (.int .i64)))⟩ := ⟨⟨by kernel_rfl, by kernel_rfl, by kernel_rfl⟩, ⟨_, Tryz.underlying73, by kernel_rfl, by kernel_rfl⟩, ⟨by kernel_rfl, by kernel_rfl⟩, fun _ => zdx (Tryz.underlying73) (by kernel_rfl) (by kernel_rfl) (by kernel_rfl) (by kernel_rfl)⟩
theorem zvb : OkTD Tryz.prog 77 ⟨.st [(0, 1), (1, 1), (2, 1)], 3, 24, some (.cons (.int .i64) (.cons (.int .i64) (.one (.int .i64))))⟩ := ⟨⟨by kernel_rfl, by kernel_rfl, by kernel_rfl⟩, ⟨_, Tryz.underlying77, by kernel_rfl, by kernel_rfl⟩, ⟨by kernel_rfl, by kernel_rfl⟩, fun _ => zdx (Tryz.underlying77) (by kernel_rfl) (by kernel_rfl) (by kernel_rfl) (by kernel_rfl)⟩
theorem zvc : OkTD Tryz.prog 93 ⟨.sl 126, 1, 24, some (.one (.sl 126 (.cons (.int .i64) (.cons (.int .i64) (.cons (.int .i64) (.one (.sl 4 (.one .bool))))))))⟩ := ⟨⟨by kernel_rfl, by kernel_rfl, by kernel_rfl⟩, ⟨Tryz.underlying93, by kernel_rfl⟩, ⟨by kernel_rfl, by kernel_rfl⟩, trivial⟩
theorem zvd : OkTD Tryz.prog 95 ⟨.st [(0, 1), (1, 1)], 2, 48, some (.cons (.sl 126 (.cons (.int .i64) (.cons (.int .i64) (.cons (.int .i64) (.one (.sl 4 (.one .bool))))))) (.one (.sl 73 (.cons (.int .i64) (.one (.int .i64))))))⟩ := ⟨⟨by kernel_rfl, by kernel_rfl, by kernel_rfl⟩, ⟨_, Tryz.underlying95, by kernel_rfl, by kernel_rfl⟩, ⟨by kernel_rfl, by kernel_rfl⟩, fun h => absurd (by rfl) h⟩
theorem zuo : OkTD Tryz.prog 124 ⟨.sl 4, 1, 24, some (.one (.sl 4 (.one .bool)))⟩ := ⟨⟨by kernel_rfl, by kernel_rfl, by kernel_rfl⟩, ⟨Tryz.underlying124, by kernel_rfl⟩, ⟨by kernel_rfl, by kernel_rfl⟩, trivial⟩
theorem zup : OkTD Tryz.prog 126 ⟨.st [(0, 1), (1, 1), (2, 1), (3, 1)], 4, 48, some (.cons (.int .i64) (.cons (.int .i64) (.cons (.int .i64) (.one (.sl 4 (.one .bool))))))⟩ := ⟨⟨by kernel_rfl, by kernel_rfl, by kernel_rfl⟩, ⟨_, Tryz.underlying126, by kernel_rfl, by kernel_rfl⟩, ⟨by kernel_rfl, by kernel_rfl⟩, fun h => absurd (by rfl) h⟩
theorem zuq : OkTD Tryz.prog 130 ⟨.sl 32, 1, 24, some (.one (.sl 32 (.one (.sl 33 (.one (.int .i64))))))⟩ := ⟨⟨by kernel_rfl, by kernel_rfl, by kernel_rfl⟩, ⟨Tryz.underlying130, by kernel_rfl⟩, ⟨by kernel_rfl, by kernel_rfl⟩, trivial⟩
theorem zur : OkTD Tryz.prog 149 ⟨.sl 9, 1, 24, some (.one (.sl 9 (.one .str)))⟩ := ⟨⟨by kernel_rfl, by kernel_rfl, by kernel_rfl⟩, ⟨Tryz.underlying149, by kernel_rfl⟩, ⟨by kernel_rfl, by kernel_rfl⟩, trivial⟩
theorem zus : OkTD Tryz.prog 152 ⟨.sl 25, 1, 24, some (.one (.sl 25 (.one (.sl 5 (.one (.int .u8))))))⟩ := ⟨⟨by kernel_rfl, by kernel_rfl, by kernel_rfl⟩, ⟨Tryz.underlying152, by kernel_rfl⟩, ⟨by kernel_rfl, by kernel_rfl⟩, trivial⟩
theorem zut : OkTD Tryz.prog 162 ⟨.sl 48, 1, 24, some (.one (.sl 48 (.one (.sl 52 (.cons (.int .i64) (.cons (.int .i64) (.cons (.int .i64) (.one (.sl 77 (.cons (.int .i64) (.cons (.int .i64) (.one (.int .i64)))))))))))))⟩ := ⟨⟨by kernel_rfl, by kernel_rfl, by kernel_rfl⟩, ⟨Tryz.underlying162, by kernel_rfl⟩, ⟨by kernel_rfl, by kernel_rfl⟩, trivial⟩
theorem zuu : OkTD Tryz.prog 172 ⟨.mp, 1, 8, none⟩ := ⟨⟨by kernel_rfl, by kernel_rfl, by kernel_rfl⟩, zuV Tryz.underlying172 Tryz.underlying3 (by kernel_rfl), trivial, trivial⟩
theorem zuv : OkTD Tryz.prog 174 ⟨.int .u64, 1, 8, some (.one (.int .u64))⟩ := ⟨⟨by kernel_rfl, by kernel_rfl, by kernel_rfl⟩, Tryz.underlying174, ⟨by kernel_rfl, by kernel_rfl⟩, trivial⟩
theorem zuw : OkTD Tryz.prog 183 ⟨.ifc, 1, 16, none⟩ := ⟨⟨by kernel_rfl, by kernel_rfl, by kernel_rfl⟩, ⟨_, Tryz.underlying183⟩, trivial, trivial⟩
theorem zux : OkTD Tryz.prog 199 ⟨.int .u32, 1, 4, some (.one (.int .u32))⟩ := ⟨⟨by kernel_rfl, by kernel_rfl, by kernel_rfl⟩, Tryz.underlying199, ⟨by kernel_rfl, by kernel_rfl⟩, trivial⟩
theorem zuy : OkTD Tryz.prog 202 ⟨.int .u64, 1, 8, some (.one (.int .u64))⟩ := ⟨⟨by kernel_rfl, by kernel_rfl, by kernel_rfl⟩, Tryz.underlying202, ⟨by kernel_rfl, by kernel_rfl⟩, trivial⟩
theorem zuz : OkTD Tryz.prog 206 ⟨.sl 65, 1, 24, some (.one (.sl 65 (.one (.sl 73 (.cons (.int .i64) (.one (.int .i64)))))))⟩ := ⟨⟨by kernel_rfl, by kernel_rfl, by kernel_rfl⟩, ⟨Tryz.underlying206, by kernel_rfl⟩, ⟨by kernel_rfl, by kernel_rfl⟩, trivial⟩
theorem zuA : OkTD Tryz.prog 213 ⟨.sl 93, 1, 24, some (.one (.sl 93 (.one (.sl 126 (.cons (.int .i64) (.cons (.int .i64) (.cons (.int .i64) (.one (.sl 4 (.one .bool))))))))))⟩ := ⟨⟨by kernel_rfl, by kernel_rfl, by kernel_rfl⟩, ⟨Tryz.underlying213, by kernel_rfl⟩, ⟨by kernel_rfl, by kernel_rfl⟩, trivial⟩
def tL : List (Nat × TD) := [(2, ⟨.int .i64, 1, 8, some (.one (.int .i64))⟩),
 (3, ⟨.int .i64, 1, 8, some (.one (.int .i64))⟩),
 (4, ⟨.bool, 1, 1, some (.one .bool)⟩),
 (5, ⟨.int .u8, 1, 1, some (.one (.int .u8))⟩),
 (9, ⟨.str, 1, 16, some (.one .str)⟩),
 (22, ⟨.sl 95, 1, 24, some (.one (.sl 95 (.cons (.sl 126 (.cons (.int .i64) (.cons (.int .i64) (.cons (.int .i64) (.one (.sl 4 (.one .bool))))))) (.one (.sl 73 (.cons (.int .i64) (.one (.int .i64))))))))⟩),
 (24, ⟨.st [(0, 1)], 1, 24, some (.one (.sl 95 (.cons (.sl 126 (.cons (.int .i64) (.cons (.int .i64) (.cons (.int .i64) (.one (.sl 4 (.one .bool))))))) (.one (.sl 73 (.cons (.int .i64) (.one (.int .i64))))))))⟩),
 (25, ⟨.sl 5, 1, 24, some (.one (.sl 5 (.one (.int .u8))))⟩),
 (27, ⟨.st [(0, 1), (1, 1)], 2, 48, some (.cons (.sl 5 (.one (.int .u8))) (.one (.sl 5 (.one (.int .u8)))))⟩),
 (28, ⟨.sl 3, 1, 24, some (.one (.sl 3 (.one (.int .i64))))⟩),
 (30, ⟨.st [(0, 1), (1, 2), (3, 1), (4, 1)], 5, 104, some (.cons (.sl 95 (.cons (.sl 126 (.cons (.int .i64) (.cons (.int .i64) (.cons (.int .i64) (.one (.sl 4 (.one .bool))))))) (.one (.sl 73 (.cons (.int .i64) (.one (.int .i64))))))) (.cons (.sl 5 (.one (.int .u8))) (.cons (.sl 5 (.one (.int .u8))) (.cons (.bool) (.one (.sl 3 (.one (.int .i64))))))))⟩),
 (31, ⟨.sl 41, 1, 24, some (.one (.sl 41 (.cons (.int .i64) (.cons (.int .i64) (.cons (.int .i64) (.one (.sl 77 (.cons (.int .i64) (.cons (.int .i64) (.one (.int .i64)))))))))))⟩),
 (32, ⟨.sl 33, 1, 24, some (.one (.sl 33 (.one (.int .i64))))⟩),
 (33, ⟨.int .i64, 1, 8, some (.one (.int .i64))⟩),
 (39, ⟨.sl 77, 1, 24, some (.one (.sl 77 (.cons (.int .i64) (.cons (.int .i64) (.one (.int .i64))))))⟩),
 (41, ⟨.st [(0, 1), (1, 1), (2, 1), (3, 1)], 4, 48, some (.cons (.int .i64) (.cons (.int .i64) (.cons (.int .i64) (.one (.sl 77 (.cons (.int .i64) (.cons (.int .i64) (.one (.int .i64)))))))))⟩),
 (48, ⟨.sl 52, 1, 24, some (.one (.sl 52 (.cons (.int .i64) (.cons (.int .i64) (.cons (.int .i64) (.one (.sl 77 (.cons (.int .i64) (.cons (.int .i64) (.one (.int .i64)))))))))))⟩),
 (52, ⟨.st [(0, 1), (1, 1), (2, 1), (3, 1)], 4, 48, some (.cons (.int .i64) (.cons (.int .i64) (.cons (.int .i64) (.one (.sl 77 (.cons (.int .i64) (.cons (.int .i64) (.one (.int .i64)))))))))⟩),
 (65, ⟨.sl 73, 1, 24, some (.one (.sl 73 (.cons (.int .i64) (.one (.int .i64)))))⟩),
 (73, ⟨.st [(0, 1), (1, 1)], 2, 16, some (.cons (.int .i64) (.one (.int .i64)))⟩),
 (77, ⟨.st [(0, 1), (1, 1), (2, 1)], 3, 24, some (.cons (.int .i64) (.cons (.int .i64) (.one (.int .i64))))⟩),
 (93, ⟨.sl 126, 1, 24, some (.one (.sl 126 (.cons (.int .i64) (.cons (.int .i64) (.cons (.int .i64) (.one (.sl 4 (.one .bool))))))))⟩),
 (95, ⟨.st [(0, 1), (1, 1)], 2, 48, some (.cons (.sl 126 (.cons (.int .i64) (.cons (.int .i64) (.cons (.int .i64) (.one (.sl 4 (.one .bool))))))) (.one (.sl 73 (.cons (.int .i64) (.one (.int .i64))))))⟩),
 (124, ⟨.sl 4, 1, 24, some (.one (.sl 4 (.one .bool)))⟩),
 (126, ⟨.st [(0, 1), (1, 1), (2, 1), (3, 1)], 4, 48, some (.cons (.int .i64) (.cons (.int .i64) (.cons (.int .i64) (.one (.sl 4 (.one .bool))))))⟩),
 (130, ⟨.sl 32, 1, 24, some (.one (.sl 32 (.one (.sl 33 (.one (.int .i64))))))⟩),
 (149, ⟨.sl 9, 1, 24, some (.one (.sl 9 (.one .str)))⟩),
 (152, ⟨.sl 25, 1, 24, some (.one (.sl 25 (.one (.sl 5 (.one (.int .u8))))))⟩),
 (162, ⟨.sl 48, 1, 24, some (.one (.sl 48 (.one (.sl 52 (.cons (.int .i64) (.cons (.int .i64) (.cons (.int .i64) (.one (.sl 77 (.cons (.int .i64) (.cons (.int .i64) (.one (.int .i64)))))))))))))⟩),
 (172, ⟨.mp, 1, 8, none⟩),
 (174, ⟨.int .u64, 1, 8, some (.one (.int .u64))⟩),
 (183, ⟨.ifc, 1, 16, none⟩),
 (199, ⟨.int .u32, 1, 4, some (.one (.int .u32))⟩),
 (202, ⟨.int .u64, 1, 8, some (.one (.int .u64))⟩),
 (206, ⟨.sl 65, 1, 24, some (.one (.sl 65 (.one (.sl 73 (.cons (.int .i64) (.one (.int .i64)))))))⟩),
 (213, ⟨.sl 93, 1, 24, some (.one (.sl 93 (.one (.sl 126 (.cons (.int .i64) (.cons (.int .i64) (.cons (.int .i64) (.one (.sl 4 (.one .bool))))))))))⟩)]
def T : TT := tabT tL
theorem tok : TOK Tryz.prog T := zun (L := tL) (List.forall_mem_cons.2 ⟨okT2, List.forall_mem_cons.2 ⟨okT3, List.forall_mem_cons.2 ⟨okT4, List.forall_mem_cons.2 ⟨okT5, List.forall_mem_cons.2 ⟨okT9, List.forall_mem_cons.2 ⟨zuW, List.forall_mem_cons.2 ⟨zuX, List.forall_mem_cons.2 ⟨zuY, List.forall_mem_cons.2 ⟨zuZ, List.forall_mem_cons.2 ⟨zv0, List.forall_mem_cons.2 ⟨zv1, List.forall_mem_cons.2 ⟨zv2, List.forall_mem_cons.2 ⟨zv3, List.forall_mem_cons.2 ⟨zv4, List.forall_mem_cons.2 ⟨zv5, List.forall_mem_cons.2 ⟨zv6, List.forall_mem_cons.2 ⟨zv7, List.forall_mem_cons.2 ⟨zv8, List.forall_mem_cons.2 ⟨zv9, List.forall_mem_cons.2 ⟨zva, List.forall_mem_cons.2 ⟨zvb, List.forall_mem_cons.2 ⟨zvc, List.forall_mem_cons.2 ⟨zvd, List.forall_mem_cons.2 ⟨zuo, List.forall_mem_cons.2 ⟨zup, List.forall_mem_cons.2 ⟨zuq, List.forall_mem_cons.2 ⟨zur, List.forall_mem_cons.2 ⟨zus, List.forall_mem_cons.2 ⟨zut, List.forall_mem_cons.2 ⟨zuu, List.forall_mem_cons.2 ⟨zuv, List.forall_mem_cons.2 ⟨zuw, List.forall_mem_cons.2 ⟨zux, List.forall_mem_cons.2 ⟨zuy, List.forall_mem_cons.2 ⟨zuz, List.forall_mem_cons.2 ⟨zuA, (by intro q h; cases h)⟩⟩⟩⟩⟩⟩⟩⟩⟩⟩⟩⟩⟩⟩⟩⟩⟩⟩⟩⟩⟩⟩⟩⟩⟩⟩⟩⟩⟩⟩⟩⟩⟩⟩⟩⟩)
theorem fmo : Tryz.prog.follows .mixedOrders = true := by kernel_rfl
end Go.Proofs.Y
namespace Go.Proofs.Y
open Go.Rb Go.Kx
noncomputable def zkP : Code := zj Tryz.f70
noncomputable def zkQ : FuncId → Option GS := tabG []
theorem zrW : ΓOK Tryz.prog zkQ := zf
def zkR : HT := ⟨tabL [], tabH []⟩
abbrev zbb : List IT := []
abbrev zig : List OT := [⟨.one (.sl 95 (.cons (.sl 126 (.cons (.int .i64) (.cons (.int .i64) (.cons (.int .i64) (.one (.sl 4 (.one .bool))))))) (.one (.sl 73 (.cons (.int .i64) (.one (.int .i64))))))), true, []⟩]
set_option maxRecDepth 100000
noncomputable def z5s : Option (List (List (Int × Int × Int × List Bool) × List (Int × Int))) := ifB (z3l 48 4) (some (repI 4 ([], []))) none
theorem zn7 (x : PI zbb) : z5s  = fnE T zkQ zkR zkP (zo Tryz.f70) zbb zig x := by kernel_rfl
noncomputable abbrev zkS : GS := zq false zbb zig fun x => z5s 
theorem zn8 : GSOK Tryz.prog 70 zkS := zm tok zrW fmo (Ht := zkR) (fn := Tryz.f70) (Tryz.func70) (c := zkP) (by kernel_rfl) (by kernel_rfl) (by kernel_rfl) (by decide +kernel) (by decide) zn7
end Go.Proofs.Y
namespace Go.Proofs.Y
open Go.Rb Go.Kx
noncomputable def zbc : Code := zj Tryz.f79
noncomputable def zbd : FuncId → Option GS := tabG []
theorem zkT : ΓOK Tryz.prog zbd := zf
def zbe : HT := ⟨tabL [(9, .it [] (dyn [.t 31 (.int .i64)]))], tabH []⟩
abbrev z3Y : List IT := [.v (.cons (.int .i64) (.cons (.int .i64) (.cons (.int .i64) (.one (.sl 77 (.cons (.int .i64) (.cons (.int .i64) (.one (.int .i64))))))))) true]
abbrev z9X : List OT := [⟨.one (.int .i64), false, []⟩]
set_option maxRecDepth 100000
noncomputable def Zl : Int × Int × Int × List (Int × Int × Int) → Option Int := fun a => ifB (ltI a.1 1) (some 4) (ifB (gtI a.1 4) (some 4) (ifB (eqI a.1 1) (ifB (neI a.2.1 0) (some 4) (ifB (neI a.2.2.1 0) (some 4) (ifB (gtI (lenI a.2.2.2) 10) (some 2) (zi maxR (fun (x : Int) => ifB (ltI x (lenI a.2.2.2)) (z6 (atI a.2.2.2 x) fun y => ifB (ltI y.1 0) (mapO Sum.inr (some 3)) (ifB (geI y.1 4) (mapO Sum.inr (some 3)) (ifB (ltI y.2.1 0) (mapO Sum.inr (some 3)) (ifB (gtI y.2.1 100000) (mapO Sum.inr (some 3)) (ifB (ltI y.2.2 (-1000000)) (mapO Sum.inr (some 3)) (ifB (gtI y.2.2 1000000) (mapO Sum.inr (some 3)) (some (Sum.inl (wadd .i64 x 1))))))))) (mapO Sum.inr (some 0))) 0)))) (ifB (gtI (lenI a.2.2.2) 0) (some 4) (ifB (eqI a.1 4) (ifB (neI a.2.1 0) (some 4) (ifB (ltI a.2.1 0) (some 3) (ifB (geI a.2.1 4) (some 3) (ifB (ltI a.2.2.1 0) (some 3) (ifB (gtI a.2.2.1 100001) (some 3) (some 0)))))) (ifB (ltI a.2.1 0) (some 3) (ifB (geI a.2.1 4) (some 3) (ifB (ltI a.2.2.1 0) (some 3) (ifB (gtI a.2.2.1 100001) (some 3) (some 0)))))))))
theorem zfB (x : PI z3Y) : Zl x = fnE T zbd zbe zbc (zo Tryz.f79) z3Y z9X x := by kernel_rfl
noncomputable abbrev z1P : GS := zq false z3Y z9X fun x => Zl x
theorem z1Q : GSOK Tryz.prog 79 z1P := zm tok zkT fmo (Ht := zbe) (fn := Tryz.f79) (Tryz.func79) (c := zbc) (by kernel_rfl) (by kernel_rfl) (by kernel_rfl) (by decide +kernel) (by decide) zfB
end Go.Proofs.Y
namespace Go.Proofs.Y
open Go.Rb Go.Kx
noncomputable def z5t : Code := zj Tryz.f64
noncomputable def z5u : FuncId → Option GS := tabG []
theorem zeD : ΓOK Tryz.prog z5u := zf
def z5v : HT := ⟨tabL [], tabH []⟩
abbrev z06 : List IT := [.v (.one (.int .i64)) false, .v (.one (.int .i64)) false, .v (.one (.int .i64)) false]
abbrev z4w : List OT := [⟨.one .bool, false, []⟩]
set_option maxRecDepth 100000
noncomputable def zk : Int → Int → Int → Option Bool := fun a b c => ifB (leI b a) (some (leI a c)) (some false)
theorem zaI (x : PI z06) : zk (x.1) (x.2.1) (x.2.2) = fnE T z5u z5v z5t (zo Tryz.f64) z06 z4w x := by kernel_rfl
noncomputable abbrev y0 : GS := zq false z06 z4w fun x => zk (x.1) (x.2.1) (x.2.2)
theorem ZO : GSOK Tryz.prog 64 y0 := zm tok zeD fmo (Ht := z5v) (fn := Tryz.f64) (Tryz.func64) (c := z5t) (by kernel_rfl) (by kernel_rfl) (by kernel_rfl) (by decide +kernel) (by decide) zaI
end Go.Proofs.Y
namespace Go.Proofs.Y
open Go.Rb Go.Kx
noncomputable def jw : Code := zj Tryz.f131
noncomputable def jx : FuncId → Option GS := tabG [(64, y0)]
theorem z5w : ΓOK Tryz.prog jx := z8 (ZO) (zf)
def jy : HT := ⟨tabL [], tabH []⟩
abbrev YX : List IT := [.v (.cons (.int .i64) (.one (.int .i64))) true]
abbrev j9 : List OT := [⟨.one (.int .i64), false, []⟩]
set_option maxRecDepth 100000
noncomputable def zG : Int × Int → Option Int := fun a => z6 (zk a.1 0 100000) fun y => ifB (notB y) (some 3) (z6 (zk a.2 (-1000000) 1000000) fun y => ifB (notB y) (some 3) (some 0))
theorem z3D (x : PI YX) : zG x = fnE T jx jy jw (zo Tryz.f131) YX j9 x := by kernel_rfl
noncomputable abbrev Yo : GS := zq false YX j9 fun x => zG x
theorem YO : GSOK Tryz.prog 131 Yo := zm tok z5w fmo (Ht := jy) (fn := Tryz.f131) (Tryz.func131) (c := jw) (by kernel_rfl) (by kernel_rfl) (by kernel_rfl) (by decide +kernel) (by decide) z3D
end Go.Proofs.Y
namespace Go.Proofs.Y
open Go.Rb Go.Kx
noncomputable def z0c : Code := zj Tryz.f103
noncomputable def z0d : FuncId → Option GS := tabG [(64, y0), (131, Yo)]
theorem z7F : ΓOK Tryz.prog z0d := z8 (ZO) (z8 (YO) (zf))
def z0e : HT := ⟨tabL [(11, .it [] (dyn [.t 59 (.int .i64)]))], tabH []⟩
abbrev vJ : List IT := [.v (.cons (.int .i64) (.cons (.int .i64) (.cons (.int .i64) (.one (.sl 77 (.cons (.int .i64) (.cons (.int .i64) (.one (.int .i64))))))))) true]
abbrev Jw : List OT := [⟨.one (.int .i64), false, []⟩]
set_option maxRecDepth 100000
noncomputable def zn : Int × Int × Int × List (Int × Int × Int) → Option Int := fun a => z6 (zk a.1 1 4) fun y => ifB (notB y) (some 4) (ifB (eqI a.1 1) (ifB (neI a.2.1 0) (some 4) (ifB (neI a.2.2.1 0) (some 4) (ifB (neI a.1 1) (ifB (gtI (lenI a.2.2.2) 0) (some 4) (ifB (eqI a.1 4) (ifB (neI a.2.1 0) (some 4) (ifB (gtI (lenI a.2.2.2) 10) (some 2) (z6 (zk a.2.1 0 3) fun y => ifB (notB y) (some 3) (z6 (zk a.2.2.1 0 100001) fun y => ifB (notB y) (some 3) (zi maxR (fun (x : Int) => ifB (ltI x (lenI a.2.2.2)) (z6 (atI a.2.2.2 x) fun y => z6 (zk y.1 0 3) fun y_1 => ifB (notB y_1) (mapO Sum.inr (some 3)) (z6 (zG (y.2.1, y.2.2)) fun y => ifB (neI y 0) (mapO Sum.inr (some 3)) (some (Sum.inl (wadd .i64 x 1))))) (mapO Sum.inr (some 0))) 0))))) (ifB (gtI (lenI a.2.2.2) 10) (some 2) (z6 (zk a.2.1 0 3) fun y => ifB (notB y) (some 3) (z6 (zk a.2.2.1 0 100001) fun y => ifB (notB y) (some 3) (zi maxR (fun (x : Int) => ifB (ltI x (lenI a.2.2.2)) (z6 (atI a.2.2.2 x) fun y => z6 (zk y.1 0 3) fun y_1 => ifB (notB y_1) (mapO Sum.inr (some 3)) (z6 (zG (y.2.1, y.2.2)) fun y => ifB (neI y 0) (mapO Sum.inr (some 3)) (some (Sum.inl (wadd .i64 x 1))))) (mapO Sum.inr (some 0))) 0)))))) (ifB (eqI a.1 4) (ifB (neI a.2.1 0) (some 4) (ifB (gtI (lenI a.2.2.2) 10) (some 2) (z6 (zk a.2.1 0 3) fun y => ifB (notB y) (some 3) (z6 (zk a.2.2.1 0 100001) fun y => ifB (notB y) (some 3) (zi maxR (fun (x : Int) => ifB (ltI x (lenI a.2.2.2)) (z6 (atI a.2.2.2 x) fun y => z6 (zk y.1 0 3) fun y_1 => ifB (notB y_1) (mapO Sum.inr (some 3)) (z6 (zG (y.2.1, y.2.2)) fun y => ifB (neI y 0) (mapO Sum.inr (some 3)) (some (Sum.inl (wadd .i64 x 1))))) (mapO Sum.inr (some 0))) 0))))) (ifB (gtI (lenI a.2.2.2) 10) (some 2) (z6 (zk a.2.1 0 3) fun y => ifB (notB y) (some 3) (z6 (zk a.2.2.1 0 100001) fun y => ifB (notB y) (some 3) (zi maxR (fun (x : Int) => ifB (ltI x (lenI a.2.2.2)) (z6 (atI a.2.2.2 x) fun y => z6 (zk y.1 0 3) fun y_1 => ifB (notB y_1) (mapO Sum.inr (some 3)) (z6 (zG (y.2.1, y.2.2)) fun y => ifB (neI y 0) (mapO Sum.inr (some 3)) (some (Sum.inl (wadd .i64 x 1))))) (mapO Sum.inr (some 0))) 0)))))))) (ifB (neI a.1 1) (ifB (gtI (lenI a.2.2.2) 0) (some 4) (ifB (eqI a.1 4) (ifB (neI a.2.1 0) (some 4) (ifB (gtI (lenI a.2.2.2) 10) (some 2) (z6 (zk a.2.1 0 3) fun y => ifB (notB y) (some 3) (z6 (zk a.2.2.1 0 100001) fun y => ifB (notB y) (some 3) (zi maxR (fun (x : Int) => ifB (ltI x (lenI a.2.2.2)) (z6 (atI a.2.2.2 x) fun y => z6 (zk y.1 0 3) fun y_1 => ifB (notB y_1) (mapO Sum.inr (some 3)) (z6 (zG (y.2.1, y.2.2)) fun y => ifB (neI y 0) (mapO Sum.inr (some 3)) (some (Sum.inl (wadd .i64 x 1))))) (mapO Sum.inr (some 0))) 0))))) (ifB (gtI (lenI a.2.2.2) 10) (some 2) (z6 (zk a.2.1 0 3) fun y => ifB (notB y) (some 3) (z6 (zk a.2.2.1 0 100001) fun y => ifB (notB y) (some 3) (zi maxR (fun (x : Int) => ifB (ltI x (lenI a.2.2.2)) (z6 (atI a.2.2.2 x) fun y => z6 (zk y.1 0 3) fun y_1 => ifB (notB y_1) (mapO Sum.inr (some 3)) (z6 (zG (y.2.1, y.2.2)) fun y => ifB (neI y 0) (mapO Sum.inr (some 3)) (some (Sum.inl (wadd .i64 x 1))))) (mapO Sum.inr (some 0))) 0)))))) (ifB (eqI a.1 4) (ifB (neI a.2.1 0) (some 4) (ifB (gtI (lenI a.2.2.2) 10) (some 2) (z6 (zk a.2.1 0 3) fun y => ifB (notB y) (some 3) (z6 (zk a.2.2.1 0 100001) fun y => ifB (notB y) (some 3) (zi maxR (fun (x : Int) => ifB (ltI x (lenI a.2.2.2)) (z6 (atI a.2.2.2 x) fun y => z6 (zk y.1 0 3) fun y_1 => ifB (notB y_1) (mapO Sum.inr (some 3)) (z6 (zG (y.2.1, y.2.2)) fun y => ifB (neI y 0) (mapO Sum.inr (some 3)) (some (Sum.inl (wadd .i64 x 1))))) (mapO Sum.inr (some 0))) 0))))) (ifB (gtI (lenI a.2.2.2) 10) (some 2) (z6 (zk a.2.1 0 3) fun y => ifB (notB y) (some 3) (z6 (zk a.2.2.1 0 100001) fun y => ifB (notB y) (some 3) (zi maxR (fun (x : Int) => ifB (ltI x (lenI a.2.2.2)) (z6 (atI a.2.2.2 x) fun y => z6 (zk y.1 0 3) fun y_1 => ifB (notB y_1) (mapO Sum.inr (some 3)) (z6 (zG (y.2.1, y.2.2)) fun y => ifB (neI y 0) (mapO Sum.inr (some 3)) (some (Sum.inl (wadd .i64 x 1))))) (mapO Sum.inr (some 0))) 0)))))))
theorem z4Q (x : PI vJ) : zn x = fnE T z0d z0e z0c (zo Tryz.f103) vJ Jw x := by kernel_rfl
noncomputable abbrev Y1 : GS := zq false vJ Jw fun x => zn x
theorem Yi : GSOK Tryz.prog 103 Y1 := zm tok z7F fmo (Ht := z0e) (fn := Tryz.f103) (Tryz.func103) (c := z0c) (by kernel_rfl) (by kernel_rfl) (by kernel_rfl) (by decide +kernel) (by decide) z4Q
end Go.Proofs.Y
namespace Go.Proofs.Y
open Go.Rb Go.Kx
noncomputable def z0X : Code := zj Tryz.f161
noncomputable def z0Y : FuncId → Option GS := tabG []
theorem z8n : ΓOK Tryz.prog z0Y := zf
def z0Z : HT := ⟨tabL [(4, .it [] (dyn [.t 0 (.sl 4 (.one .bool)), .t 5 (.int .i64), .t 6 (.int .i64), .t 7 (.int .i64)])), (10, .it [] (dyn [.t 8 (.int .i64), .t 22 (.int .i64)]))], tabH []⟩
abbrev V3 : List IT := [.v (.one (.sl 4 (.one .bool))) false]
abbrev z0f : List OT := [⟨.one (.int .i64), false, []⟩, ⟨.one (.sl 4 (.one .bool)), false, []⟩, ⟨.one (.int .i64), false, []⟩]
set_option maxRecDepth 100000
noncomputable def yD : List Bool → Option (Int × List Bool × Int) := fun a => zi maxR (fun (x : List Bool × Int × Int × Int) => ifB (eqI x.2.2.2 8) (mapO Sum.inr (some (0, [], 3))) (ifB (ltI (lenI x.1) 4) (mapO Sum.inr (some (0, [], 8))) (ifB (in2 x.1 1 4) (zi maxR (fun (x_1 : Int × Int) => ifB (ltI x_1.2 (lenI (sliI x.1 1 4))) (z6 (atI (sliI x.1 1 4) x_1.2) fun y => ifB y (ifB (ltI x_1.2 0) none (some (Sum.inl (wadd .i64 x_1.1 (wshr .i64 4 x_1.2), wadd .i64 x_1.2 1)))) (some (Sum.inl (x_1.1, wadd .i64 x_1.2 1)))) (mapO Sum.inr (ifB (gtI x.2.2.2 0) (ifB (eqI x_1.1 0) (z6 (atI x.1 0) fun y => ifB (notB y) (mapO Sum.inr (some (0, [], 4))) (ifB (gtI (wadd .i64 x.2.1 (wmul .i64 x_1.1 x.2.2.1)) 8000000) (mapO Sum.inr (some (0, [], 3))) (z6 (atI x.1 0) fun y => ifB (in1 x.1 4) (ifB (notB y) (mapO Sum.inr (ifB (eqI (wrem (wadd .i64 x.2.1 (wmul .i64 x_1.1 x.2.2.1)) 2) 0) (some (wquo .i64 (wadd .i64 x.2.1 (wmul .i64 x_1.1 x.2.2.1)) 2, yB x.1 4, 0)) (some (wneg .i64 (wadd .i64 (wquo .i64 (wadd .i64 x.2.1 (wmul .i64 x_1.1 x.2.2.1)) 2) 1), yB x.1 4, 0)))) (some (Sum.inl (yB x.1 4, wadd .i64 x.2.1 (wmul .i64 x_1.1 x.2.2.1), wmul .i64 x.2.2.1 8, wadd .i64 x.2.2.2 1)))) none))) (ifB (gtI (wadd .i64 x.2.1 (wmul .i64 x_1.1 x.2.2.1)) 8000000) (mapO Sum.inr (some (0, [], 3))) (z6 (atI x.1 0) fun y => ifB (in1 x.1 4) (ifB (notB y) (mapO Sum.inr (ifB (eqI (wrem (wadd .i64 x.2.1 (wmul .i64 x_1.1 x.2.2.1)) 2) 0) (some (wquo .i64 (wadd .i64 x.2.1 (wmul .i64 x_1.1 x.2.2.1)) 2, yB x.1 4, 0)) (some (wneg .i64 (wadd .i64 (wquo .i64 (wadd .i64 x.2.1 (wmul .i64 x_1.1 x.2.2.1)) 2) 1), yB x.1 4, 0)))) (some (Sum.inl (yB x.1 4, wadd .i64 x.2.1 (wmul .i64 x_1.1 x.2.2.1), wmul .i64 x.2.2.1 8, wadd .i64 x.2.2.2 1)))) none))) (ifB (gtI (wadd .i64 x.2.1 (wmul .i64 x_1.1 x.2.2.1)) 8000000) (mapO Sum.inr (some (0, [], 3))) (z6 (atI x.1 0) fun y => ifB (in1 x.1 4) (ifB (notB y) (mapO Sum.inr (ifB (eqI (wrem (wadd .i64 x.2.1 (wmul .i64 x_1.1 x.2.2.1)) 2) 0) (some (wquo .i64 (wadd .i64 x.2.1 (wmul .i64 x_1.1 x.2.2.1)) 2, yB x.1 4, 0)) (some (wneg .i64 (wadd .i64 (wquo .i64 (wadd .i64 x.2.1 (wmul .i64 x_1.1 x.2.2.1)) 2) 1), yB x.1 4, 0)))) (some (Sum.inl (yB x.1 4, wadd .i64 x.2.1 (wmul .i64 x_1.1 x.2.2.1), wmul .i64 x.2.2.1 8, wadd .i64 x.2.2.2 1)))) none))))) (0, 0)) none))) (a, 0, 1, 0)
theorem z5x (x : PI V3) : yD x = fnE T z0Y z0Z z0X (zo Tryz.f161) V3 z0f x := by kernel_rfl
noncomputable abbrev z10 : GS := zq false V3 z0f fun x => yD x
theorem z5y : GSOK Tryz.prog 161 z10 := zm tok z8n fmo (Ht := z0Z) (fn := Tryz.f161) (Tryz.func161) (c := z0X) (by kernel_rfl) (by kernel_rfl) (by kernel_rfl) (by decide +kernel) (by decide) z5x
end Go.Proofs.Y
namespace Go.Proofs.Y
open Go.Rb Go.Kx
noncomputable def jz : Code := zj Tryz.f136
noncomputable def jA : FuncId → Option GS := tabG [(64, y0), (161, z10), (131, Yo)]
theorem z5z : ΓOK Tryz.prog jA := z8 (ZO) (z8 (z5y) (z8 (YO) (zf)))
def jB : HT := ⟨tabL [(5, .it [] (dyn [.t 0 (.sl 4 (.one .bool)), .a 6 73 (.cons (.int .i64) (.one (.int .i64))), .t 23 (.int .i64)]))], tabH []⟩
abbrev YY : List IT := [.v (.one (.sl 4 (.one .bool))) false, .v (.one (.int .i64)) false]
abbrev ja : List OT := [⟨.one (.sl 73 (.cons (.int .i64) (.one (.int .i64)))), false, []⟩, ⟨.one (.int .i64), false, []⟩]
set_option maxRecDepth 100000
noncomputable def yF : List Bool → Int → Option (List (Int × Int) × Int) := fun a b => z6 (zk b 0 40) fun y => ifB (notB y) (some ([], 2)) (zi maxR (fun (x : List Bool × Int × List (Int × Int)) => ifB (ltI x.2.1 b) (z6 (yD x.1) fun y => ifB (neI y.2.2 0) (mapO Sum.inr (some ([], y.2.2))) (z6 (yD y.2.1) fun y_1 => ifB (neI y_1.2.2 0) (mapO Sum.inr (some ([], y_1.2.2))) (ifB (ltL x.2.1 x.2.2) (z6 (atN x.2.2 (natI x.2.1)) fun y_2 => ifB (ltL (wadd .i64 x.2.1 1) x.2.2) (z6 (atN x.2.2 (natI (wadd .i64 x.2.1 1))) fun y_3 => z6 (zG (wadd .i64 (wsub .i64 (wmul .i64 2 y_3.1) y_2.1) y.1, wadd .i64 y_3.2 y_1.1)) fun y_4 => ifB (neI y_4 0) (mapO Sum.inr (some ([], y_4))) (ifB (gtI x.2.1 0) (ifB (leI (wadd .i64 (wsub .i64 (wmul .i64 2 y_3.1) y_2.1) y.1) y_3.1) (mapO Sum.inr (some ([], 7))) (ifB (zg 16 x.2.2 [(wadd .i64 (wsub .i64 (wmul .i64 2 y_3.1) y_2.1) y.1, wadd .i64 y_3.2 y_1.1)]) (some (Sum.inl (y_1.2.1, wadd .i64 x.2.1 1, cat x.2.2 [(wadd .i64 (wsub .i64 (wmul .i64 2 y_3.1) y_2.1) y.1, wadd .i64 y_3.2 y_1.1)]))) none)) (ifB (zg 16 x.2.2 [(wadd .i64 (wsub .i64 (wmul .i64 2 y_3.1) y_2.1) y.1, wadd .i64 y_3.2 y_1.1)]) (some (Sum.inl (y_1.2.1, wadd .i64 x.2.1 1, cat x.2.2 [(wadd .i64 (wsub .i64 (wmul .i64 2 y_3.1) y_2.1) y.1, wadd .i64 y_3.2 y_1.1)]))) none))) none) none))) (mapO Sum.inr (ifB (gtI (lenI x.1) 0) (some ([], 8)) (ifB (in1 x.2.2 2) (ifB (inN x.2.2 (addN 0 (natI 2)) (Zh (lenN x.2.2) 2)) (some (subN x.2.2 (addN 0 (natI 2)) (Zh (lenN x.2.2) 2), 0)) none) none)))) (a, 0, [(0, 0), (0, 0)]))
theorem z3E (x : PI YY) : yF (x.1) (x.2) = fnE T jA jB jz (zo Tryz.f136) YY ja x := by kernel_rfl
noncomputable abbrev jC : GS := zq false YY ja fun x => yF (x.1) (x.2)
theorem z3F : GSOK Tryz.prog 136 jC := zm tok z5z fmo (Ht := jB) (fn := Tryz.f136) (Tryz.func136) (c := jz) (by kernel_rfl) (by kernel_rfl) (by kernel_rfl) (by decide +kernel) (by decide) z3E
end Go.Proofs.Y
namespace Go.Proofs.Y
open Go.Rb Go.Kx
noncomputable def z0g : Code := zj Tryz.f105
noncomputable def z0h : FuncId → Option GS := tabG [(136, jC)]
theorem z7G : ΓOK Tryz.prog z0h := z8 (z3F) (zf)
def z0i : HT := ⟨tabL [], tabH []⟩
abbrev vK : List IT := [.v (.cons (.int .i64) (.cons (.int .i64) (.cons (.int .i64) (.one (.sl 4 (.one .bool)))))) true]
abbrev Jx : List OT := [⟨.one (.sl 73 (.cons (.int .i64) (.one (.int .i64)))), false, []⟩, ⟨.one (.int .i64), false, []⟩]
set_option maxRecDepth 100000
noncomputable def ye : Int × Int × Int × List Bool → Option (List (Int × Int) × Int) := fun a => z6 (yF a.2.2.2 a.1) fun y => ifB (eqI y.2 0) (ifB (eqI (lenI y.1) 0) (some ([], 4)) (z6 (atI y.1 0) fun y_1 => ifB (neI a.2.1 y_1.1) (some ([], 4)) (z6 (atI y.1 (wsub .i64 (lenI y.1) 1)) fun y_2 => ifB (neI a.2.2.1 y_2.1) (some ([], 4)) (ifB (neI y.2 0) (some ([], y.2)) (some (y.1, 0)))))) (ifB (neI y.2 0) (some ([], y.2)) (some (y.1, 0)))
theorem z4R (x : PI vK) : ye x = fnE T z0h z0i z0g (zo Tryz.f105) vK Jx x := by kernel_rfl
noncomputable abbrev V4 : GS := zq false vK Jx fun x => ye x
theorem jb : GSOK Tryz.prog 105 V4 := zm tok z7G fmo (Ht := z0i) (fn := Tryz.f105) (Tryz.func105) (c := z0g) (by kernel_rfl) (by kernel_rfl) (by kernel_rfl) (by decide +kernel) (by decide) z4R
end Go.Proofs.Y
namespace Go.Proofs.Y
open Go.Rb Go.Kx
noncomputable def jc : Code := zj Tryz.f106
noncomputable def jd : FuncId → Option GS := tabG [(131, Yo)]
theorem z4S : ΓOK Tryz.prog jd := z8 (YO) (zf)
def je : HT := ⟨tabL [(5, .it [] (dyn [.t 3 (.int .i64), .t 12 (.int .i64)]))], tabH []⟩
abbrev YS : List IT := [.v (.one (.sl 73 (.cons (.int .i64) (.one (.int .i64))))) false]
abbrev VL : List OT := [⟨.one (.int .i64), false, []⟩]
set_option maxRecDepth 100000
noncomputable def yh : List (Int × Int) → Option Int := fun a => ifB (gtI (lenI a) 40) (some 2) (zi maxR (fun (x : Int × Int) => ifB (ltI x.2 (lenI a)) (z6 (atI a x.2) fun y => z6 (zG (y.1, y.2)) fun y_1 => ifB (neI y_1 0) (mapO Sum.inr (some y_1)) (ifB (leI y.1 x.1) (mapO Sum.inr (some 7)) (some (Sum.inl (y.1, wadd .i64 x.2 1))))) (mapO Sum.inr (some 0))) (-1, 0))
theorem z2V (x : PI YS) : yh x = fnE T jd je jc (zo Tryz.f106) YS VL x := by kernel_rfl
noncomputable abbrev YZ : GS := zq false YS VL fun x => yh x
theorem Vh : GSOK Tryz.prog 106 YZ := zm tok z4S fmo (Ht := je) (fn := Tryz.f106) (Tryz.func106) (c := jc) (by kernel_rfl) (by kernel_rfl) (by kernel_rfl) (by decide +kernel) (by decide) z2V
end Go.Proofs.Y
namespace Go.Proofs.Y
open Go.Rb Go.Kx
noncomputable def Jy : Code := zj Tryz.f57
noncomputable def Jz : FuncId → Option GS := tabG [(105, V4), (106, YZ)]
theorem z6n : ΓOK Tryz.prog Jz := z8 (jb) (z8 (Vh) (zf))
def JA : HT := ⟨tabL [(5, .it [] (dyn [.a 4 73 (.cons (.int .i64) (.one (.int .i64))), .t 17 (.int .i64)]))], tabH []⟩
abbrev vt : List IT := [.v (.cons (.sl 126 (.cons (.int .i64) (.cons (.int .i64) (.cons (.int .i64) (.one (.sl 4 (.one .bool))))))) (.one (.sl 73 (.cons (.int .i64) (.one (.int .i64)))))) true]
abbrev jD : List OT := [⟨.one (.sl 73 (.cons (.int .i64) (.one (.int .i64)))), false, []⟩, ⟨.one (.int .i64), false, []⟩]
set_option maxRecDepth 100000
noncomputable def y8 : List (Int × Int × Int × List Bool) × List (Int × Int) → Option (List (Int × Int) × Int) := fun a => ifB (gtI (lenI a.1) 8) (some ([], 2)) (zi maxR (fun (x : Int × List (Int × Int)) => ifB (ltI x.1 (lenI a.1)) (z6 (atI a.1 x.1) fun y => z6 (ye (y.1, y.2.1, y.2.2.1, y.2.2.2)) fun y => ifB (neI y.2 0) (mapO Sum.inr (some ([], y.2))) (ifB (zg 16 x.2 y.1) (some (Sum.inl (wadd .i64 x.1 1, cat x.2 y.1))) none)) (mapO Sum.inr (ifB (zg 16 x.2 a.2) (z6 (yh (cat x.2 a.2)) fun y => ifB (neI y 0) (some ([], y)) (some (cat x.2 a.2, 0))) none))) (0, []))
theorem z3Z (x : PI vt) : y8 x = fnE T Jz JA Jy (zo Tryz.f57) vt jD x := by kernel_rfl
noncomputable abbrev vL : GS := zq false vt jD fun x => y8 x
theorem VM : GSOK Tryz.prog 57 vL := zm tok z6n fmo (Ht := JA) (fn := Tryz.f57) (Tryz.func57) (c := Jy) (by kernel_rfl) (by kernel_rfl) (by kernel_rfl) (by decide +kernel) (by decide) z3Z
end Go.Proofs.Y
namespace Go.Proofs.Y
open Go.Rb Go.Kx
noncomputable def jE : Code := zj Tryz.f111
noncomputable def jF : FuncId → Option GS := tabG [(57, vL)]
theorem z5A : ΓOK Tryz.prog jF := z8 (VM) (zf)
def jG : HT := ⟨tabL [(4, .it [] (dyn [.t 14 (.int .i64)]))], tabH []⟩
abbrev v8 : List IT := [.v (.one (.sl 95 (.cons (.sl 126 (.cons (.int .i64) (.cons (.int .i64) (.cons (.int .i64) (.one (.sl 4 (.one .bool))))))) (.one (.sl 73 (.cons (.int .i64) (.one (.int .i64)))))))) true]
abbrev jf : List OT := [⟨.one (.int .i64), false, []⟩]
set_option maxRecDepth 100000
noncomputable def yG : List (List (Int × Int × Int × List Bool) × List (Int × Int)) → Option Int := fun a => ifB (neI (lenI a) 4) (some 4) (zi maxR (fun (x : Int) => ifB (ltI x (lenI a)) (z6 (atI a x) fun y => z6 (y8 (y.1, y.2)) fun y => ifB (neI y.2 0) (mapO Sum.inr (some y.2)) (some (Sum.inl (wadd .i64 x 1)))) (mapO Sum.inr (some 0))) 0)
theorem z3G (x : PI v8) : yG x = fnE T jF jG jE (zo Tryz.f111) v8 jf x := by kernel_rfl
noncomputable abbrev jH : GS := zq false v8 jf fun x => yG x
theorem z3H : GSOK Tryz.prog 111 jH := zm tok z5A fmo (Ht := jG) (fn := Tryz.f111) (Tryz.func111) (c := jE) (by kernel_rfl) (by kernel_rfl) (by kernel_rfl) (by decide +kernel) (by decide) z3G
end Go.Proofs.Y
namespace Go.Proofs.Y
open Go.Rb Go.Kx
noncomputable def zih : Code := zj Tryz.f137
noncomputable def zii : FuncId → Option GS := tabG []
theorem zqk : ΓOK Tryz.prog zii := zf
def zij : HT := ⟨tabL [], tabH []⟩
abbrev z9o : List IT := [.v (.one (.sl 95 (.cons (.sl 126 (.cons (.int .i64) (.cons (.int .i64) (.cons (.int .i64) (.one (.sl 4 (.one .bool))))))) (.one (.sl 73 (.cons (.int .i64) (.one (.int .i64)))))))) false]
abbrev zfC : List OT := [⟨.one (.sl 95 (.cons (.sl 126 (.cons (.int .i64) (.cons (.int .i64) (.cons (.int .i64) (.one (.sl 4 (.one .bool))))))) (.one (.sl 73 (.cons (.int .i64) (.one (.int .i64))))))), false, [true]⟩]
set_option maxRecDepth 100000
noncomputable def Yz : List (List (Int × Int × Int × List Bool) × List (Int × Int)) → Option (List (List (Int × Int × Int × List Bool) × List (Int × Int))) := fun a => ifB (isE a) (ambO (some []) (ifB (zg 48 [] a) (some (cat [] a)) none)) (ifB (zg 48 [] a) (some (cat [] a)) none)
theorem zkU (x : PI z9o) : Yz x = fnE T zii zij zih (zo Tryz.f137) z9o zfC x := by kernel_rfl
noncomputable abbrev z11 : GS := zq false z9o zfC fun x => Yz x
theorem jI : GSOK Tryz.prog 137 z11 := zm tok zqk fmo (Ht := zij) (fn := Tryz.f137) (Tryz.func137) (c := zih) (by kernel_rfl) (by kernel_rfl) (by kernel_rfl) (by decide +kernel) (by decide) zkU
end Go.Proofs.Y
namespace Go.Proofs.Y
open Go.Rb Go.Kx
noncomputable def zkV : Code := zj Tryz.f139
noncomputable def zkW : FuncId → Option GS := tabG []
theorem zrX : ΓOK Tryz.prog zkW := zf
def zkX : HT := ⟨tabL [], tabH []⟩
abbrev zbf : List IT := [.v (.one (.sl 73 (.cons (.int .i64) (.one (.int .i64))))) false]
abbrev zik : List OT := [⟨.one (.sl 73 (.cons (.int .i64) (.one (.int .i64)))), false, [true]⟩]
set_option maxRecDepth 100000
noncomputable def Zq : List (Int × Int) → Option (List (Int × Int)) := fun a => ifB (isE a) (ambO (some []) (ifB (zg 16 [] a) (some (cat [] a)) none)) (ifB (zg 16 [] a) (some (cat [] a)) none)
theorem zn9 (x : PI zbf) : Zq x = fnE T zkW zkX zkV (zo Tryz.f139) zbf zik x := by kernel_rfl
noncomputable abbrev z5B : GS := zq false zbf zik fun x => Zq x
theorem z3r : GSOK Tryz.prog 139 z5B := zm tok zrX fmo (Ht := zkX) (fn := Tryz.f139) (Tryz.func139) (c := zkV) (by kernel_rfl) (by kernel_rfl) (by kernel_rfl) (by decide +kernel) (by decide) zn9
end Go.Proofs.Y
namespace Go.Proofs.Y
open Go.Rb Go.Kx
noncomputable def z1R : Code := zj Tryz.f132
noncomputable def z1S : FuncId → Option GS := tabG [(137, z11), (64, y0), (139, z5B), (57, vL)]
theorem z9p : ΓOK Tryz.prog z1S := z8 (jI) (z8 (ZO) (z8 (z3r) (z8 (VM) (zf))))
def z1T : HT := ⟨tabL [(5, .it [] (dyn [.t 21 (.int .i64), .a 6 95 (.cons (.sl 126 (.cons (.int .i64) (.cons (.int .i64) (.cons (.int .i64) (.one (.sl 4 (.one .bool))))))) (.one (.sl 73 (.cons (.int .i64) (.one (.int .i64)))))), .c 4 0 (.sl 95 (.cons (.sl 126 (.cons (.int .i64) (.cons (.int .i64) (.cons (.int .i64) (.one (.sl 4 (.one .bool))))))) (.one (.sl 73 (.cons (.int .i64) (.one (.int .i64)))))))]))], tabH [(5, [.touch 6])]⟩
abbrev Vi : List IT := [.v (.one (.sl 95 (.cons (.sl 126 (.cons (.int .i64) (.cons (.int .i64) (.cons (.int .i64) (.one (.sl 4 (.one .bool))))))) (.one (.sl 73 (.cons (.int .i64) (.one (.int .i64)))))))) true, .v (.one (.sl 77 (.cons (.int .i64) (.cons (.int .i64) (.one (.int .i64)))))) false]
abbrev z12 : List OT := [⟨.one (.sl 95 (.cons (.sl 126 (.cons (.int .i64) (.cons (.int .i64) (.cons (.int .i64) (.one (.sl 4 (.one .bool))))))) (.one (.sl 73 (.cons (.int .i64) (.one (.int .i64))))))), true, []⟩, ⟨.one (.int .i64), false, []⟩]
set_option maxRecDepth 100000
noncomputable def Yp : List (List (Int × Int × Int × List Bool) × List (Int × Int)) → List (Int × Int × Int) → Option (List (List (Int × Int × Int × List Bool) × List (Int × Int)) × Int) := fun a b => ifB (gtI (lenI b) 10) (some ([], 2)) (z6 (Yz a) fun y => zi maxR (fun (x : Int × List (List (Int × Int × Int × List Bool) × List (Int × Int)) × List (List (Int × Int × Int × List Bool) × List (Int × Int))) => ifB (ltI x.1 (lenI b)) (z6 (atI b x.1) fun y => z6 (zk y.1 0 3) fun y_1 => ifB (notB y_1) (mapO Sum.inr (some ([], 5))) (ifB (ltL y.1 x.2.2) (z6 (atN x.2.2 (natI y.1)) fun y_2 => z6 (Zq y_2.2) fun y_3 => ifB (zg 16 y_3 [(y.2.1, y.2.2)]) (z6 (y8 (y_2.1, cat y_3 [(y.2.1, y.2.2)])) fun y_4 => ifB (neI y_4.2 0) (mapO Sum.inr (some ([], y_4.2))) (ifB (ltL y.1 x.2.2) (z6 (atN x.2.2 (natI y.1)) fun y_5 => some (Sum.inl (wadd .i64 x.1 1, x.2.1, setN x.2.2 (natI y.1) (y_2.1, cat y_3 [(y.2.1, y.2.2)])))) none)) none) none)) (mapO Sum.inr (some (x.2.2, 0)))) (0, [], y))
theorem z6o (x : PI Vi) : Yp (x.1) (x.2) = fnE T z1S z1T z1R (zo Tryz.f132) Vi z12 x := by kernel_rfl
noncomputable abbrev z1U : GS := zq false Vi z12 fun x => Yp (x.1) (x.2)
theorem z6p : GSOK Tryz.prog 132 z1U := zm tok z9p fmo (Ht := z1T) (fn := Tryz.f132) (Tryz.func132) (c := z1R) (by kernel_rfl) (by kernel_rfl) (by kernel_rfl) (by decide +kernel) (by decide) z6o
end Go.Proofs.Y
namespace Go.Proofs.Y
open Go.Rb Go.Kx
noncomputable def zkY : Code := zj Tryz.f162
noncomputable def zkZ : FuncId → Option GS := tabG []
theorem zrY : ΓOK Tryz.prog zkZ := zf
def zl0 : HT := ⟨tabL [], tabH []⟩
abbrev zbg : List IT := [.v (.one (.sl 4 (.one .bool))) false]
abbrev zil : List OT := [⟨.one (.sl 4 (.one .bool)), false, [true]⟩]
set_option maxRecDepth 100000
noncomputable def z0Q : List Bool → Option (List Bool) := fun a => ifB (isE a) (ambO (some []) (ifB (zg 1 [] a) (some (cat [] a)) none)) (ifB (zg 1 [] a) (some (cat [] a)) none)
theorem zna (x : PI zbg) : z0Q x = fnE T zkZ zl0 zkY (zo Tryz.f162) zbg zil x := by kernel_rfl
noncomputable abbrev z9q : GS := zq false zbg zil fun x => z0Q x
theorem z7H : GSOK Tryz.prog 162 z9q := zm tok zrY fmo (Ht := zl0) (fn := Tryz.f162) (Tryz.func162) (c := zkY) (by kernel_rfl) (by kernel_rfl) (by kernel_rfl) (by decide +kernel) (by decide) zna
end Go.Proofs.Y
namespace Go.Proofs.Y
open Go.Rb Go.Kx
noncomputable def z2D : Code := zj Tryz.f202
noncomputable def z2E : FuncId → Option GS := tabG [(64, y0), (162, z9q)]
theorem zaJ : ΓOK Tryz.prog z2E := z8 (ZO) (z8 (z7H) (zf))
def z2F : HT := ⟨tabL [(8, .it [] (dyn [.t 6 (.int .i64), .a 7 3 (.one (.int .i64)), .t 8 (.bool)])), (14, .it [] (dyn [.a 9 4 (.one .bool), .t 39 (.int .i64)]))], tabH []⟩
abbrev VD : List IT := [.v (.one (.sl 4 (.one .bool))) false, .v (.one (.int .i64)) false]
abbrev z1V : List OT := [⟨.one (.sl 4 (.one .bool)), false, []⟩, ⟨.one (.int .i64), false, []⟩]
set_option maxRecDepth 100000
noncomputable def Z6 : List Bool → Int → Option (List Bool × Int) := fun a b => z6 (zk b (-4000000) 4000000) fun y => ifB (notB y) (some ([], 3)) (ifB (ltI b 0) (zi maxR (fun (x : Int × Bool × List Int) => ifB x.2.1 (ifB (zg 8 x.2.2 [wrem x.1 8]) (some (Sum.inl (wquo .i64 x.1 8, false, cat x.2.2 [wrem x.1 8]))) none) (ifB (gtI x.1 0) (ifB (zg 8 x.2.2 [wrem x.1 8]) (some (Sum.inl (wquo .i64 x.1 8, false, cat x.2.2 [wrem x.1 8]))) none) (mapO Sum.inr (z6 (z0Q a) fun y => zi maxR (fun (x_1 : Int × List Bool) => ifB (ltI x_1.1 (lenI x.2.2)) (ifB (ltL x_1.1 x.2.2) (z6 (atN x.2.2 (natI x_1.1)) fun y => ifB (zg 1 x_1.2 [ltI x_1.1 (wsub .i64 (lenI x.2.2) 1), geI y 4, geI (wrem y 4) 2, eqI (wrem y 2) 1]) (some (Sum.inl (wadd .i64 x_1.1 1, cat x_1.2 [ltI x_1.1 (wsub .i64 (lenI x.2.2) 1), geI y 4, geI (wrem y 4) 2, eqI (wrem y 2) 1]))) none) none) (mapO Sum.inr (some (x_1.2, 0)))) (0, y))))) (wsub .i64 (wmul .i64 2 (wneg .i64 b)) 1, true, [])) (zi maxR (fun (x : Int × Bool × List Int) => ifB x.2.1 (ifB (zg 8 x.2.2 [wrem x.1 8]) (some (Sum.inl (wquo .i64 x.1 8, false, cat x.2.2 [wrem x.1 8]))) none) (ifB (gtI x.1 0) (ifB (zg 8 x.2.2 [wrem x.1 8]) (some (Sum.inl (wquo .i64 x.1 8, false, cat x.2.2 [wrem x.1 8]))) none) (mapO Sum.inr (z6 (z0Q a) fun y => zi maxR (fun (x_1 : Int × List Bool) => ifB (ltI x_1.1 (lenI x.2.2)) (ifB (ltL x_1.1 x.2.2) (z6 (atN x.2.2 (natI x_1.1)) fun y => ifB (zg 1 x_1.2 [ltI x_1.1 (wsub .i64 (lenI x.2.2) 1), geI y 4, geI (wrem y 4) 2, eqI (wrem y 2) 1]) (some (Sum.inl (wadd .i64 x_1.1 1, cat x_1.2 [ltI x_1.1 (wsub .i64 (lenI x.2.2) 1), geI y 4, geI (wrem y 4) 2, eqI (wrem y 2) 1]))) none) none) (mapO Sum.inr (some (x_1.2, 0)))) (0, y))))) (wmul .i64 2 b, true, [])))
theorem z7I (x : PI VD) : Z6 (x.1) (x.2) = fnE T z2E z2F z2D (zo Tryz.f202) VD z1V x := by kernel_rfl
noncomputable abbrev z2G : GS := zq false VD z1V fun x => Z6 (x.1) (x.2)
theorem z7J : GSOK Tryz.prog 202 z2G := zm tok zaJ fmo (Ht := z2F) (fn := Tryz.f202) (Tryz.func202) (c := z2D) (by kernel_rfl) (by kernel_rfl) (by kernel_rfl) (by decide +kernel) (by decide) z7I
end Go.Proofs.Y
namespace Go.Proofs.Y
open Go.Rb Go.Kx
noncomputable def z0j : Code := zj Tryz.f179
noncomputable def z0k : FuncId → Option GS := tabG [(106, YZ), (202, z2G)]
theorem z7K : ΓOK Tryz.prog z0k := z8 (Vh) (z8 (z7J) (zf))
def z0l : HT := ⟨tabL [(6, .it [] (dyn [.t 5 (.sl 4 (.one .bool)), .t 17 (.int .i64)]))], tabH []⟩
abbrev vM : List IT := [.v (.one (.sl 73 (.cons (.int .i64) (.one (.int .i64))))) false]
abbrev JB : List OT := [⟨.one (.sl 4 (.one .bool)), false, []⟩, ⟨.one (.int .i64), false, []⟩]
set_option maxRecDepth 100000
noncomputable def Y2 : List (Int × Int) → Option (List Bool × Int) := fun a => z6 (yh a) fun y => ifB (neI y 0) (some ([], y)) (zi maxR (fun (x : List Bool × Int) => ifB (ltI x.2 (lenI a)) (z6 (atI a x.2) fun y => ifB (gtI x.2 0) (z6 (atI a (wsub .i64 x.2 1)) fun y_1 => z6 (atI a (wsub .i64 x.2 1)) fun y_2 => ifB (gtI x.2 1) (z6 (atI a (wsub .i64 x.2 2)) fun y_3 => z6 (Z6 x.1 (wadd .i64 (wsub .i64 y.1 (wmul .i64 2 y_2.1)) y_3.1)) fun y_4 => z6 (Z6 y_4.1 (wsub .i64 y.2 y_1.2)) fun y => some (Sum.inl (y.1, wadd .i64 x.2 1))) (z6 (Z6 x.1 (wsub .i64 y.1 (wmul .i64 2 y_2.1))) fun y_3 => z6 (Z6 y_3.1 (wsub .i64 y.2 y_1.2)) fun y => some (Sum.inl (y.1, wadd .i64 x.2 1)))) (ifB (gtI x.2 1) (z6 (atI a (wsub .i64 x.2 2)) fun y_1 => z6 (Z6 x.1 (wadd .i64 y.1 y_1.1)) fun y_2 => z6 (Z6 y_2.1 y.2) fun y => some (Sum.inl (y.1, wadd .i64 x.2 1))) (z6 (Z6 x.1 y.1) fun y_1 => z6 (Z6 y_1.1 y.2) fun y => some (Sum.inl (y.1, wadd .i64 x.2 1))))) (mapO Sum.inr (some (x.1, 0)))) ([], 0))
theorem z4T (x : PI vM) : Y2 x = fnE T z0k z0l z0j (zo Tryz.f179) vM JB x := by kernel_rfl
noncomputable abbrev z0m : GS := zq false vM JB fun x => Y2 x
theorem z4U : GSOK Tryz.prog 179 z0m := zm tok z7K fmo (Ht := z0l) (fn := Tryz.f179) (Tryz.func179) (c := z0j) (by kernel_rfl) (by kernel_rfl) (by kernel_rfl) (by decide +kernel) (by decide) z4T
end Go.Proofs.Y
namespace Go.Proofs.Y
open Go.Rb Go.Kx
noncomputable def z13 : Code := zj Tryz.f158
noncomputable def z14 : FuncId → Option GS := tabG [(179, z0m)]
theorem z8o : ΓOK Tryz.prog z14 := z8 (z4U) (zf)
def z15 : HT := ⟨tabL [], tabH []⟩
abbrev V5 : List IT := [.v (.one (.sl 73 (.cons (.int .i64) (.one (.int .i64))))) false]
abbrev z0n : List OT := [⟨.cons (.int .i64) (.cons (.int .i64) (.cons (.int .i64) (.one (.sl 4 (.one .bool))))), true, []⟩, ⟨.one (.int .i64), false, []⟩]
set_option maxRecDepth 100000
noncomputable def yE : List (Int × Int) → Option ((Int × Int × Int × List Bool) × Int) := fun a => z6 (Y2 a) fun y => ifB (eqI y.2 0) (ifB (eqI (lenI a) 0) (some ((0, 0, 0, []), 4)) (ifB (neI y.2 0) (some ((0, 0, 0, []), y.2)) (z6 (atI a 0) fun y_1 => z6 (atI a (wsub .i64 (lenI a) 1)) fun y_2 => some ((lenI a, y_1.1, y_2.1, y.1), 0)))) (ifB (neI y.2 0) (some ((0, 0, 0, []), y.2)) (z6 (atI a 0) fun y_1 => z6 (atI a (wsub .i64 (lenI a) 1)) fun y_2 => some ((lenI a, y_1.1, y_2.1, y.1), 0)))
theorem z5C (x : PI V5) : yE x = fnE T z14 z15 z13 (zo Tryz.f158) V5 z0n x := by kernel_rfl
noncomputable abbrev Vj : GS := zq false V5 z0n fun x => yE x
theorem jJ : GSOK Tryz.prog 158 Vj := zm tok z8o fmo (Ht := z15) (fn := Tryz.f158) (Tryz.func158) (c := z13) (by kernel_rfl) (by kernel_rfl) (by kernel_rfl) (by decide +kernel) (by decide) z5C
end Go.Proofs.Y
namespace Go.Proofs.Y
open Go.Rb Go.Kx
noncomputable def zim : Code := zj Tryz.f138
noncomputable def zin : FuncId → Option GS := tabG []
theorem zql : ΓOK Tryz.prog zin := zf
def zio : HT := ⟨tabL [], tabH []⟩
abbrev z9r : List IT := [.v (.one (.sl 126 (.cons (.int .i64) (.cons (.int .i64) (.cons (.int .i64) (.one (.sl 4 (.one .bool)))))))) false]
abbrev zfD : List OT := [⟨.one (.sl 126 (.cons (.int .i64) (.cons (.int .i64) (.cons (.int .i64) (.one (.sl 4 (.one .bool))))))), false, [true]⟩]
set_option maxRecDepth 100000
noncomputable def Ze : List (Int × Int × Int × List Bool) → Option (List (Int × Int × Int × List Bool)) := fun a => ifB (isE a) (ambO (some []) (ifB (zg 48 [] a) (some (cat [] a)) none)) (ifB (zg 48 [] a) (some (cat [] a)) none)
theorem zl1 (x : PI z9r) : Ze x = fnE T zin zio zim (zo Tryz.f138) z9r zfD x := by kernel_rfl
noncomputable abbrev z6Z : GS := zq false z9r zfD fun x => Ze x
theorem z5D : GSOK Tryz.prog 138 z6Z := zm tok zql fmo (Ht := zio) (fn := Tryz.f138) (Tryz.func138) (c := zim) (by kernel_rfl) (by kernel_rfl) (by kernel_rfl) (by decide +kernel) (by decide) zl1
end Go.Proofs.Y
namespace Go.Proofs.Y
open Go.Rb Go.Kx
noncomputable def z1W : Code := zj Tryz.f133
noncomputable def z1X : FuncId → Option GS := tabG [(64, y0), (137, z11), (158, Vj), (138, z6Z)]
theorem z9s : ΓOK Tryz.prog z1X := z8 (ZO) (z8 (jI) (z8 (jJ) (z8 (z5D) (zf))))
def z1Y : HT := ⟨tabL [], tabH []⟩
abbrev Vk : List IT := [.v (.one (.sl 95 (.cons (.sl 126 (.cons (.int .i64) (.cons (.int .i64) (.cons (.int .i64) (.one (.sl 4 (.one .bool))))))) (.one (.sl 73 (.cons (.int .i64) (.one (.int .i64)))))))) true, .v (.one (.int .i64)) false, .v (.one (.int .i64)) false]
abbrev z16 : List OT := [⟨.one (.sl 95 (.cons (.sl 126 (.cons (.int .i64) (.cons (.int .i64) (.cons (.int .i64) (.one (.sl 4 (.one .bool))))))) (.one (.sl 73 (.cons (.int .i64) (.one (.int .i64))))))), true, []⟩, ⟨.one (.int .i64), false, []⟩]
set_option maxRecDepth 100000
noncomputable def Yq : List (List (Int × Int × Int × List Bool) × List (Int × Int)) → Int → Int → Option (List (List (Int × Int × Int × List Bool) × List (Int × Int)) × Int) := fun a b c => z6 (zk b 0 3) fun y => ifB (notB y) (some ([], 5)) (z6 (Yz a) fun y => ifB (ltL b y) (z6 (atN y (natI b)) fun y_1 => z6 (zk c 1 (lenI y_1.2)) fun y_2 => ifB (notB y_2) (some ([], 3)) (ifB (geI (lenI y_1.1) 8) (some ([], 2)) (ifB (in1 y_1.2 c) (z6 (yE (YB y_1.2 c)) fun y_3 => z6 (Ze y_1.1) fun y_4 => ifB (zg 48 y_4 [(y_3.1.1, y_3.1.2.1, y_3.1.2.2.1, y_3.1.2.2.2)]) (ifB (in1 y_1.2 c) (ifB (ltL b y) (z6 (atN y (natI b)) fun y_5 => some (setN y (natI b) (cat y_4 [(y_3.1.1, y_3.1.2.1, y_3.1.2.2.1, y_3.1.2.2.2)], yB y_1.2 c), 0)) none) none) none) none))) none)
theorem z6q (x : PI Vk) : Yq (x.1) (x.2.1) (x.2.2) = fnE T z1X z1Y z1W (zo Tryz.f133) Vk z16 x := by kernel_rfl
noncomputable abbrev z1Z : GS := zq false Vk z16 fun x => Yq (x.1) (x.2.1) (x.2.2)
theorem z6r : GSOK Tryz.prog 133 z1Z := zm tok z9s fmo (Ht := z1Y) (fn := Tryz.f133) (Tryz.func133) (c := z1W) (by kernel_rfl) (by kernel_rfl) (by kernel_rfl) (by decide +kernel) (by decide) z6q
end Go.Proofs.Y
namespace Go.Proofs.Y
open Go.Rb Go.Kx
noncomputable def z22 : Code := zj Tryz.f159
noncomputable def z23 : FuncId → Option GS := tabG [(105, V4), (139, z5B), (158, Vj)]
theorem z9t : ΓOK Tryz.prog z23 := z8 (jb) (z8 (z3r) (z8 (jJ) (zf)))
def z24 : HT := ⟨tabL [], tabH []⟩
abbrev Vl : List IT := [.v (.cons (.int .i64) (.cons (.int .i64) (.cons (.int .i64) (.one (.sl 4 (.one .bool)))))) true, .v (.cons (.int .i64) (.cons (.int .i64) (.cons (.int .i64) (.one (.sl 4 (.one .bool)))))) true]
abbrev z17 : List OT := [⟨.cons (.int .i64) (.cons (.int .i64) (.cons (.int .i64) (.one (.sl 4 (.one .bool))))), true, []⟩, ⟨.one (.int .i64), false, []⟩]
set_option maxRecDepth 100000
noncomputable def Yr : Int × Int × Int × List Bool → Int × Int × Int × List Bool → Option ((Int × Int × Int × List Bool) × Int) := fun a b => z6 (ye (a.1, a.2.1, a.2.2.1, a.2.2.2)) fun y => ifB (neI y.2 0) (some ((0, 0, 0, []), y.2)) (z6 (ye (b.1, b.2.1, b.2.2.1, b.2.2.2)) fun y_1 => ifB (neI y_1.2 0) (some ((0, 0, 0, []), y_1.2)) (z6 (Zq y.1) fun y => ifB (zg 16 y y_1.1) (z6 (yE (cat y y_1.1)) fun y => some ((y.1.1, y.1.2.1, y.1.2.2.1, y.1.2.2.2), y.2)) none))
theorem z6s (x : PI Vl) : Yr (x.1) (x.2) = fnE T z23 z24 z22 (zo Tryz.f159) Vl z17 x := by kernel_rfl
noncomputable abbrev z25 : GS := zq false Vl z17 fun x => Yr (x.1) (x.2)
theorem z6t : GSOK Tryz.prog 159 z25 := zm tok z9t fmo (Ht := z24) (fn := Tryz.f159) (Tryz.func159) (c := z22) (by kernel_rfl) (by kernel_rfl) (by kernel_rfl) (by decide +kernel) (by decide) z6s
end Go.Proofs.Y
namespace Go.Proofs.Y
open Go.Rb Go.Kx
noncomputable def zl2 : Code := zj Tryz.f180
noncomputable def zl3 : FuncId → Option GS := tabG []
theorem zrZ : ΓOK Tryz.prog zl3 := zf
def zl4 : HT := ⟨tabL [], tabH []⟩
noncomputable def zl5 : GS := inl T zl3 zl4 zl2 (zo Tryz.f180) (Tryz.f180.ntmps)
theorem znb : GSOK Tryz.prog 180 zl5 := yR tok zrZ fmo (Ht := zl4) (fn := Tryz.f180) (Tryz.func180) (c := zl2) (by kernel_rfl) (by kernel_rfl) (by kernel_rfl)
end Go.Proofs.Y
namespace Go.Proofs.Y
open Go.Rb Go.Kx
noncomputable def zfE : Code := zj Tryz.f160
noncomputable def zfF : FuncId → Option GS := tabG [(180, zl5)]
theorem zp7 : ΓOK Tryz.prog zfF := z8 (znb) (zf)
def zfG : HT := ⟨tabL [(3, .it [] (dyn [.t 3 (.int .i64), .t 11 (.int .i64)])), (11, .it [] (dyn [.a 6 126 (.cons (.int .i64) (.cons (.int .i64) (.cons (.int .i64) (.one (.sl 4 (.one .bool)))))), .t 27 (.int .i64)]))], tabH [(10, [.trim 6])]⟩
abbrev z7L : List IT := [.v (.one (.sl 93 (.one (.sl 126 (.cons (.int .i64) (.cons (.int .i64) (.cons (.int .i64) (.one (.sl 4 (.one .bool)))))))))) false]
abbrev zdK : List OT := [⟨.one (.sl 126 (.cons (.int .i64) (.cons (.int .i64) (.cons (.int .i64) (.one (.sl 4 (.one .bool))))))), false, []⟩]
set_option maxRecDepth 100000
noncomputable def z4V : List (List (Int × Int × Int × List Bool)) → Option (List (Int × Int × Int × List Bool)) := fun a => zi maxR (fun (x : Int × Int) => ifB (ltI x.2 (lenI a)) (z6 (atI a x.2) fun y => ifB (ltI (wadd .i64 x.1 (lenI y)) 0) none (some (Sum.inl (wadd .i64 x.1 (lenI y), wadd .i64 x.2 1)))) (mapO Sum.inr (ifB (ltI x.1 0) none (ifB (gtI (wsub .i64 x.1 (wsub .i64 0 0)) 0) (ifB (z1H 48 (wsub .i64 x.1 (wsub .i64 0 0))) (ifB (in1 (repI (wsub .i64 x.1 (wsub .i64 0 0)) ((0, 0, 0, []) : Int × Int × Int × List Bool)) 0) (ifB (inN (repI (wsub .i64 x.1 (wsub .i64 0 0)) ((0, 0, 0, []) : Int × Int × Int × List Bool)) 0 (natI 0)) (zi maxR (fun (x : Int × List (Int × Int × Int × List Bool)) => ifB (ltI x.1 (lenI a)) (z6 (atI a x.1) fun y => ifB (zg 48 x.2 y) (some (Sum.inl (wadd .i64 x.1 1, cat x.2 y))) none) (mapO Sum.inr (some x.2))) (0, subN (repI (wsub .i64 x.1 (wsub .i64 0 0)) ((0, 0, 0, []) : Int × Int × Int × List Bool)) 0 (natI 0))) none) none) none) (zi maxR (fun (x : Int × List (Int × Int × Int × List Bool)) => ifB (ltI x.1 (lenI a)) (z6 (atI a x.1) fun y => ifB (zg 48 x.2 y) (some (Sum.inl (wadd .i64 x.1 1, cat x.2 y))) none) (mapO Sum.inr (some x.2))) (0, [])))))) (0, 0)
theorem zjt (x : PI z7L) : z4V x = fnE T zfF zfG zfE (zo Tryz.f160) z7L zdK x := by kernel_rfl
noncomputable abbrev zfH : GS := zq false z7L zdK fun x => z4V x
theorem zju : GSOK Tryz.prog 160 zfH := zm tok zp7 fmo (Ht := zfG) (fn := Tryz.f160) (Tryz.func160) (c := zfE) (by kernel_rfl) (by kernel_rfl) (by kernel_rfl) (by decide +kernel) (by decide) zjt
end Go.Proofs.Y
namespace Go.Proofs.Y
open Go.Rb Go.Kx
noncomputable def JC : Code := zj Tryz.f134
noncomputable def JD : FuncId → Option GS := tabG [(64, y0), (137, z11), (159, z25), (160, zfH)]
theorem z6u : ΓOK Tryz.prog JD := z8 (ZO) (z8 (jI) (z8 (z6t) (z8 (zju) (zf))))
def JE : HT := ⟨tabL [], tabH []⟩
abbrev vu : List IT := [.v (.one (.sl 95 (.cons (.sl 126 (.cons (.int .i64) (.cons (.int .i64) (.cons (.int .i64) (.one (.sl 4 (.one .bool))))))) (.one (.sl 73 (.cons (.int .i64) (.one (.int .i64)))))))) true, .v (.one (.int .i64)) false, .v (.one (.int .i64)) false]
abbrev jK : List OT := [⟨.one (.sl 95 (.cons (.sl 126 (.cons (.int .i64) (.cons (.int .i64) (.cons (.int .i64) (.one (.sl 4 (.one .bool))))))) (.one (.sl 73 (.cons (.int .i64) (.one (.int .i64))))))), true, []⟩, ⟨.one (.int .i64), false, []⟩]
set_option maxRecDepth 100000
noncomputable def yS : List (List (Int × Int × Int × List Bool) × List (Int × Int)) → Int → Int → Option (List (List (Int × Int × Int × List Bool) × List (Int × Int)) × Int) := fun a b c => z6 (zk b 0 3) fun y => ifB (notB y) (some ([], 5)) (z6 (Yz a) fun y => ifB (ltL b y) (z6 (atN y (natI b)) fun y_1 => ifB (ltI c 0) (some ([], 3)) (ifB (leI (wadd .i64 c 1) 0) (some ([], 3)) (ifB (geI (wadd .i64 c 1) (lenI y_1.1)) (some ([], 3)) (z6 (atI y_1.1 c) fun y_2 => z6 (atI y_1.1 (wadd .i64 c 1)) fun y_3 => z6 (Yr (y_2.1, y_2.2.1, y_2.2.2.1, y_2.2.2.2) (y_3.1, y_3.2.1, y_3.2.2.1, y_3.2.2.2)) fun y_4 => ifB (neI y_4.2 0) (some ([], y_4.2)) (ifB (in1 y_1.1 c) (ifB (in1 y_1.1 (wadd .i64 c 2)) (z6 (z4V [YB y_1.1 c, [(y_4.1.1, y_4.1.2.1, y_4.1.2.2.1, y_4.1.2.2.2)], yB y_1.1 (wadd .i64 c 2)]) fun y_5 => ifB (ltL b y) (z6 (atN y (natI b)) fun y_6 => some (setN y (natI b) (y_5, y_1.2), 0)) none) none) none))))) none)
theorem z40 (x : PI vu) : yS (x.1) (x.2.1) (x.2.2) = fnE T JD JE JC (zo Tryz.f134) vu jK x := by kernel_rfl
noncomputable abbrev JF : GS := zq false vu jK fun x => yS (x.1) (x.2.1) (x.2.2)
theorem z41 : GSOK Tryz.prog 134 JF := zm tok z6u fmo (Ht := JE) (fn := Tryz.f134) (Tryz.func134) (c := JC) (by kernel_rfl) (by kernel_rfl) (by kernel_rfl) (by decide +kernel) (by decide) z40
end Go.Proofs.Y
namespace Go.Proofs.Y
open Go.Rb Go.Kx
noncomputable def z18 : Code := zj Tryz.f135
noncomputable def z19 : FuncId → Option GS := tabG [(64, y0)]
theorem z8p : ΓOK Tryz.prog z19 := z8 (ZO) (zf)
def z1a : HT := ⟨tabL [(5, .it [] (dyn [.t 19 (.int .i64), .b 6 0 95 (.cons (.sl 126 (.cons (.int .i64) (.cons (.int .i64) (.cons (.int .i64) (.one (.sl 4 (.one .bool))))))) (.one (.sl 73 (.cons (.int .i64) (.one (.int .i64))))))])), (9, .it [] (dyn [.t 29 (.int .i64), .b 9 0 126 (.cons (.int .i64) (.cons (.int .i64) (.cons (.int .i64) (.one (.sl 4 (.one .bool))))))]))], tabH []⟩
abbrev V6 : List IT := [.v (.one (.sl 95 (.cons (.sl 126 (.cons (.int .i64) (.cons (.int .i64) (.cons (.int .i64) (.one (.sl 4 (.one .bool))))))) (.one (.sl 73 (.cons (.int .i64) (.one (.int .i64)))))))) true, .v (.one (.int .i64)) false]
abbrev z0o : List OT := [⟨.one (.sl 95 (.cons (.sl 126 (.cons (.int .i64) (.cons (.int .i64) (.cons (.int .i64) (.one (.sl 4 (.one .bool))))))) (.one (.sl 73 (.cons (.int .i64) (.one (.int .i64))))))), true, []⟩, ⟨.one (.int .i64), false, []⟩]
set_option maxRecDepth 100000
noncomputable def Ye : List (List (Int × Int × Int × List Bool) × List (Int × Int)) → Int → Option (List (List (Int × Int × Int × List Bool) × List (Int × Int)) × Int) := fun a b => z6 (zk b 0 100001) fun y => ifB (notB y) (some ([], 3)) (zi maxR (fun (x : Int × List (List (Int × Int × Int × List Bool) × List (Int × Int))) => ifB (ltI x.1 (lenI a)) (z6 (atI a x.1) fun y => zi maxR (fun (x_1 : Int × List (Int × Int × Int × List Bool)) => ifB (ltI x_1.1 (lenI y.1)) (z6 (atI y.1 x_1.1) fun y => ifB (geI y.2.2.1 b) (ifB (zg 48 x_1.2 [(y.1, y.2.1, y.2.2.1, y.2.2.2)]) (some (Sum.inl (wadd .i64 x_1.1 1, cat x_1.2 [(y.1, y.2.1, y.2.2.1, y.2.2.2)]))) none) (some (Sum.inl (wadd .i64 x_1.1 1, x_1.2)))) (mapO Sum.inr (ifB (zg 48 x.2 [(x_1.2, y.2)]) (some (Sum.inl (wadd .i64 x.1 1, cat x.2 [(x_1.2, y.2)]))) none))) (0, [])) (mapO Sum.inr (some (x.2, 0)))) (0, []))
theorem z5E (x : PI V6) : Ye (x.1) (x.2) = fnE T z19 z1a z18 (zo Tryz.f135) V6 z0o x := by kernel_rfl
noncomputable abbrev z1b : GS := zq false V6 z0o fun x => Ye (x.1) (x.2)
theorem z5F : GSOK Tryz.prog 135 z1b := zm tok z8p fmo (Ht := z1a) (fn := Tryz.f135) (Tryz.func135) (c := z18) (by kernel_rfl) (by kernel_rfl) (by kernel_rfl) (by decide +kernel) (by decide) z5E
end Go.Proofs.Y
namespace Go.Proofs.Y
open Go.Rb Go.Kx
noncomputable def z26 : Code := zj Tryz.f104
noncomputable def z27 : FuncId → Option GS := tabG [(132, z1U), (133, z1Z), (134, JF), (135, z1b)]
theorem z9u : ΓOK Tryz.prog z27 := z8 (z6p) (z8 (z6r) (z8 (z41) (z8 (z5F) (zf))))
def z28 : HT := ⟨tabL [], tabH []⟩
abbrev Vm : List IT := [.v (.one (.sl 95 (.cons (.sl 126 (.cons (.int .i64) (.cons (.int .i64) (.cons (.int .i64) (.one (.sl 4 (.one .bool))))))) (.one (.sl 73 (.cons (.int .i64) (.one (.int .i64)))))))) true, .v (.cons (.int .i64) (.cons (.int .i64) (.cons (.int .i64) (.one (.sl 77 (.cons (.int .i64) (.cons (.int .i64) (.one (.int .i64))))))))) true]
abbrev z1c : List OT := [⟨.one (.sl 95 (.cons (.sl 126 (.cons (.int .i64) (.cons (.int .i64) (.cons (.int .i64) (.one (.sl 4 (.one .bool))))))) (.one (.sl 73 (.cons (.int .i64) (.one (.int .i64))))))), true, []⟩, ⟨.one (.int .i64), false, []⟩]
set_option maxRecDepth 100000
noncomputable def yd : List (List (Int × Int × Int × List Bool) × List (Int × Int)) → Int × Int × Int × List (Int × Int × Int) → Option (List (List (Int × Int × Int × List Bool) × List (Int × Int)) × Int) := fun a b => ifB (eqI b.1 1) (z6 (Yp a b.2.2.2) fun y => some (y.1, y.2)) (ifB (eqI b.1 2) (z6 (Yq a b.2.1 b.2.2.1) fun y => some (y.1, y.2)) (ifB (eqI b.1 3) (z6 (yS a b.2.1 b.2.2.1) fun y => some (y.1, y.2)) (z6 (Ye a b.2.2.1) fun y => some (y.1, y.2))))
theorem z6v (x : PI Vm) : yd (x.1) (x.2) = fnE T z27 z28 z26 (zo Tryz.f104) Vm z1c x := by kernel_rfl
noncomputable abbrev VE : GS := zq false Vm z1c fun x => yd (x.1) (x.2)
theorem JG : GSOK Tryz.prog 104 VE := zm tok z9u fmo (Ht := z28) (fn := Tryz.f104) (Tryz.func104) (c := z26) (by kernel_rfl) (by kernel_rfl) (by kernel_rfl) (by decide +kernel) (by decide) z6v
end Go.Proofs.Y
namespace Go.Proofs.Y
open Go.Rb Go.Kx
noncomputable def z29 : Code := zj Tryz.f72
noncomputable def z2a : FuncId → Option GS := tabG [(111, jH), (103, Y1), (104, VE)]
theorem z9v : ΓOK Tryz.prog z2a := z8 (z3H) (z8 (Yi) (z8 (JG) (zf)))
def z2b : HT := ⟨tabL [], tabH []⟩
abbrev Vn : List IT := [.v (.one (.sl 95 (.cons (.sl 126 (.cons (.int .i64) (.cons (.int .i64) (.cons (.int .i64) (.one (.sl 4 (.one .bool))))))) (.one (.sl 73 (.cons (.int .i64) (.one (.int .i64)))))))) true, .v (.cons (.int .i64) (.cons (.int .i64) (.cons (.int .i64) (.one (.sl 77 (.cons (.int .i64) (.cons (.int .i64) (.one (.int .i64))))))))) true]
abbrev z1d : List OT := [⟨.one (.sl 95 (.cons (.sl 126 (.cons (.int .i64) (.cons (.int .i64) (.cons (.int .i64) (.one (.sl 4 (.one .bool))))))) (.one (.sl 73 (.cons (.int .i64) (.one (.int .i64))))))), true, []⟩, ⟨.one (.int .i64), false, []⟩]
set_option maxRecDepth 100000
noncomputable def ZW : List (List (Int × Int × Int × List Bool) × List (Int × Int)) → Int × Int × Int × List (Int × Int × Int) → Option (List (List (Int × Int × Int × List Bool) × List (Int × Int)) × Int) := fun a b => z6 (yG a) fun y => ifB (neI y 0) (some ([], y)) (z6 (zn (b.1, b.2.1, b.2.2.1, b.2.2.2)) fun y => ifB (neI y 0) (some ([], y)) (z6 (yd a (b.1, b.2.1, b.2.2.1, b.2.2.2)) fun y => some (y.1, y.2)))
theorem z6w (x : PI Vn) : ZW (x.1) (x.2) = fnE T z2a z2b z29 (zo Tryz.f72) Vn z1d x := by kernel_rfl
noncomputable abbrev z2c : GS := zq false Vn z1d fun x => ZW (x.1) (x.2)
theorem z6x : GSOK Tryz.prog 72 z2c := zm tok z9v fmo (Ht := z2b) (fn := Tryz.f72) (Tryz.func72) (c := z29) (by kernel_rfl) (by kernel_rfl) (by kernel_rfl) (by decide +kernel) (by decide) z6w
end Go.Proofs.Y
namespace Go.Proofs.Y
open Go.Rb Go.Kx
noncomputable def z1e : Code := zj Tryz.f56
noncomputable def z1f : FuncId → Option GS := tabG [(70, zkS), (103, Y1), (104, VE)]
theorem z8q : ΓOK Tryz.prog z1f := z8 (zn8) (z8 (Yi) (z8 (JG) (zf)))
def z1g : HT := ⟨tabL [(5, .it [] (dyn [.t 17 (.int .i64), .c 2 0 (.sl 95 (.cons (.sl 126 (.cons (.int .i64) (.cons (.int .i64) (.cons (.int .i64) (.one (.sl 4 (.one .bool))))))) (.one (.sl 73 (.cons (.int .i64) (.one (.int .i64))))))), .c 4 0 (.sl 95 (.cons (.sl 126 (.cons (.int .i64) (.cons (.int .i64) (.cons (.int .i64) (.one (.sl 4 (.one .bool))))))) (.one (.sl 73 (.cons (.int .i64) (.one (.int .i64)))))))]))], tabH []⟩
abbrev V7 : List IT := [.v (.one (.sl 52 (.cons (.int .i64) (.cons (.int .i64) (.cons (.int .i64) (.one (.sl 77 (.cons (.int .i64) (.cons (.int .i64) (.one (.int .i64))))))))))) false]
abbrev z0p : List OT := [⟨.one (.sl 95 (.cons (.sl 126 (.cons (.int .i64) (.cons (.int .i64) (.cons (.int .i64) (.one (.sl 4 (.one .bool))))))) (.one (.sl 73 (.cons (.int .i64) (.one (.int .i64))))))), true, []⟩, ⟨.one (.int .i64), false, []⟩]
set_option maxRecDepth 100000
noncomputable def ZJ : List (Int × Int × Int × List (Int × Int × Int)) → Option (List (List (Int × Int × Int × List Bool) × List (Int × Int)) × Int) := fun a => ifB (gtI (lenI a) 60) (some ([], 2)) (z6 z5s fun y => zi maxR (fun (x : Int × List (List (Int × Int × Int × List Bool) × List (Int × Int)) × List (List (Int × Int × Int × List Bool) × List (Int × Int))) => ifB (ltI x.1 (lenI a)) (z6 (atI a x.1) fun y => z6 (zn (y.1, y.2.1, y.2.2.1, y.2.2.2)) fun y_1 => ifB (neI y_1 0) (mapO Sum.inr (some ([], y_1))) (z6 (yd x.2.2 (y.1, y.2.1, y.2.2.1, y.2.2.2)) fun y => ifB (neI y.2 0) (mapO Sum.inr (some ([], y.2))) (some (Sum.inl (wadd .i64 x.1 1, x.2.1, y.1))))) (mapO Sum.inr (some (x.2.2, 0)))) (0, [], y))
theorem z5G (x : PI V7) : ZJ x = fnE T z1f z1g z1e (zo Tryz.f56) V7 z0p x := by kernel_rfl
noncomputable abbrev Vo : GS := zq false V7 z0p fun x => ZJ x
theorem jL : GSOK Tryz.prog 56 Vo := zm tok z8q fmo (Ht := z1g) (fn := Tryz.f56) (Tryz.func56) (c := z1e) (by kernel_rfl) (by kernel_rfl) (by kernel_rfl) (by decide +kernel) (by decide) z5G
end Go.Proofs.Y
namespace Go.Proofs.Y
open Go.Rb Go.Kx
noncomputable def zdL : Code := zj Tryz.f197
noncomputable def zdM : FuncId → Option GS := tabG []
theorem znc : ΓOK Tryz.prog zdM := zf
def zdN : HT := ⟨tabL [(7, .it [] (dyn [.t 6 (.int .i64), .t 23 (.int .i64)]))], tabH []⟩
abbrev z5H : List IT := [.v (.one (.sl 4 (.one .bool))) false, .v (.one (.int .i64)) false]
abbrev zbh : List OT := [⟨.one (.int .i64), false, []⟩, ⟨.one (.int .i64), false, []⟩]
set_option maxRecDepth 100000
noncomputable def z0q : List Bool → Int → Option (Int × Int) := fun a b => ifB (ltI b 0) (some (0, 3)) (ifB (gtI b 40) (some (0, 3)) (ifB (ltI (lenI a) b) (some (0, 8)) (ifB (in1 a b) (zi maxR (fun (x : Int × Int) => ifB (ltI x.2 (lenI (YB a b))) (z6 (atI (YB a b) x.2) fun y => ifB y (some (Sum.inl (wadd .i64 (wmul .i64 x.1 2) 1, wadd .i64 x.2 1))) (some (Sum.inl (wmul .i64 x.1 2, wadd .i64 x.2 1)))) (mapO Sum.inr (some (x.1, 0)))) (0, 0)) none)))
theorem zhn (x : PI z5H) : z0q (x.1) (x.2) = fnE T zdM zdN zdL (zo Tryz.f197) z5H zbh x := by kernel_rfl
noncomputable abbrev zdO : GS := zq false z5H zbh fun x => z0q (x.1) (x.2)
theorem zho : GSOK Tryz.prog 197 zdO := zm tok znc fmo (Ht := zdN) (fn := Tryz.f197) (Tryz.func197) (c := zdL) (by kernel_rfl) (by kernel_rfl) (by kernel_rfl) (by decide +kernel) (by decide) zhn
end Go.Proofs.Y
namespace Go.Proofs.Y
open Go.Rb Go.Kx
noncomputable def zfI : Code := zj Tryz.f174
noncomputable def zfJ : FuncId → Option GS := tabG [(197, zdO)]
theorem zp8 : ΓOK Tryz.prog zfJ := z8 (zho) (zf)
def zfK : HT := ⟨tabL [(3, .it [] (dyn [.t 5 (.int .i64), .t 6 (.int .i64), .t 10 (.int .i64)]))], tabH []⟩
abbrev z7M : List IT := [.v (.one (.sl 4 (.one .bool))) false]
abbrev zdP : List OT := [⟨.one (.int .i64), false, []⟩, ⟨.one (.int .i64), false, []⟩, ⟨.one (.int .i64), false, []⟩]
set_option maxRecDepth 100000
noncomputable def Jh : List Bool → Option (Int × Int × Int) := fun a => zi maxR (fun (x : Int × Int × Int) => ifB (ltI x.2.2 8) (ifB (in1 a (minI (lenI a) (wmul .i64 4 x.2.2))) (z6 (z0q (yB a (minI (lenI a) (wmul .i64 4 x.2.2))) 4) fun y => ifB (neI y.2 0) (mapO Sum.inr (some (0, 0, y.2))) (ifB (eqI y.1 0) (ifB (gtI x.2.2 0) (mapO Sum.inr (some (0, 0, 4))) (ifB (gtI (wadd .i64 x.1 (wmul .i64 (wrem y.1 8) x.2.1)) 8000000) (mapO Sum.inr (some (0, 0, 3))) (ifB (ltI y.1 8) (ifB (eqI (wrem (wadd .i64 x.1 (wmul .i64 (wrem y.1 8) x.2.1)) 2) 1) (mapO Sum.inr (some (wquo .i64 (wneg .i64 (wadd .i64 (wadd .i64 x.1 (wmul .i64 (wrem y.1 8) x.2.1)) 1)) 2, wadd .i64 (wmul .i64 4 x.2.2) 4, 0))) (mapO Sum.inr (some (wquo .i64 (wadd .i64 x.1 (wmul .i64 (wrem y.1 8) x.2.1)) 2, wadd .i64 (wmul .i64 4 x.2.2) 4, 0)))) (some (Sum.inl (wadd .i64 x.1 (wmul .i64 (wrem y.1 8) x.2.1), wmul .i64 x.2.1 8, wadd .i64 x.2.2 1)))))) (ifB (gtI (wadd .i64 x.1 (wmul .i64 (wrem y.1 8) x.2.1)) 8000000) (mapO Sum.inr (some (0, 0, 3))) (ifB (ltI y.1 8) (ifB (eqI (wrem (wadd .i64 x.1 (wmul .i64 (wrem y.1 8) x.2.1)) 2) 1) (mapO Sum.inr (some (wquo .i64 (wneg .i64 (wadd .i64 (wadd .i64 x.1 (wmul .i64 (wrem y.1 8) x.2.1)) 1)) 2, wadd .i64 (wmul .i64 4 x.2.2) 4, 0))) (mapO Sum.inr (some (wquo .i64 (wadd .i64 x.1 (wmul .i64 (wrem y.1 8) x.2.1)) 2, wadd .i64 (wmul .i64 4 x.2.2) 4, 0)))) (some (Sum.inl (wadd .i64 x.1 (wmul .i64 (wrem y.1 8) x.2.1), wmul .i64 x.2.1 8, wadd .i64 x.2.2 1))))))) none) (mapO Sum.inr (some (0, 0, 3)))) (0, 1, 0)
theorem zjv (x : PI z7M) : Jh x = fnE T zfJ zfK zfI (zo Tryz.f174) z7M zdP x := by kernel_rfl
noncomputable abbrev zfL : GS := zq false z7M zdP fun x => Jh x
theorem zjw : GSOK Tryz.prog 174 zfL := zm tok zp8 fmo (Ht := zfK) (fn := Tryz.f174) (Tryz.func174) (c := zfI) (by kernel_rfl) (by kernel_rfl) (by kernel_rfl) (by decide +kernel) (by decide) zjv
end Go.Proofs.Y
namespace Go.Proofs.Y
open Go.Rb Go.Kx
noncomputable def z5I : Code := zj Tryz.f50
noncomputable def zbi : FuncId → Option GS := tabG []
theorem zbj : ΓOK Tryz.prog zbi := zf
def z5J : HT := ⟨tabL [(4, .it [] (dyn [.t 10 (.int .i64)]))], tabH []⟩
abbrev z0O : List IT := [.v (.one (.sl 73 (.cons (.int .i64) (.one (.int .i64))))) false]
abbrev z42 : List OT := [⟨.one (.int .i64), false, []⟩]
set_option maxRecDepth 100000
noncomputable def YP : List (Int × Int) → Option Int := fun a => ifB (gtI (lenI a) 40) (some 2) (zi maxR (fun (x : Int) => ifB (ltI x (lenI a)) (z6 (atI a x) fun y => ifB (ltI y.1 0) (mapO Sum.inr (some 3)) (ifB (gtI y.1 100000) (mapO Sum.inr (some 3)) (ifB (ltI y.2 (-1000000)) (mapO Sum.inr (some 3)) (ifB (gtI y.2 1000000) (mapO Sum.inr (some 3)) (ifB (gtI x 0) (z6 (atI a (wsub .i64 x 1)) fun y_1 => ifB (geI y_1.1 y.1) (mapO Sum.inr (some 7)) (some (Sum.inl (wadd .i64 x 1)))) (some (Sum.inl (wadd .i64 x 1)))))))) (mapO Sum.inr (some 0))) 0)
theorem z71 (x : PI z0O) : YP x = fnE T zbi z5J z5I (zo Tryz.f50) z0O z42 x := by kernel_rfl
noncomputable abbrev z5K : GS := zq false z0O z42 fun x => YP x
theorem z73 : GSOK Tryz.prog 50 z5K := zm tok zbj fmo (Ht := z5J) (fn := Tryz.f50) (Tryz.func50) (c := z5I) (by kernel_rfl) (by kernel_rfl) (by kernel_rfl) (by decide +kernel) (by decide) z71
noncomputable abbrev zbk : GS := zq true z0O z42 fun x => YP x
theorem zfM : GSOK Tryz.prog 50 zbk := zm tok zbj fmo (Ht := z5J) (fn := Tryz.f50) (Tryz.func50) (c := z5I) (by kernel_rfl) (by kernel_rfl) (by kernel_rfl) (by decide +kernel) (by decide) z71
end Go.Proofs.Y
namespace Go.Proofs.Y
open Go.Rb Go.Kx
noncomputable def z9Y : Code := zj Tryz.f153
noncomputable def z9Z : FuncId → Option GS := tabG [(174, zfL), (50, z5K)]
theorem zjx : ΓOK Tryz.prog z9Z := z8 (zjw) (z8 (z73) (zf))
def za0 : HT := ⟨tabL [(7, .it [] (dyn [.t 0 (.sl 4 (.one .bool)), .a 6 73 (.cons (.int .i64) (.one (.int .i64))), .t 8 (.int .i64), .t 23 (.int .i64), .c 7 0 (.int .i64), .c 7 1 (.int .i64)]))], tabH []⟩
abbrev z2W : List IT := [.v (.one (.sl 4 (.one .bool))) false, .v (.one (.int .i64)) false]
abbrev z8r : List OT := [⟨.one (.sl 73 (.cons (.int .i64) (.one (.int .i64)))), false, []⟩, ⟨.one (.int .i64), false, []⟩]
set_option maxRecDepth 100000
noncomputable def VN : List Bool → Int → Option (List (Int × Int) × Int) := fun a b => ifB (ltI b 0) (some ([], 2)) (ifB (gtI b 40) (some ([], 2)) (zi maxR (fun (x : List Bool × Int × Int × Int × Int × List (Int × Int)) => ifB (ltI x.2.2.1 b) (z6 (Jh x.1) fun y => ifB (neI y.2.2 0) (mapO Sum.inr (some ([], y.2.2))) (ifB (in1 x.1 y.2.1) (z6 (Jh (yB x.1 y.2.1)) fun y_1 => ifB (neI y_1.2.2 0) (mapO Sum.inr (some ([], y_1.2.2))) (ifB (in1 x.1 (wadd .i64 y.2.1 y_1.2.1)) (ifB (ifB (in2 x.2.2.2.2.2 (maxI 0 (wsub .i64 (lenI x.2.2.2.2.2) 1)) (lenI x.2.2.2.2.2)) (eqI (lenI x.2.2.2.2.2) (lenI x.2.2.2.2.2)) false) (ifB (ifB (inN x.2.2.2.2.2 (natI (maxI 0 (wsub .i64 (lenI x.2.2.2.2.2) 1))) (subI (maxI 0 (wsub .i64 (lenI x.2.2.2.2.2) 1)) (lenI x.2.2.2.2.2))) (zg 16 (subN x.2.2.2.2.2 (natI (maxI 0 (wsub .i64 (lenI x.2.2.2.2.2) 1))) (subI (maxI 0 (wsub .i64 (lenI x.2.2.2.2.2) 1)) (lenI x.2.2.2.2.2))) [(wadd .i64 (wadd .i64 x.2.2.2.1 x.2.1) y.1, wadd .i64 x.2.2.2.2.1 y_1.1)]) false) (ifB (fits (subI (maxI 0 (wsub .i64 (lenI x.2.2.2.2.2) 1)) (lenI x.2.2.2.2.2)) [(wadd .i64 (wadd .i64 x.2.2.2.1 x.2.1) y.1, wadd .i64 x.2.2.2.2.1 y_1.1)] (capN (lenN x.2.2.2.2.2) (natI (maxI 0 (wsub .i64 (lenI x.2.2.2.2.2) 1))))) none (z6 (YP (cat (subN x.2.2.2.2.2 (natI (maxI 0 (wsub .i64 (lenI x.2.2.2.2.2) 1))) (subI (maxI 0 (wsub .i64 (lenI x.2.2.2.2.2) 1)) (lenI x.2.2.2.2.2))) [(wadd .i64 (wadd .i64 x.2.2.2.1 x.2.1) y.1, wadd .i64 x.2.2.2.2.1 y_1.1)])) fun y_2 => ifB (neI y_2 0) (mapO Sum.inr (some ([], y_2))) (ifB (zg 16 x.2.2.2.2.2 [(wadd .i64 (wadd .i64 x.2.2.2.1 x.2.1) y.1, wadd .i64 x.2.2.2.2.1 y_1.1)]) (some (Sum.inl (yB x.1 (wadd .i64 y.2.1 y_1.2.1), wsub .i64 (wadd .i64 (wadd .i64 x.2.2.2.1 x.2.1) y.1) x.2.2.2.1, wadd .i64 x.2.2.1 1, wadd .i64 (wadd .i64 x.2.2.2.1 x.2.1) y.1, wadd .i64 x.2.2.2.2.1 y_1.1, cat x.2.2.2.2.2 [(wadd .i64 (wadd .i64 x.2.2.2.1 x.2.1) y.1, wadd .i64 x.2.2.2.2.1 y_1.1)]))) none))) none) none) none)) none)) (mapO Sum.inr (ifB (gtI (lenI x.1) 0) (some ([], 8)) (some (x.2.2.2.2.2, 0))))) (a, 0, 0, 0, 0, [])))
theorem zeE (x : PI z2W) : VN (x.1) (x.2) = fnE T z9Z za0 z9Y (zo Tryz.f153) z2W z8r x := by kernel_rfl
noncomputable abbrev za1 : GS := zq false z2W z8r fun x => VN (x.1) (x.2)
theorem zeF : GSOK Tryz.prog 153 za1 := zm tok zjx fmo (Ht := za0) (fn := Tryz.f153) (Tryz.func153) (c := z9Y) (by kernel_rfl) (by kernel_rfl) (by kernel_rfl) (by decide +kernel) (by decide) zeE
end Go.Proofs.Y
namespace Go.Proofs.Y
open Go.Rb Go.Kx
noncomputable def z8s : Code := zj Tryz.f126
noncomputable def z8t : FuncId → Option GS := tabG [(153, za1)]
theorem zhp : ΓOK Tryz.prog z8t := z8 (zeF) (zf)
def z8u : HT := ⟨tabL [], tabH []⟩
abbrev z2d : List IT := [.v (.cons (.int .i64) (.cons (.int .i64) (.cons (.int .i64) (.one (.sl 4 (.one .bool)))))) true]
abbrev z74 : List OT := [⟨.one (.sl 73 (.cons (.int .i64) (.one (.int .i64)))), false, []⟩, ⟨.one (.int .i64), false, []⟩]
set_option maxRecDepth 100000
noncomputable def YF : Int × Int × Int × List Bool → Option (List (Int × Int) × Int) := fun a => z6 (VN a.2.2.2 a.1) fun y => ifB (neI y.2 0) (some ([], y.2)) (ifB (eqI (lenI y.1) 0) (some ([], 4)) (z6 (atI y.1 0) fun y_1 => ifB (neI y_1.1 a.2.1) (some ([], 4)) (z6 (atI y.1 (wsub .i64 (lenI y.1) 1)) fun y_2 => ifB (neI y_2.1 a.2.2.1) (some ([], 4)) (some (y.1, 0)))))
theorem zdq (x : PI z2d) : YF x = fnE T z8t z8u z8s (zo Tryz.f126) z2d z74 x := by kernel_rfl
noncomputable abbrev z2X : GS := zq false z2d z74 fun x => YF x
theorem z4x : GSOK Tryz.prog 126 z2X := zm tok zhp fmo (Ht := z8u) (fn := Tryz.f126) (Tryz.func126) (c := z8s) (by kernel_rfl) (by kernel_rfl) (by kernel_rfl) (by decide +kernel) (by decide) zdq
end Go.Proofs.Y
namespace Go.Proofs.Y
open Go.Rb Go.Kx
noncomputable def z7N : Code := zj Tryz.f97
noncomputable def zdQ : FuncId → Option GS := tabG [(126, z2X), (50, zbk)]
theorem zdR : ΓOK Tryz.prog zdQ := z8 (z4x) (z8 (zfM) (zf))
def z7O : HT := ⟨tabL [(5, .it [] (dyn [.a 4 73 (.cons (.int .i64) (.one (.int .i64))), .t 16 (.int .i64)]))], tabH []⟩
abbrev z2e : List IT := [.v (.cons (.sl 126 (.cons (.int .i64) (.cons (.int .i64) (.cons (.int .i64) (.one (.sl 4 (.one .bool))))))) (.one (.sl 73 (.cons (.int .i64) (.one (.int .i64)))))) true]
abbrev z5L : List OT := [⟨.one (.sl 73 (.cons (.int .i64) (.one (.int .i64)))), false, [true]⟩, ⟨.one (.int .i64), false, []⟩]
set_option maxRecDepth 100000
noncomputable def yy : List (Int × Int × Int × List Bool) × List (Int × Int) → Option (List (Int × Int) × Int) := fun a => ifB (gtI (lenI a.1) 8) (some ([], 2)) (zi maxR (fun (x : Int × List (Int × Int)) => ifB (ltI x.1 (lenI a.1)) (z6 (atI a.1 x.1) fun y => z6 (YF (y.1, y.2.1, y.2.2.1, y.2.2.2)) fun y => ifB (neI y.2 0) (mapO Sum.inr (some ([], y.2))) (ifB (zg 16 x.2 y.1) (some (Sum.inl (wadd .i64 x.1 1, cat x.2 y.1))) none)) (mapO Sum.inr (ifB (zg 16 x.2 a.2) (z6 (YP (cat x.2 a.2)) fun y => some (cat x.2 a.2, y)) none))) (0, []))
theorem z8v (x : PI z2e) : yy x = fnE T zdQ z7O z7N (zo Tryz.f97) z2e z5L x := by kernel_rfl
noncomputable abbrev z7P : GS := zq false z2e z5L fun x => yy x
theorem z8w : GSOK Tryz.prog 97 z7P := zm tok zdR fmo (Ht := z7O) (fn := Tryz.f97) (Tryz.func97) (c := z7N) (by kernel_rfl) (by kernel_rfl) (by kernel_rfl) (by decide +kernel) (by decide) z8v
noncomputable abbrev zdS : GS := zq true z2e z5L fun x => yy x
theorem zhq : GSOK Tryz.prog 97 zdS := zm tok zdR fmo (Ht := z7O) (fn := Tryz.f97) (Tryz.func97) (c := z7N) (by kernel_rfl) (by kernel_rfl) (by kernel_rfl) (by decide +kernel) (by decide) z8v
end Go.Proofs.Y
namespace Go.Proofs.Y
open Go.Rb Go.Kx
noncomputable def za2 : Code := zj Tryz.f78
noncomputable def za3 : FuncId → Option GS := tabG [(97, z7P)]
theorem zjy : ΓOK Tryz.prog za3 := z8 (z8w) (zf)
def za4 : HT := ⟨tabL [(4, .it [] (dyn [.t 14 (.int .i64)]))], tabH []⟩
abbrev z2Y : List IT := [.v (.one (.sl 95 (.cons (.sl 126 (.cons (.int .i64) (.cons (.int .i64) (.cons (.int .i64) (.one (.sl 4 (.one .bool))))))) (.one (.sl 73 (.cons (.int .i64) (.one (.int .i64)))))))) true]
abbrev z8x : List OT := [⟨.one (.int .i64), false, []⟩]
set_option maxRecDepth 100000
noncomputable def yL : List (List (Int × Int × Int × List Bool) × List (Int × Int)) → Option Int := fun a => ifB (neI (lenI a) 4) (some 4) (zi maxR (fun (x : Int) => ifB (ltI x (lenI a)) (z6 (atI a x) fun y => z6 (yy (y.1, y.2)) fun y => ifB (neI y.2 0) (mapO Sum.inr (some y.2)) (some (Sum.inl (wadd .i64 x 1)))) (mapO Sum.inr (some 0))) 0)
theorem zeG (x : PI z2Y) : yL x = fnE T za3 za4 za2 (zo Tryz.f78) z2Y z8x x := by kernel_rfl
noncomputable abbrev YT : GS := zq false z2Y z8x fun x => yL x
theorem YG : GSOK Tryz.prog 78 YT := zm tok zjy fmo (Ht := za4) (fn := Tryz.f78) (Tryz.func78) (c := za2) (by kernel_rfl) (by kernel_rfl) (by kernel_rfl) (by decide +kernel) (by decide) zeG
end Go.Proofs.Y
namespace Go.Proofs.Y
open Go.Rb Go.Kx
noncomputable def zbl : Code := zj Tryz.f140
noncomputable def zbm : FuncId → Option GS := tabG [(162, z9q)]
theorem zl6 : ΓOK Tryz.prog zbm := z8 (z7H) (zf)
def zbn : HT := ⟨tabL [], tabH []⟩
abbrev z43 : List IT := [.v (.cons (.int .i64) (.cons (.int .i64) (.cons (.int .i64) (.one (.sl 4 (.one .bool)))))) true]
abbrev za5 : List OT := [⟨.cons (.int .i64) (.cons (.int .i64) (.cons (.int .i64) (.one (.sl 4 (.one .bool))))), true, []⟩]
set_option maxRecDepth 100000
noncomputable def zT : Int × Int × Int × List Bool → Option (Int × Int × Int × List Bool) := fun a => z6 (z0Q a.2.2.2) fun y => some (a.1, a.2.1, a.2.2.1, y)
theorem zfN (x : PI z43) : zT x = fnE T zbm zbn zbl (zo Tryz.f140) z43 za5 x := by kernel_rfl
noncomputable abbrev z5M : GS := zq false z43 za5 fun x => zT x
theorem z77 : GSOK Tryz.prog 140 z5M := zm tok zl6 fmo (Ht := zbn) (fn := Tryz.f140) (Tryz.func140) (c := zbl) (by kernel_rfl) (by kernel_rfl) (by kernel_rfl) (by decide +kernel) (by decide) zfN
end Go.Proofs.Y
namespace Go.Proofs.Y
open Go.Rb Go.Kx
noncomputable def zbo : Code := zj Tryz.f107
noncomputable def zbp : FuncId → Option GS := tabG [(137, z11), (138, z6Z), (139, z5B), (140, z5M)]
theorem zl7 : ΓOK Tryz.prog zbp := z8 (jI) (z8 (z5D) (z8 (z3r) (z8 (z77) (zf))))
def zbq : HT := ⟨tabL [(3, .unroll 5), (7, .it [] (dyn [.t 33 (.int .i64), .b 29 0 126 (.cons (.int .i64) (.cons (.int .i64) (.cons (.int .i64) (.one (.sl 4 (.one .bool))))))]))], tabH [(2, [.expl 1 0])]⟩
noncomputable def jM : GS := inl T zbp zbq zbo (zo Tryz.f107) (Tryz.f107.ntmps)
theorem jg : GSOK Tryz.prog 107 jM := yR tok zl7 fmo (Ht := zbq) (fn := Tryz.f107) (Tryz.func107) (c := zbo) (by kernel_rfl) (by kernel_rfl) (by kernel_rfl)
end Go.Proofs.Y
namespace Go.Proofs.Y
open Go.Rb Go.Kx
noncomputable def zdT : Code := zj Tryz.f80
noncomputable def zdU : FuncId → Option GS := tabG [(78, YT), (107, jM), (97, zdS)]
theorem znd : ΓOK Tryz.prog zdU := z8 (YG) (z8 (jg) (z8 (zhq) (zf)))
def zdV : HT := ⟨tabL [(8, .it [] (dyn [.t 26 (.int .i64), .q 2 0 1 73 (.cons (.int .i64) (.one (.int .i64))), .q 2 0 3 73 (.cons (.int .i64) (.one (.int .i64))), .q 2 0 5 73 (.cons (.int .i64) (.one (.int .i64))), .q 2 0 7 73 (.cons (.int .i64) (.one (.int .i64)))]))], tabH [(18, [.frzq 2 0 0, .frzq 2 0 1, .frzq 2 0 2, .frzq 2 0 3, .frzq 2 0 4, .frzq 2 0 5, .frzq 2 0 6, .frzq 2 0 7, .pack 2 0 (.cons (.sl 126 (.cons (.int .i64) (.cons (.int .i64) (.cons (.int .i64) (.one (.sl 4 (.one .bool))))))) (.one (.sl 73 (.cons (.int .i64) (.one (.int .i64))))))])]⟩
abbrev z5N : List IT := [.v (.one (.sl 95 (.cons (.sl 126 (.cons (.int .i64) (.cons (.int .i64) (.cons (.int .i64) (.one (.sl 4 (.one .bool))))))) (.one (.sl 73 (.cons (.int .i64) (.one (.int .i64)))))))) true, .v (.one (.sl 77 (.cons (.int .i64) (.cons (.int .i64) (.one (.int .i64)))))) false]
abbrev zbr : List OT := [⟨.one (.sl 95 (.cons (.sl 126 (.cons (.int .i64) (.cons (.int .i64) (.cons (.int .i64) (.one (.sl 4 (.one .bool))))))) (.one (.sl 73 (.cons (.int .i64) (.one (.int .i64))))))), true, []⟩, ⟨.one (.int .i64), false, []⟩]
set_option maxRecDepth 100000
noncomputable def z0r : List (List (Int × Int × Int × List Bool) × List (Int × Int)) → List (Int × Int × Int) → Option (List (List (Int × Int × Int × List Bool) × List (Int × Int)) × Int) := fun a b => z6 (yL a) fun y => ifB (neI y 0) (some ([], y)) (ifB (gtI (lenI b) 10) (some ([], 2)) (z6 (Yz a) fun y => z6 (four y) fun (y : (List (Int × Int × Int × List Bool) × List (Int × Int)) × (List (Int × Int × Int × List Bool) × List (Int × Int)) × (List (Int × Int × Int × List Bool) × List (Int × Int)) × List (Int × Int × Int × List Bool) × List (Int × Int)) => z6 (Ze y.1.1) fun y_1 => z6 (Zq y.1.2) fun y_2 => zi maxR (fun (x : Int × List (Int × Int × Int × List Bool)) => ifB (ltI x.1 (lenI y.1.1)) (z6 (atI y.1.1 x.1) fun y => z6 (zT (y.1, y.2.1, y.2.2.1, y.2.2.2)) fun y => ifB (ltL x.1 x.2) (z6 (atN x.2 (natI x.1)) fun y_3 => some (Sum.inl (wadd .i64 x.1 1, setN x.2 (natI x.1) (y.1, y.2.1, y.2.2.1, y.2.2.2)))) none) (mapO Sum.inr (z6 (Ze y.2.1.1) fun y_3 => z6 (Zq y.2.1.2) fun y_4 => zi maxR (fun (x_1 : Int × List (Int × Int × Int × List Bool)) => ifB (ltI x_1.1 (lenI y.2.1.1)) (z6 (atI y.2.1.1 x_1.1) fun y => z6 (zT (y.1, y.2.1, y.2.2.1, y.2.2.2)) fun y => ifB (ltL x_1.1 x_1.2) (z6 (atN x_1.2 (natI x_1.1)) fun y_5 => some (Sum.inl (wadd .i64 x_1.1 1, setN x_1.2 (natI x_1.1) (y.1, y.2.1, y.2.2.1, y.2.2.2)))) none) (mapO Sum.inr (z6 (Ze y.2.2.1.1) fun y_5 => z6 (Zq y.2.2.1.2) fun y_6 => zi maxR (fun (x_2 : Int × List (Int × Int × Int × List Bool)) => ifB (ltI x_2.1 (lenI y.2.2.1.1)) (z6 (atI y.2.2.1.1 x_2.1) fun y => z6 (zT (y.1, y.2.1, y.2.2.1, y.2.2.2)) fun y => ifB (ltL x_2.1 x_2.2) (z6 (atN x_2.2 (natI x_2.1)) fun y_7 => some (Sum.inl (wadd .i64 x_2.1 1, setN x_2.2 (natI x_2.1) (y.1, y.2.1, y.2.2.1, y.2.2.2)))) none) (mapO Sum.inr (z6 (Ze y.2.2.2.1) fun y_7 => z6 (Zq y.2.2.2.2) fun y_8 => zi maxR (fun (x_3 : Int × List (Int × Int × Int × List Bool)) => ifB (ltI x_3.1 (lenI y.2.2.2.1)) (z6 (atI y.2.2.2.1 x_3.1) fun y => z6 (zT (y.1, y.2.1, y.2.2.1, y.2.2.2)) fun y => ifB (ltL x_3.1 x_3.2) (z6 (atN x_3.2 (natI x_3.1)) fun y_9 => some (Sum.inl (wadd .i64 x_3.1 1, setN x_3.2 (natI x_3.1) (y.1, y.2.1, y.2.2.1, y.2.2.2)))) none) (mapO Sum.inr (zi maxR (fun (x_4 : Int × List (Int × Int) × List (Int × Int) × List (Int × Int) × List (Int × Int)) => ifB (ltI x_4.1 (lenI b)) (z6 (atI b x_4.1) fun y => ifB (ltI y.1 0) (mapO Sum.inr (some ([], 5))) (ifB (geI y.1 4) (mapO Sum.inr (some ([], 5))) (ifB (eqI y.1 0) (ifB (zg 16 x_4.2.1 [(y.2.1, y.2.2)]) (z6 (yy (x.2, cat x_4.2.1 [(y.2.1, y.2.2)])) fun y_9 => ifB (neI y_9.2 0) (mapO Sum.inr (some ([], y_9.2))) (some (Sum.inl (wadd .i64 x_4.1 1, cat x_4.2.1 [(y.2.1, y.2.2)], x_4.2.2.1, x_4.2.2.2.1, x_4.2.2.2.2)))) none) (ifB (eqI y.1 1) (ifB (zg 16 x_4.2.2.1 [(y.2.1, y.2.2)]) (z6 (yy (x_1.2, cat x_4.2.2.1 [(y.2.1, y.2.2)])) fun y_9 => ifB (neI y_9.2 0) (mapO Sum.inr (some ([], y_9.2))) (some (Sum.inl (wadd .i64 x_4.1 1, x_4.2.1, cat x_4.2.2.1 [(y.2.1, y.2.2)], x_4.2.2.2.1, x_4.2.2.2.2)))) none) (ifB (eqI y.1 2) (ifB (zg 16 x_4.2.2.2.1 [(y.2.1, y.2.2)]) (z6 (yy (x_2.2, cat x_4.2.2.2.1 [(y.2.1, y.2.2)])) fun y_9 => ifB (neI y_9.2 0) (mapO Sum.inr (some ([], y_9.2))) (some (Sum.inl (wadd .i64 x_4.1 1, x_4.2.1, x_4.2.2.1, cat x_4.2.2.2.1 [(y.2.1, y.2.2)], x_4.2.2.2.2)))) none) (ifB (eqI y.1 3) (ifB (zg 16 x_4.2.2.2.2 [(y.2.1, y.2.2)]) (z6 (yy (x_3.2, cat x_4.2.2.2.2 [(y.2.1, y.2.2)])) fun y_9 => ifB (neI y_9.2 0) (mapO Sum.inr (some ([], y_9.2))) (some (Sum.inl (wadd .i64 x_4.1 1, x_4.2.1, x_4.2.2.1, x_4.2.2.2.1, cat x_4.2.2.2.2 [(y.2.1, y.2.2)])))) none) none)))))) (mapO Sum.inr (some ([(x.2, x_4.2.1), (x_1.2, x_4.2.2.1), (x_2.2, x_4.2.2.2.1), (x_3.2, x_4.2.2.2.2)], 0)))) (0, y_2, y_4, y_6, y_8)))) (0, y_7)))) (0, y_5)))) (0, y_3)))) (0, y_1)))
theorem zhr (x : PI z5N) : z0r (x.1) (x.2) = fnE T zdU zdV zdT (zo Tryz.f80) z5N zbr x := by kernel_rfl
noncomputable abbrev zdW : GS := zq false z5N zbr fun x => z0r (x.1) (x.2)
theorem zhs : GSOK Tryz.prog 80 zdW := zm tok znd fmo (Ht := zdV) (fn := Tryz.f80) (Tryz.func80) (c := zdT) (by kernel_rfl) (by kernel_rfl) (by kernel_rfl) (by decide +kernel) (by decide) zhr
end Go.Proofs.Y
namespace Go.Proofs.Y
open Go.Rb Go.Kx
noncomputable def zfO : Code := zj Tryz.f183
noncomputable def zfP : FuncId → Option GS := tabG []
theorem zp9 : ΓOK Tryz.prog zfP := zf
def zfQ : HT := ⟨tabL [], tabH []⟩
abbrev z7Q : List IT := [.v (.one (.int .i64)) false]
abbrev zdX : List OT := [⟨.one (.int .i64), false, []⟩]
set_option maxRecDepth 100000
noncomputable def z2f : Int → Option Int := fun a => ifB (ltI a 0) (some (wsub .i64 (wmul .i64 (-2) a) 1)) (some (wmul .i64 2 a))
theorem zjz (x : PI z7Q) : z2f x = fnE T zfP zfQ zfO (zo Tryz.f183) z7Q zdX x := by kernel_rfl
noncomputable abbrev zfR : GS := zq false z7Q zdX fun x => z2f x
theorem zjA : GSOK Tryz.prog 183 zfR := zm tok zp9 fmo (Ht := zfQ) (fn := Tryz.f183) (Tryz.func183) (c := zfO) (by kernel_rfl) (by kernel_rfl) (by kernel_rfl) (by decide +kernel) (by decide) zjz
end Go.Proofs.Y
namespace Go.Proofs.Y
open Go.Rb Go.Kx
noncomputable def zfS : Code := zj Tryz.f184
noncomputable def zfT : FuncId → Option GS := tabG [(162, z9q)]
theorem zpa : ΓOK Tryz.prog zfT := z8 (z7H) (zf)
def zfU : HT := ⟨tabL [(5, .it [] (dyn [.a 0 4 (.one .bool), .t 8 (.int .i64)]))], tabH []⟩
abbrev z7R : List IT := [.v (.one (.sl 4 (.one .bool))) false, .v (.one (.int .i64)) false, .v (.one (.int .i64)) false]
abbrev zdY : List OT := [⟨.one (.sl 4 (.one .bool)), false, []⟩, ⟨.one (.int .i64), false, []⟩]
set_option maxRecDepth 100000
noncomputable def Ji : List Bool → Int → Int → Option (List Bool × Int) := fun a b c => ifB (ltI c 0) (some ([], 3)) (ifB (gtI c 40) (some ([], 3)) (ifB (ltI b 0) (some ([], 3)) (ifB (ltI c 0) none (ifB (neI (wshr .i64 b c) 0) (some ([], 3)) (z6 (z0Q a) fun y => zi maxR (fun (x : Int × List Bool) => ifB (geI x.1 0) (ifB (ltI x.1 0) none (ifB (zg 1 x.2 [eqI (wand .i64 (wshr .i64 b x.1) 1) 1]) (some (Sum.inl (wsub .i64 x.1 1, cat x.2 [eqI (wand .i64 (wshr .i64 b x.1) 1) 1]))) none)) (mapO Sum.inr (some (x.2, 0)))) (wsub .i64 c 1, y))))))
theorem zjB (x : PI z7R) : Ji (x.1) (x.2.1) (x.2.2) = fnE T zfT zfU zfS (zo Tryz.f184) z7R zdY x := by kernel_rfl
noncomputable abbrev zfV : GS := zq false z7R zdY fun x => Ji (x.1) (x.2.1) (x.2.2)
theorem zjC : GSOK Tryz.prog 184 zfV := zm tok zpa fmo (Ht := zfU) (fn := Tryz.f184) (Tryz.func184) (c := zfS) (by kernel_rfl) (by kernel_rfl) (by kernel_rfl) (by decide +kernel) (by decide) zjB
end Go.Proofs.Y
namespace Go.Proofs.Y
open Go.Rb Go.Kx
noncomputable def zip : Code := zj Tryz.f168
noncomputable def ziq : FuncId → Option GS := tabG [(183, zfR), (184, zfV)]
theorem zqm : ΓOK Tryz.prog ziq := z8 (zjA) (z8 (zjC) (zf))
def zir : HT := ⟨tabL [(4, .it [] (dyn [.t 0 (.sl 4 (.one .bool)), .t 6 (.int .i64)]))], tabH []⟩
abbrev z9w : List IT := [.v (.one (.sl 4 (.one .bool))) false, .v (.one (.int .i64)) false]
abbrev zfW : List OT := [⟨.one (.sl 4 (.one .bool)), false, []⟩, ⟨.one (.int .i64), false, []⟩]
set_option maxRecDepth 100000
noncomputable def z1h : List Bool → Int → Option (List Bool × Int) := fun a b => ifB (ltI b (-4000000)) (some ([], 3)) (ifB (gtI b 4000000) (some ([], 3)) (z6 (z2f b) fun y => zi maxR (fun (x : List Bool × Int) => ifB (geI x.2 8) (z6 (Ji x.1 (wadd .i64 8 (wrem x.2 8)) 4) fun y => some (Sum.inl (y.1, wquo .i64 x.2 8))) (z6 (Ji x.1 (wadd .i64 0 (wrem x.2 8)) 4) fun y => mapO Sum.inr (some (y.1, 0)))) (a, y)))
theorem zl8 (x : PI z9w) : z1h (x.1) (x.2) = fnE T ziq zir zip (zo Tryz.f168) z9w zfW x := by kernel_rfl
noncomputable abbrev zis : GS := zq false z9w zfW fun x => z1h (x.1) (x.2)
theorem zl9 : GSOK Tryz.prog 168 zis := zm tok zqm fmo (Ht := zir) (fn := Tryz.f168) (Tryz.func168) (c := zip) (by kernel_rfl) (by kernel_rfl) (by kernel_rfl) (by decide +kernel) (by decide) zl8
end Go.Proofs.Y
namespace Go.Proofs.Y
open Go.Rb Go.Kx
noncomputable def zdZ : Code := zj Tryz.f145
noncomputable def ze0 : FuncId → Option GS := tabG [(50, z5K), (168, zis)]
theorem zne : ΓOK Tryz.prog ze0 := z8 (z73) (z8 (zl9) (zf))
def ze1 : HT := ⟨tabL [(8, .it [] (dyn [.t 5 (.sl 4 (.one .bool)), .t 7 (.int .i64), .t 17 (.int .i64), .c 6 0 (.int .i64), .c 6 1 (.int .i64)]))], tabH []⟩
abbrev z5O : List IT := [.v (.one (.sl 73 (.cons (.int .i64) (.one (.int .i64))))) false]
abbrev zbs : List OT := [⟨.one (.sl 4 (.one .bool)), false, []⟩, ⟨.one (.int .i64), false, []⟩]
set_option maxRecDepth 100000
noncomputable def z0s : List (Int × Int) → Option (List Bool × Int) := fun a => z6 (YP a) fun y => ifB (neI y 0) (some ([], y)) (zi maxR (fun (x : List Bool × Int × Int × Int × Int) => ifB (ltI x.2.2.1 (lenI a)) (z6 (atI a x.2.2.1) fun y => z6 (z1h x.1 (wsub .i64 (wsub .i64 y.1 x.2.2.2.1) x.2.1)) fun y_1 => z6 (z1h y_1.1 (wsub .i64 y.2 x.2.2.2.2)) fun y_2 => some (Sum.inl (y_2.1, wsub .i64 y.1 x.2.2.2.1, wadd .i64 x.2.2.1 1, y.1, y.2))) (mapO Sum.inr (some (x.1, 0)))) ([], 0, 0, 0, 0))
theorem zht (x : PI z5O) : z0s x = fnE T ze0 ze1 zdZ (zo Tryz.f145) z5O zbs x := by kernel_rfl
noncomputable abbrev ze2 : GS := zq false z5O zbs fun x => z0s x
theorem zhu : GSOK Tryz.prog 145 ze2 := zm tok zne fmo (Ht := ze1) (fn := Tryz.f145) (Tryz.func145) (c := zdZ) (by kernel_rfl) (by kernel_rfl) (by kernel_rfl) (by decide +kernel) (by decide) zht
end Go.Proofs.Y
namespace Go.Proofs.Y
open Go.Rb Go.Kx
noncomputable def zbt : Code := zj Tryz.f114
noncomputable def zbu : FuncId → Option GS := tabG [(145, ze2)]
theorem zla : ΓOK Tryz.prog zbu := z8 (zhu) (zf)
def zbv : HT := ⟨tabL [], tabH []⟩
abbrev z44 : List IT := [.v (.one (.sl 73 (.cons (.int .i64) (.one (.int .i64))))) false]
abbrev za6 : List OT := [⟨.cons (.int .i64) (.cons (.int .i64) (.cons (.int .i64) (.one (.sl 4 (.one .bool))))), true, []⟩, ⟨.one (.int .i64), false, []⟩]
set_option maxRecDepth 100000
noncomputable def Y3 : List (Int × Int) → Option ((Int × Int × Int × List Bool) × Int) := fun a => z6 (z0s a) fun y => ifB (neI y.2 0) (some ((0, 0, 0, []), y.2)) (ifB (eqI (lenI a) 0) (some ((0, 0, 0, []), 4)) (z6 (atI a 0) fun y_1 => z6 (atI a (wsub .i64 (lenI a) 1)) fun y_2 => some ((lenI a, y_1.1, y_2.1, y.1), 0)))
theorem zfX (x : PI z44) : Y3 x = fnE T zbu zbv zbt (zo Tryz.f114) z44 za6 x := by kernel_rfl
noncomputable abbrev z5P : GS := zq false z44 za6 fun x => Y3 x
theorem z78 : GSOK Tryz.prog 114 z5P := zm tok zla fmo (Ht := zbv) (fn := Tryz.f114) (Tryz.func114) (c := zbt) (by kernel_rfl) (by kernel_rfl) (by kernel_rfl) (by decide +kernel) (by decide) zfX
end Go.Proofs.Y
namespace Go.Proofs.Y
open Go.Rb Go.Kx
noncomputable def zbw : Code := zj Tryz.f81
noncomputable def zbx : FuncId → Option GS := tabG [(78, YT), (107, jM), (114, z5P)]
theorem zlb : ΓOK Tryz.prog zbx := z8 (YG) (z8 (jg) (z8 (z78) (zf)))
def zby : HT := ⟨tabL [], tabH [(16, [.frzq 3 0 0, .frzq 3 0 1, .frzq 3 0 2, .frzq 3 0 3, .frzq 3 0 4, .frzq 3 0 5, .frzq 3 0 6, .frzq 3 0 7, .pack 3 0 (.cons (.sl 126 (.cons (.int .i64) (.cons (.int .i64) (.cons (.int .i64) (.one (.sl 4 (.one .bool))))))) (.one (.sl 73 (.cons (.int .i64) (.one (.int .i64))))))])]⟩
abbrev z45 : List IT := [.v (.one (.sl 95 (.cons (.sl 126 (.cons (.int .i64) (.cons (.int .i64) (.cons (.int .i64) (.one (.sl 4 (.one .bool))))))) (.one (.sl 73 (.cons (.int .i64) (.one (.int .i64)))))))) true, .v (.one (.int .i64)) false, .v (.one (.int .i64)) false]
abbrev za7 : List OT := [⟨.one (.sl 95 (.cons (.sl 126 (.cons (.int .i64) (.cons (.int .i64) (.cons (.int .i64) (.one (.sl 4 (.one .bool))))))) (.one (.sl 73 (.cons (.int .i64) (.one (.int .i64))))))), true, []⟩, ⟨.one (.int .i64), false, []⟩]
set_option maxRecDepth 100000
noncomputable def jN : List (List (Int × Int × Int × List Bool) × List (Int × Int)) → Int → Int → Option (List (List (Int × Int × Int × List Bool) × List (Int × Int)) × Int) := fun a b c => z6 (yL a) fun y => ifB (neI y 0) (some ([], y)) (ifB (ltI b 0) (some ([], 5)) (ifB (geI b (lenI a)) (some ([], 5)) (z6 (Yz a) fun y => z6 (four y) fun (y : (List (Int × Int × Int × List Bool) × List (Int × Int)) × (List (Int × Int × Int × List Bool) × List (Int × Int)) × (List (Int × Int × Int × List Bool) × List (Int × Int)) × List (Int × Int × Int × List Bool) × List (Int × Int)) => z6 (Ze y.1.1) fun y_1 => z6 (Zq y.1.2) fun y_2 => zi maxR (fun (x : Int × List (Int × Int × Int × List Bool)) => ifB (ltI x.1 (lenI y.1.1)) (z6 (atI y.1.1 x.1) fun y => z6 (zT (y.1, y.2.1, y.2.2.1, y.2.2.2)) fun y => ifB (ltL x.1 x.2) (z6 (atN x.2 (natI x.1)) fun y_3 => some (Sum.inl (wadd .i64 x.1 1, setN x.2 (natI x.1) (y.1, y.2.1, y.2.2.1, y.2.2.2)))) none) (mapO Sum.inr (z6 (Ze y.2.1.1) fun y_3 => z6 (Zq y.2.1.2) fun y_4 => zi maxR (fun (x_1 : Int × List (Int × Int × Int × List Bool)) => ifB (ltI x_1.1 (lenI y.2.1.1)) (z6 (atI y.2.1.1 x_1.1) fun y => z6 (zT (y.1, y.2.1, y.2.2.1, y.2.2.2)) fun y => ifB (ltL x_1.1 x_1.2) (z6 (atN x_1.2 (natI x_1.1)) fun y_5 => some (Sum.inl (wadd .i64 x_1.1 1, setN x_1.2 (natI x_1.1) (y.1, y.2.1, y.2.2.1, y.2.2.2)))) none) (mapO Sum.inr (z6 (Ze y.2.2.1.1) fun y_5 => z6 (Zq y.2.2.1.2) fun y_6 => zi maxR (fun (x_2 : Int × List (Int × Int × Int × List Bool)) => ifB (ltI x_2.1 (lenI y.2.2.1.1)) (z6 (atI y.2.2.1.1 x_2.1) fun y => z6 (zT (y.1, y.2.1, y.2.2.1, y.2.2.2)) fun y => ifB (ltL x_2.1 x_2.2) (z6 (atN x_2.2 (natI x_2.1)) fun y_7 => some (Sum.inl (wadd .i64 x_2.1 1, setN x_2.2 (natI x_2.1) (y.1, y.2.1, y.2.2.1, y.2.2.2)))) none) (mapO Sum.inr (z6 (Ze y.2.2.2.1) fun y_7 => z6 (Zq y.2.2.2.2) fun y_8 => zi maxR (fun (x_3 : Int × List (Int × Int × Int × List Bool)) => ifB (ltI x_3.1 (lenI y.2.2.2.1)) (z6 (atI y.2.2.2.1 x_3.1) fun y => z6 (zT (y.1, y.2.1, y.2.2.1, y.2.2.2)) fun y => ifB (ltL x_3.1 x_3.2) (z6 (atN x_3.2 (natI x_3.1)) fun y_9 => some (Sum.inl (wadd .i64 x_3.1 1, setN x_3.2 (natI x_3.1) (y.1, y.2.1, y.2.2.1, y.2.2.2)))) none) (mapO Sum.inr (ifB (eqI b 0) (ifB (ltI c 1) (some ([], 3)) (ifB (gtI c (lenI y_2)) (some ([], 3)) (ifB (eqI (lenI x.2) 8) (some ([], 2)) (ifB (in1 y_2 c) (ifB (inN y_2 0 (natI c)) (z6 (Y3 (subN y_2 0 (natI c))) fun y => ifB (neI y.2 0) (some ([], y.2)) (ifB (zg 48 x.2 [(y.1.1, y.1.2.1, y.1.2.2.1, y.1.2.2.2)]) (ifB (in1 y_2 c) (some ([(cat x.2 [(y.1.1, y.1.2.1, y.1.2.2.1, y.1.2.2.2)], yB y_2 c), (x_1.2, y_4), (x_2.2, y_6), (x_3.2, y_8)], 0)) none) none)) none) none)))) (ifB (eqI b 1) (ifB (ltI c 1) (some ([], 3)) (ifB (gtI c (lenI y_4)) (some ([], 3)) (ifB (eqI (lenI x_1.2) 8) (some ([], 2)) (ifB (in1 y_4 c) (ifB (inN y_4 0 (natI c)) (z6 (Y3 (subN y_4 0 (natI c))) fun y => ifB (neI y.2 0) (some ([], y.2)) (ifB (zg 48 x_1.2 [(y.1.1, y.1.2.1, y.1.2.2.1, y.1.2.2.2)]) (ifB (in1 y_4 c) (some ([(x.2, y_2), (cat x_1.2 [(y.1.1, y.1.2.1, y.1.2.2.1, y.1.2.2.2)], yB y_4 c), (x_2.2, y_6), (x_3.2, y_8)], 0)) none) none)) none) none)))) (ifB (eqI b 2) (ifB (ltI c 1) (some ([], 3)) (ifB (gtI c (lenI y_6)) (some ([], 3)) (ifB (eqI (lenI x_2.2) 8) (some ([], 2)) (ifB (in1 y_6 c) (ifB (inN y_6 0 (natI c)) (z6 (Y3 (subN y_6 0 (natI c))) fun y => ifB (neI y.2 0) (some ([], y.2)) (ifB (zg 48 x_2.2 [(y.1.1, y.1.2.1, y.1.2.2.1, y.1.2.2.2)]) (ifB (in1 y_6 c) (some ([(x.2, y_2), (x_1.2, y_4), (cat x_2.2 [(y.1.1, y.1.2.1, y.1.2.2.1, y.1.2.2.2)], yB y_6 c), (x_3.2, y_8)], 0)) none) none)) none) none)))) (ifB (eqI b 3) (ifB (ltI c 1) (some ([], 3)) (ifB (gtI c (lenI y_8)) (some ([], 3)) (ifB (eqI (lenI x_3.2) 8) (some ([], 2)) (ifB (in1 y_8 c) (ifB (inN y_8 0 (natI c)) (z6 (Y3 (subN y_8 0 (natI c))) fun y => ifB (neI y.2 0) (some ([], y.2)) (ifB (zg 48 x_3.2 [(y.1.1, y.1.2.1, y.1.2.2.1, y.1.2.2.2)]) (ifB (in1 y_8 c) (some ([(x.2, y_2), (x_1.2, y_4), (x_2.2, y_6), (cat x_3.2 [(y.1.1, y.1.2.1, y.1.2.2.1, y.1.2.2.2)], yB y_8 c)], 0)) none) none)) none) none)))) none)))))) (0, y_7)))) (0, y_5)))) (0, y_3)))) (0, y_1))))
theorem zfY (x : PI z45) : jN (x.1) (x.2.1) (x.2.2) = fnE T zbx zby zbw (zo Tryz.f81) z45 za7 x := by kernel_rfl
noncomputable abbrev zbz : GS := zq false z45 za7 fun x => jN (x.1) (x.2.1) (x.2.2)
theorem zfZ : GSOK Tryz.prog 81 zbz := zm tok zlb fmo (Ht := zby) (fn := Tryz.f81) (Tryz.func81) (c := zbw) (by kernel_rfl) (by kernel_rfl) (by kernel_rfl) (by decide +kernel) (by decide) zfY
end Go.Proofs.Y
namespace Go.Proofs.Y
open Go.Rb Go.Kx
noncomputable def zoc : Code := zj Tryz.f169
noncomputable def zod : FuncId → Option GS := tabG []
theorem zty : ΓOK Tryz.prog zod := zf
def zoe : HT := ⟨tabL [], tabH []⟩
noncomputable def zof : GS := inl T zod zoe zoc (zo Tryz.f169) (Tryz.f169.ntmps)
theorem zpb : GSOK Tryz.prog 169 zof := yR tok zty fmo (Ht := zoe) (fn := Tryz.f169) (Tryz.func169) (c := zoc) (by kernel_rfl) (by kernel_rfl) (by kernel_rfl)
end Go.Proofs.Y
namespace Go.Proofs.Y
open Go.Rb Go.Kx
noncomputable def zit : Code := zj Tryz.f146
noncomputable def ziu : FuncId → Option GS := tabG [(169, zof)]
theorem zqn : ΓOK Tryz.prog ziu := z8 (zpb) (zf)
def ziv : HT := ⟨tabL [(3, .it [] (dyn [.t 3 (.int .i64), .t 11 (.int .i64)])), (11, .it [] (dyn [.a 6 73 (.cons (.int .i64) (.one (.int .i64))), .t 27 (.int .i64)]))], tabH [(10, [.trim 6])]⟩
abbrev z9x : List IT := [.v (.one (.sl 65 (.one (.sl 73 (.cons (.int .i64) (.one (.int .i64))))))) false]
abbrev zg0 : List OT := [⟨.one (.sl 73 (.cons (.int .i64) (.one (.int .i64)))), false, []⟩]
set_option maxRecDepth 100000
noncomputable def z79 : List (List (Int × Int)) → Option (List (Int × Int)) := fun a => zi maxR (fun (x : Int × Int) => ifB (ltI x.2 (lenI a)) (z6 (atI a x.2) fun y => ifB (ltI (wadd .i64 x.1 (lenI y)) 0) none (some (Sum.inl (wadd .i64 x.1 (lenI y), wadd .i64 x.2 1)))) (mapO Sum.inr (ifB (ltI x.1 0) none (ifB (gtI (wsub .i64 x.1 (wsub .i64 0 0)) 0) (ifB (z1H 16 (wsub .i64 x.1 (wsub .i64 0 0))) (ifB (in1 (repI (wsub .i64 x.1 (wsub .i64 0 0)) (0, 0)) 0) (ifB (inN (repI (wsub .i64 x.1 (wsub .i64 0 0)) (0, 0)) 0 (natI 0)) (zi maxR (fun (x : Int × List (Int × Int)) => ifB (ltI x.1 (lenI a)) (z6 (atI a x.1) fun y => ifB (zg 16 x.2 y) (some (Sum.inl (wadd .i64 x.1 1, cat x.2 y))) none) (mapO Sum.inr (some x.2))) (0, subN (repI (wsub .i64 x.1 (wsub .i64 0 0)) (0, 0)) 0 (natI 0))) none) none) none) (zi maxR (fun (x : Int × List (Int × Int)) => ifB (ltI x.1 (lenI a)) (z6 (atI a x.1) fun y => ifB (zg 16 x.2 y) (some (Sum.inl (wadd .i64 x.1 1, cat x.2 y))) none) (mapO Sum.inr (some x.2))) (0, [])))))) (0, 0)
theorem zlc (x : PI z9x) : z79 x = fnE T ziu ziv zit (zo Tryz.f146) z9x zg0 x := by kernel_rfl
noncomputable abbrev ziw : GS := zq false z9x zg0 fun x => z79 x
theorem zld : GSOK Tryz.prog 146 ziw := zm tok zqn fmo (Ht := ziv) (fn := Tryz.f146) (Tryz.func146) (c := zit) (by kernel_rfl) (by kernel_rfl) (by kernel_rfl) (by decide +kernel) (by decide) zlc
end Go.Proofs.Y
namespace Go.Proofs.Y
open Go.Rb Go.Kx
noncomputable def za8 : Code := zj Tryz.f115
noncomputable def za9 : FuncId → Option GS := tabG [(126, z2X), (146, ziw), (114, z5P)]
theorem zjD : ΓOK Tryz.prog za9 := z8 (z4x) (z8 (zld) (z8 (z78) (zf)))
def zaa : HT := ⟨tabL [], tabH []⟩
abbrev z2Z : List IT := [.v (.cons (.int .i64) (.cons (.int .i64) (.cons (.int .i64) (.one (.sl 4 (.one .bool)))))) true, .v (.cons (.int .i64) (.cons (.int .i64) (.cons (.int .i64) (.one (.sl 4 (.one .bool)))))) true]
abbrev z8y : List OT := [⟨.cons (.int .i64) (.cons (.int .i64) (.cons (.int .i64) (.one (.sl 4 (.one .bool))))), true, []⟩, ⟨.one (.int .i64), false, []⟩]
set_option maxRecDepth 100000
noncomputable def Ya : Int × Int × Int × List Bool → Int × Int × Int × List Bool → Option ((Int × Int × Int × List Bool) × Int) := fun a b => z6 (YF (a.1, a.2.1, a.2.2.1, a.2.2.2)) fun y => ifB (neI y.2 0) (some ((0, 0, 0, []), y.2)) (z6 (YF (b.1, b.2.1, b.2.2.1, b.2.2.2)) fun y_1 => ifB (neI y_1.2 0) (some ((0, 0, 0, []), y_1.2)) (z6 (z79 [y.1, y_1.1]) fun y => z6 (Y3 y) fun y => some ((y.1.1, y.1.2.1, y.1.2.2.1, y.1.2.2.2), y.2)))
theorem zeH (x : PI z2Z) : Ya (x.1) (x.2) = fnE T za9 zaa za8 (zo Tryz.f115) z2Z z8y x := by kernel_rfl
noncomputable abbrev zab : GS := zq false z2Z z8y fun x => Ya (x.1) (x.2)
theorem zeI : GSOK Tryz.prog 115 zab := zm tok zjD fmo (Ht := zaa) (fn := Tryz.f115) (Tryz.func115) (c := za8) (by kernel_rfl) (by kernel_rfl) (by kernel_rfl) (by decide +kernel) (by decide) zeH
end Go.Proofs.Y
namespace Go.Proofs.Y
open Go.Rb Go.Kx
noncomputable def zix : Code := zj Tryz.f116
noncomputable def ziy : FuncId → Option GS := tabG []
theorem zqo : ΓOK Tryz.prog ziy := zf
def ziz : HT := ⟨tabL [], tabH []⟩
abbrev z9y : List WA := [.d (.int .i64), .d (.int .i64)]
abbrev zg1 : List OT := [⟨.one (.sl 126 (.cons (.int .i64) (.cons (.int .i64) (.cons (.int .i64) (.one (.sl 4 (.one .bool))))))), false, []⟩]
set_option maxRecDepth 100000
noncomputable def vY : List (Int × Int × Int × List Bool) → Int → Int → Option (List (Int × Int × Int × List Bool)) := fun a b c => ifB (ifB (in2 a b c) (eqI (lenI a) (lenI a)) false) (ifB (eqI b c) (some a) (ifB (in1 a b) (ifB (in1 a c) (ifB (inN a (addN 0 (natI c)) (Zh (lenN a) c)) (ifB (inN a (addN 0 (natI b)) (lenN (subN a (addN 0 (natI c)) (Zh (lenN a) c)))) (ifB (in2C (addN (natI b) (lenN (subN a (addN 0 (natI c)) (Zh (lenN a) c)))) (capN (lenN (zL a (addN 0 (natI b)) (subN a (addN 0 (natI c)) (Zh (lenN a) c)))) 0) (intN (addN (natI b) (lenN (subN a (addN 0 (natI c)) (Zh (lenN a) c))))) (lenI a)) (ifB (inN (zL a (addN 0 (natI b)) (subN a (addN 0 (natI c)) (Zh (lenN a) c))) (addN 0 (natI (intN (addN (natI b) (lenN (subN a (addN 0 (natI c)) (Zh (lenN a) c))))))) (subI (intN (addN (natI b) (lenN (subN a (addN 0 (natI c)) (Zh (lenN a) c))))) (lenI a))) (ifB (inN (zL (zL a (addN 0 (natI b)) (subN a (addN 0 (natI c)) (Zh (lenN a) c))) (addN 0 (natI (intN (addN (natI b) (lenN (subN a (addN 0 (natI c)) (Zh (lenN a) c))))))) (repN (subI (intN (addN (natI b) (lenN (subN a (addN 0 (natI c)) (Zh (lenN a) c))))) (lenI a)) (0, 0, 0, []))) 0 (addN (natI b) (lenN (subN a (addN 0 (natI c)) (Zh (lenN a) c))))) (some (subN (zL (zL a (addN 0 (natI b)) (subN a (addN 0 (natI c)) (Zh (lenN a) c))) (addN 0 (natI (intN (addN (natI b) (lenN (subN a (addN 0 (natI c)) (Zh (lenN a) c))))))) (repN (subI (intN (addN (natI b) (lenN (subN a (addN 0 (natI c)) (Zh (lenN a) c))))) (lenI a)) (0, 0, 0, []))) 0 (addN (natI b) (lenN (subN a (addN 0 (natI c)) (Zh (lenN a) c)))))) none) none) none) none) none) none) none)) none
theorem zle (rows : List (DenR (.cons (.int .i64) (.cons (.int .i64) (.cons (.int .i64) (.one (.sl 4 (.one .bool)))))))) (x : PW z9y) : vY rows (x.1) (x.2.1) = fnM T ziy ziz zix (zo Tryz.f116) 126 (.cons (.int .i64) (.cons (.int .i64) (.cons (.int .i64) (.one (.sl 4 (.one .bool)))))) z9y zg1 rows x := by kernel_rfl
noncomputable abbrev ziA : GS := zpP 126 (.cons (.int .i64) (.cons (.int .i64) (.cons (.int .i64) (.one (.sl 4 (.one .bool)))))) z9y zg1 fun rows x => vY rows (x.1) (x.2.1)
theorem zlf : GSOK Tryz.prog 116 ziA := zo7 tok zqo fmo (Ht := ziz) (fn := Tryz.f116) (Tryz.func116) (c := zix) (by kernel_rfl) (by kernel_rfl) (by kernel_rfl) (by decide +kernel) (by decide) zle
end Go.Proofs.Y
