/-
  What is proved, part by part: facts on the types of the program. what rainbookref.FreshShelf comes to. what note.Check comes to. what rainbookref.in comes to. what rainbookref.CheckPoint comes to. what rainbookref.CheckRec comes to. what rainbookref.Decoded comes to. what rainbookref.UnpackedOf comes to. what rainbookref.PointsOf comes to. what rainbookref.CheckPoints comes to. what rainbookref.RowPoints comes to. what rainbookref.CheckShelf comes to. what slices.Clone[[]api.Row,api.Row] comes to. what slices.Clone[[]api.Point,api.Point] comes to. what rainbookref.PutAll comes to. what slices.Clone[[]bool,bool] comes to. what rainbookref.Coded comes to. what rainbookref.PackedOf comes to. what rainbookref.BlockOf comes to. what slices.Clone[[]api.Block,api.Block] comes to. what rainbookref.Sealed comes to. what rainbookref.Merged comes to. what slices.Grow[[]api.Block,api.Block] comes to. what slices.Concat[[]api.Block,api.Block] comes to. what rainbookref.MergedRow comes to. what rainbookref.Dropped comes to. what rainbookref.nexted comes to. what rainbookref.Nexted comes to. what rainbookref.ShelfOf comes to. what bits.Read comes to. what zig.Read comes to. what line.Check comes to. what line.Unpack comes to. what block.Points comes to. what shelf.all comes to. what shelf.Check comes to. what block.Copy comes to. what shelf.Copy comes to. what shelf.Put comes to. what zig.fold comes to. what bits.Put comes to. what zig.Put comes to. what line.Pack comes to. what block.Make comes to. what shelf.Seal comes to. what slices.Grow[[]api.Point,api.Point] comes to. what slices.Concat[[]api.Point,api.Point] comes to. what block.Merge comes to. what slices.Delete[[]api.Block,api.Block] comes to. Conditions: none.
-/
import Derived.Test.YtnkegapccacndaaGreatDoorKED
import Derived.Test.YtnkegapccacndaaGreatDoorProg
import Derived.KernelRfl
set_option linter.unusedVariables false
set_option linter.unusedSimpArgs false
set_option linter.unnecessarySimpa false
set_option maxRecDepth 4000
namespace Go.Proofs.Y
open Go.Rb Go.Kx
theorem okT2 : OkTD Tryz.prog 2 ⟨.int .i64, 1, 8, some (.one (.int .i64))⟩ := ⟨⟨by kernel_rfl, by kernel_rfl, by kernel_rfl⟩, Tryz.underlying2, ⟨by kernel_rfl, by kernel_rfl⟩, trivial⟩
theorem okT3 : OkTD Tryz.prog 3 ⟨.int .i64, 1, 8, some (.one (.int .i64))⟩ := ⟨⟨by kernel_rfl, by kernel_rfl, by kernel_rfl⟩, Tryz.underlying3, ⟨by kernel_rfl, by kernel_rfl⟩, trivial⟩
theorem okT4 : OkTD Tryz.prog 4 ⟨.bool, 1, 1, some (.one .bool)⟩ := ⟨⟨by kernel_rfl, by kernel_rfl, by kernel_rfl⟩, Tryz.underlying4, ⟨by kernel_rfl, by kernel_rfl⟩, trivial⟩
theorem okT5 : OkTD Tryz.prog 5 ⟨.int .u8, 1, 1, some (.one (.int .u8))⟩ := ⟨⟨by kernel_rfl, by kernel_rfl, by kernel_rfl⟩, Tryz.underlying5, ⟨by kernel_rfl, by kernel_rfl⟩, trivial⟩
theorem okT9 : OkTD Tryz.prog 9 ⟨.str, 1, 16, some (.one .str)⟩ := ⟨⟨by kernel_rfl, by kernel_rfl, by kernel_rfl⟩, Tryz.underlying9, ⟨by kernel_rfl, by kernel_rfl⟩, trivial⟩
theorem zvE : OkTD Tryz.prog 22 ⟨.sl 95, 1, 24, some (.one (.sl 95 (.cons (.sl 126 (.cons (.int .i64) (.cons (.int .i64) (.cons (.int .i64) (.one (.sl 4 (.one .bool))))))) (.one (.sl 73 (.cons (.int .i64) (.one (.int .i64))))))))⟩ := ⟨⟨by kernel_rfl, by kernel_rfl, by kernel_rfl⟩, ⟨Tryz.underlying22, by kernel_rfl⟩, ⟨by kernel_rfl, by kernel_rfl⟩, trivial⟩
theorem zvF : OkTD Tryz.prog 24 ⟨.st [(0, 1)], 1, 24, some (.one (.sl 95 (.cons (.sl 126 (.cons (.int .i64) (.cons (.int .i64) (.cons (.int .i64) (.one (.sl 4 (.one .bool))))))) (.one (.sl 73 (.cons (.int .i64) (.one (.int .i64))))))))⟩ := ⟨⟨by kernel_rfl, by kernel_rfl, by kernel_rfl⟩, ⟨_, Tryz.underlying24, by kernel_rfl, by kernel_rfl⟩, ⟨by kernel_rfl, by kernel_rfl⟩, fun h => absurd (by rfl) h⟩
theorem zvG : OkTD Tryz.prog 25 ⟨.sl 5, 1, 24, some (.one (.sl 5 (.one (.int .u8))))⟩ := ⟨⟨by kernel_rfl, by kernel_rfl, by kernel_rfl⟩, ⟨Tryz.underlying25, by kernel_rfl⟩, ⟨by kernel_rfl, by kernel_rfl⟩, trivial⟩
theorem zvH : OkTD Tryz.prog 27 ⟨.st [(0, 1), (1, 1)], 2, 48, some (.cons (.sl 5 (.one (.int .u8))) (.one (.sl 5 (.one (.int .u8)))))⟩ := ⟨⟨by kernel_rfl, by kernel_rfl, by kernel_rfl⟩, ⟨_, Tryz.underlying27, by kernel_rfl, by kernel_rfl⟩, ⟨by kernel_rfl, by kernel_rfl⟩, fun h => absurd (by rfl) h⟩
theorem zvI : OkTD Tryz.prog 28 ⟨.sl 3, 1, 24, some (.one (.sl 3 (.one (.int .i64))))⟩ := ⟨⟨by kernel_rfl, by kernel_rfl, by kernel_rfl⟩, ⟨Tryz.underlying28, by kernel_rfl⟩, ⟨by kernel_rfl, by kernel_rfl⟩, trivial⟩
theorem zvJ : OkTD Tryz.prog 30 ⟨.st [(0, 1), (1, 2), (3, 1), (4, 1)], 5, 104, some (.cons (.sl 95 (.cons (.sl 126 (.cons (.int .i64) (.cons (.int .i64) (.cons (.int .i64) (.one (.sl 4 (.one .bool))))))) (.one (.sl 73 (.cons (.int .i64) (.one (.int .i64))))))) (.cons (.sl 5 (.one (.int .u8))) (.cons (.sl 5 (.one (.int .u8))) (.cons (.bool) (.one (.sl 3 (.one (.int .i64))))))))⟩ := ⟨⟨by kernel_rfl, by kernel_rfl, by kernel_rfl⟩, ⟨_, Tryz.underlying30, by kernel_rfl, by kernel_rfl⟩, ⟨by kernel_rfl, by kernel_rfl⟩, fun h => absurd (by rfl) h⟩
theorem zvK : OkTD Tryz.prog 31 ⟨.sl 41, 1, 24, some (.one (.sl 41 (.cons (.int .i64) (.cons (.int .i64) (.cons (.int .i64) (.one (.sl 77 (.cons (.int .i64) (.cons (.int .i64) (.one (.int .i64)))))))))))⟩ := ⟨⟨by kernel_rfl, by kernel_rfl, by kernel_rfl⟩, ⟨Tryz.underlying31, by kernel_rfl⟩, ⟨by kernel_rfl, by kernel_rfl⟩, trivial⟩
theorem zvL : OkTD Tryz.prog 32 ⟨.sl 33, 1, 24, some (.one (.sl 33 (.one (.int .i64))))⟩ := ⟨⟨by kernel_rfl, by kernel_rfl, by kernel_rfl⟩, ⟨Tryz.underlying32, by kernel_rfl⟩, ⟨by kernel_rfl, by kernel_rfl⟩, trivial⟩
theorem zvM : OkTD Tryz.prog 33 ⟨.int .i64, 1, 8, some (.one (.int .i64))⟩ := ⟨⟨by kernel_rfl, by kernel_rfl, by kernel_rfl⟩, Tryz.underlying33, ⟨by kernel_rfl, by kernel_rfl⟩, trivial⟩
theorem zvN : OkTD Tryz.prog 39 ⟨.sl 77, 1, 24, some (.one (.sl 77 (.cons (.int .i64) (.cons (.int .i64) (.one (.int .i64))))))⟩ := ⟨⟨by kernel_rfl, by kernel_rfl, by kernel_rfl⟩, ⟨Tryz.underlying39, by kernel_rfl⟩, ⟨by kernel_rfl, by kernel_rfl⟩, trivial⟩
theorem zvO : OkTD Tryz.prog 41 ⟨.st [(0, 1), (1, 1), (2, 1), (3, 1)], 4, 48, some (.cons (.int .i64) (.cons (.int .i64) (.cons (.int .i64) (.one (.sl 77 (.cons (.int .i64) (.cons (.int .i64) (.one (.int .i64)))))))))⟩ := ⟨⟨by kernel_rfl, by kernel_rfl, by kernel_rfl⟩, ⟨_, Tryz.underlying41, by kernel_rfl, by kernel_rfl⟩, ⟨by kernel_rfl, by kernel_rfl⟩, fun h => absurd (by rfl) h⟩
theorem zvP : OkTD Tryz.prog 48 ⟨.sl 52, 1, 24, some (.one (.sl 52 (.cons (.int .i64) (.cons (.int .i64) (.cons (.int .i64) (.one (.sl 77 (.cons (.int .i64) (.cons (.int .i64) (.one (.int .i64)))))))))))⟩ := ⟨⟨by kernel_rfl, by kernel_rfl, by kernel_rfl⟩, ⟨Tryz.underlying48, by kernel_rfl⟩, ⟨by kernel_rfl, by kernel_rfl⟩, trivial⟩
theorem zvQ : OkTD Tryz.prog 52 ⟨.st [(0, 1), (1, 1), (2, 1), (3, 1)], 4, 48, some (.cons (.int .i64) (.cons (.int .i64) (.cons (.int .i64) (.one (.sl 77 (.cons (.int .i64) (.cons (.int .i64) (.one (.int .i64)))))))))⟩ := ⟨⟨by kernel_rfl, by kernel_rfl, by kernel_rfl⟩, ⟨_, Tryz.underlying52, by kernel_rfl, by kernel_rfl⟩, ⟨by kernel_rfl, by kernel_rfl⟩, fun h => absurd (by rfl) h⟩
theorem zvR : OkTD Tryz.prog 65 ⟨.sl 73, 1, 24, some (.one (.sl 73 (.cons (.int .i64) (.one (.int .i64)))))⟩ := ⟨⟨by kernel_rfl, by kernel_rfl, by kernel_rfl⟩, ⟨Tryz.underlying65, by kernel_rfl⟩, ⟨by kernel_rfl, by kernel_rfl⟩, trivial⟩
theorem zvS : OkTD Tryz.prog 73 ⟨.st [(0, 1), (1, 1)], 2, 16, some (.cons (.int .i64) (.one (.int .i64)))⟩ := ⟨⟨by kernel_rfl, by kernel_rfl, by kernel_rfl⟩, ⟨_, Tryz.underlying73, by kernel_rfl, by kernel_rfl⟩, ⟨by kernel_rfl, by kernel_rfl⟩, fun _ => zdY (Tryz.underlying73) (by kernel_rfl) (by kernel_rfl) (by kernel_rfl) (by kernel_rfl)⟩
theorem zvT : OkTD Tryz.prog 77 ⟨.st [(0, 1), (1, 1), (2, 1)], 3, 24, some (.cons (.int .i64) (.cons (.int .i64) (.one (.int .i64))))⟩ := ⟨⟨by kernel_rfl, by kernel_rfl, by kernel_rfl⟩, ⟨_, Tryz.underlying77, by kernel_rfl, by kernel_rfl⟩, ⟨by kernel_rfl, by kernel_rfl⟩, fun _ => zdY (Tryz.underlying77) (by kernel_rfl) (by kernel_rfl) (by kernel_rfl) (by kernel_rfl)⟩
theorem zvU : OkTD Tryz.prog 93 ⟨.sl 126, 1, 24, some (.one (.sl 126 (.cons (.int .i64) (.cons (.int .i64) (.cons (.int .i64) (.one (.sl 4 (.one .bool))))))))⟩ := ⟨⟨by kernel_rfl, by kernel_rfl, by kernel_rfl⟩, ⟨Tryz.underlying93, by kernel_rfl⟩, ⟨by kernel_rfl, by kernel_rfl⟩, trivial⟩
theorem zvV : OkTD Tryz.prog 95 ⟨.st [(0, 1), (1, 1)], 2, 48, some (.cons (.sl 126 (.cons (.int .i64) (.cons (.int .i64) (.cons (.int .i64) (.one (.sl 4 (.one .bool))))))) (.one (.sl 73 (.cons (.int .i64) (.one (.int .i64))))))⟩ := ⟨⟨by kernel_rfl, by kernel_rfl, by kernel_rfl⟩, ⟨_, Tryz.underlying95, by kernel_rfl, by kernel_rfl⟩, ⟨by kernel_rfl, by kernel_rfl⟩, fun h => absurd (by rfl) h⟩
theorem zv5 : OkTD Tryz.prog 124 ⟨.sl 4, 1, 24, some (.one (.sl 4 (.one .bool)))⟩ := ⟨⟨by kernel_rfl, by kernel_rfl, by kernel_rfl⟩, ⟨Tryz.underlying124, by kernel_rfl⟩, ⟨by kernel_rfl, by kernel_rfl⟩, trivial⟩
theorem zv6 : OkTD Tryz.prog 126 ⟨.st [(0, 1), (1, 1), (2, 1), (3, 1)], 4, 48, some (.cons (.int .i64) (.cons (.int .i64) (.cons (.int .i64) (.one (.sl 4 (.one .bool))))))⟩ := ⟨⟨by kernel_rfl, by kernel_rfl, by kernel_rfl⟩, ⟨_, Tryz.underlying126, by kernel_rfl, by kernel_rfl⟩, ⟨by kernel_rfl, by kernel_rfl⟩, fun h => absurd (by rfl) h⟩
theorem zv7 : OkTD Tryz.prog 130 ⟨.sl 32, 1, 24, some (.one (.sl 32 (.one (.sl 33 (.one (.int .i64))))))⟩ := ⟨⟨by kernel_rfl, by kernel_rfl, by kernel_rfl⟩, ⟨Tryz.underlying130, by kernel_rfl⟩, ⟨by kernel_rfl, by kernel_rfl⟩, trivial⟩
theorem zv8 : OkTD Tryz.prog 149 ⟨.sl 9, 1, 24, some (.one (.sl 9 (.one .str)))⟩ := ⟨⟨by kernel_rfl, by kernel_rfl, by kernel_rfl⟩, ⟨Tryz.underlying149, by kernel_rfl⟩, ⟨by kernel_rfl, by kernel_rfl⟩, trivial⟩
theorem zv9 : OkTD Tryz.prog 152 ⟨.sl 25, 1, 24, some (.one (.sl 25 (.one (.sl 5 (.one (.int .u8))))))⟩ := ⟨⟨by kernel_rfl, by kernel_rfl, by kernel_rfl⟩, ⟨Tryz.underlying152, by kernel_rfl⟩, ⟨by kernel_rfl, by kernel_rfl⟩, trivial⟩
theorem zva : OkTD Tryz.prog 162 ⟨.sl 48, 1, 24, some (.one (.sl 48 (.one (.sl 52 (.cons (.int .i64) (.cons (.int .i64) (.cons (.int .i64) (.one (.sl 77 (.cons (.int .i64) (.cons (.int .i64) (.one (.int .i64)))))))))))))⟩ := ⟨⟨by kernel_rfl, by kernel_rfl, by kernel_rfl⟩, ⟨Tryz.underlying162, by kernel_rfl⟩, ⟨by kernel_rfl, by kernel_rfl⟩, trivial⟩
theorem zvb : OkTD Tryz.prog 172 ⟨.mp, 1, 8, none⟩ := ⟨⟨by kernel_rfl, by kernel_rfl, by kernel_rfl⟩, zvD Tryz.underlying172 Tryz.underlying3 (by kernel_rfl), trivial, trivial⟩
theorem zvc : OkTD Tryz.prog 174 ⟨.int .u64, 1, 8, some (.one (.int .u64))⟩ := ⟨⟨by kernel_rfl, by kernel_rfl, by kernel_rfl⟩, Tryz.underlying174, ⟨by kernel_rfl, by kernel_rfl⟩, trivial⟩
theorem zvd : OkTD Tryz.prog 183 ⟨.ifc, 1, 16, none⟩ := ⟨⟨by kernel_rfl, by kernel_rfl, by kernel_rfl⟩, ⟨_, Tryz.underlying183⟩, trivial, trivial⟩
theorem zve : OkTD Tryz.prog 199 ⟨.int .u32, 1, 4, some (.one (.int .u32))⟩ := ⟨⟨by kernel_rfl, by kernel_rfl, by kernel_rfl⟩, Tryz.underlying199, ⟨by kernel_rfl, by kernel_rfl⟩, trivial⟩
theorem zvf : OkTD Tryz.prog 202 ⟨.int .u64, 1, 8, some (.one (.int .u64))⟩ := ⟨⟨by kernel_rfl, by kernel_rfl, by kernel_rfl⟩, Tryz.underlying202, ⟨by kernel_rfl, by kernel_rfl⟩, trivial⟩
theorem zvg : OkTD Tryz.prog 206 ⟨.sl 65, 1, 24, some (.one (.sl 65 (.one (.sl 73 (.cons (.int .i64) (.one (.int .i64)))))))⟩ := ⟨⟨by kernel_rfl, by kernel_rfl, by kernel_rfl⟩, ⟨Tryz.underlying206, by kernel_rfl⟩, ⟨by kernel_rfl, by kernel_rfl⟩, trivial⟩
theorem zvh : OkTD Tryz.prog 213 ⟨.sl 93, 1, 24, some (.one (.sl 93 (.one (.sl 126 (.cons (.int .i64) (.cons (.int .i64) (.cons (.int .i64) (.one (.sl 4 (.one .bool))))))))))⟩ := ⟨⟨by kernel_rfl, by kernel_rfl, by kernel_rfl⟩, ⟨Tryz.underlying213, by kernel_rfl⟩, ⟨by kernel_rfl, by kernel_rfl⟩, trivial⟩
def tL : List (Nat × TD) := [(2, ⟨.int .i64, 1, 8, some (.one (.int .i64))⟩),
 (3, ⟨.int .i64, 1, 8, some (.one (.int .i64))⟩),
 (4, ⟨.bool, 1, 1, some (.one .bool)⟩),
 (5, ⟨.int .u8, 1, 1, some (.one (.int .u8))⟩),
 (9, ⟨.str, 1, 16, some (.one .str)⟩),
 (22, ⟨.sl 95, 1, 24, some (.one (.sl 95 (.cons (.sl 126 (.cons (.int .i64) (.cons (.int .i64) (.cons (.int .i64) (.one (.sl 4 (.one .bool))))))) (.one (.sl 73 (.cons (.int .i64) (.one (.int .i64))))))))⟩),
 (24, ⟨.st [(0, 1)], 1, 24, some (.one (.sl 95 (.cons (.sl 126 (.cons (.int .i64) (.cons (.int .i64) (.cons (.int .i64) (.one (.sl 4 (.one .bool))))))) (.one (.sl 73 (.cons (.int .i64) (.one (.int .i64))))))))⟩),
 (25, ⟨.sl 5, 1, 24, some (.one (.sl 5 (.one (.int .u8))))⟩),
 (27, ⟨.st [(0, 1), (1, 1)], 2, 48, some (.cons (.sl 5 (.one (.int .u8))) (.one (.sl 5 (.one (.int .u8)))))⟩),
 (28, ⟨.sl 3, 1, 24, some (.one (.sl 3 (.one (.int .i64))))⟩),
 (30, ⟨.st [(0, 1), (1, 2), (3, 1), (4, 1)], 5, 104, some (.cons (.sl 95 (.cons (.sl 126 (.cons (.int .i64) (.cons (.int .i64) (.cons (.int .i64) (.one (.sl 4 (.one .bool))))))) (.one (.sl 73 (.cons (.int .i64) (.one (.int .i64))))))) (.cons (.sl 5 (.one (.int .u8))) (.cons (.sl 5 (.one (.int .u8))) (.cons (.bool) (.one (.sl 3 (.one (.int .i64))))))))⟩),
 (31, ⟨.sl 41, 1, 24, some (.one (.sl 41 (.cons (.int .i64) (.cons (.int .i64) (.cons (.int .i64) (.one (.sl 77 (.cons (.int .i64) (.cons (.int .i64) (.one (.int .i64)))))))))))⟩),
 (32, ⟨.sl 33, 1, 24, some (.one (.sl 33 (.one (.int .i64))))⟩),
 (33, ⟨.int .i64, 1, 8, some (.one (.int .i64))⟩),
 (39, ⟨.sl 77, 1, 24, some (.one (.sl 77 (.cons (.int .i64) (.cons (.int .i64) (.one (.int .i64))))))⟩),
 (41, ⟨.st [(0, 1), (1, 1), (2, 1), (3, 1)], 4, 48, some (.cons (.int .i64) (.cons (.int .i64) (.cons (.int .i64) (.one (.sl 77 (.cons (.int .i64) (.cons (.int .i64) (.one (.int .i64)))))))))⟩),
 (48, ⟨.sl 52, 1, 24, some (.one (.sl 52 (.cons (.int .i64) (.cons (.int .i64) (.cons (.int .i64) (.one (.sl 77 (.cons (.int .i64) (.cons (.int .i64) (.one (.int .i64)))))))))))⟩),
 (52, ⟨.st [(0, 1), (1, 1), (2, 1), (3, 1)], 4, 48, some (.cons (.int .i64) (.cons (.int .i64) (.cons (.int .i64) (.one (.sl 77 (.cons (.int .i64) (.cons (.int .i64) (.one (.int .i64)))))))))⟩),
 (65, ⟨.sl 73, 1, 24, some (.one (.sl 73 (.cons (.int .i64) (.one (.int .i64)))))⟩),
 (73, ⟨.st [(0, 1), (1, 1)], 2, 16, some (.cons (.int .i64) (.one (.int .i64)))⟩),
 (77, ⟨.st [(0, 1), (1, 1), (2, 1)], 3, 24, some (.cons (.int .i64) (.cons (.int .i64) (.one (.int .i64))))⟩),
 (93, ⟨.sl 126, 1, 24, some (.one (.sl 126 (.cons (.int .i64) (.cons (.int .i64) (.cons (.int .i64) (.one (.sl 4 (.one .bool))))))))⟩),
 (95, ⟨.st [(0, 1), (1, 1)], 2, 48, some (.cons (.sl 126 (.cons (.int .i64) (.cons (.int .i64) (.cons (.int .i64) (.one (.sl 4 (.one .bool))))))) (.one (.sl 73 (.cons (.int .i64) (.one (.int .i64))))))⟩),
 (124, ⟨.sl 4, 1, 24, some (.one (.sl 4 (.one .bool)))⟩),
 (126, ⟨.st [(0, 1), (1, 1), (2, 1), (3, 1)], 4, 48, some (.cons (.int .i64) (.cons (.int .i64) (.cons (.int .i64) (.one (.sl 4 (.one .bool))))))⟩),
 (130, ⟨.sl 32, 1, 24, some (.one (.sl 32 (.one (.sl 33 (.one (.int .i64))))))⟩),
 (149, ⟨.sl 9, 1, 24, some (.one (.sl 9 (.one .str)))⟩),
 (152, ⟨.sl 25, 1, 24, some (.one (.sl 25 (.one (.sl 5 (.one (.int .u8))))))⟩),
 (162, ⟨.sl 48, 1, 24, some (.one (.sl 48 (.one (.sl 52 (.cons (.int .i64) (.cons (.int .i64) (.cons (.int .i64) (.one (.sl 77 (.cons (.int .i64) (.cons (.int .i64) (.one (.int .i64)))))))))))))⟩),
 (172, ⟨.mp, 1, 8, none⟩),
 (174, ⟨.int .u64, 1, 8, some (.one (.int .u64))⟩),
 (183, ⟨.ifc, 1, 16, none⟩),
 (199, ⟨.int .u32, 1, 4, some (.one (.int .u32))⟩),
 (202, ⟨.int .u64, 1, 8, some (.one (.int .u64))⟩),
 (206, ⟨.sl 65, 1, 24, some (.one (.sl 65 (.one (.sl 73 (.cons (.int .i64) (.one (.int .i64)))))))⟩),
 (213, ⟨.sl 93, 1, 24, some (.one (.sl 93 (.one (.sl 126 (.cons (.int .i64) (.cons (.int .i64) (.cons (.int .i64) (.one (.sl 4 (.one .bool))))))))))⟩)]
def T : TT := tabT tL
theorem tok : TOK Tryz.prog T := zv4 (L := tL) (List.forall_mem_cons.2 ⟨okT2, List.forall_mem_cons.2 ⟨okT3, List.forall_mem_cons.2 ⟨okT4, List.forall_mem_cons.2 ⟨okT5, List.forall_mem_cons.2 ⟨okT9, List.forall_mem_cons.2 ⟨zvE, List.forall_mem_cons.2 ⟨zvF, List.forall_mem_cons.2 ⟨zvG, List.forall_mem_cons.2 ⟨zvH, List.forall_mem_cons.2 ⟨zvI, List.forall_mem_cons.2 ⟨zvJ, List.forall_mem_cons.2 ⟨zvK, List.forall_mem_cons.2 ⟨zvL, List.forall_mem_cons.2 ⟨zvM, List.forall_mem_cons.2 ⟨zvN, List.forall_mem_cons.2 ⟨zvO, List.forall_mem_cons.2 ⟨zvP, List.forall_mem_cons.2 ⟨zvQ, List.forall_mem_cons.2 ⟨zvR, List.forall_mem_cons.2 ⟨zvS, List.forall_mem_cons.2 ⟨zvT, List.forall_mem_cons.2 ⟨zvU, List.forall_mem_cons.2 ⟨zvV, List.forall_mem_cons.2 ⟨zv5, List.forall_mem_cons.2 ⟨zv6, List.forall_mem_cons.2 ⟨zv7, List.forall_mem_cons.2 ⟨zv8, List.forall_mem_cons.2 ⟨zv9, List.forall_mem_cons.2 ⟨zva, List.forall_mem_cons.2 ⟨zvb, List.forall_mem_cons.2 ⟨zvc, List.forall_mem_cons.2 ⟨zvd, List.forall_mem_cons.2 ⟨zve, List.forall_mem_cons.2 ⟨zvf, List.forall_mem_cons.2 ⟨zvg, List.forall_mem_cons.2 ⟨zvh, (by intro q h; cases h)⟩⟩⟩⟩⟩⟩⟩⟩⟩⟩⟩⟩⟩⟩⟩⟩⟩⟩⟩⟩⟩⟩⟩⟩⟩⟩⟩⟩⟩⟩⟩⟩⟩⟩⟩⟩)
theorem fmo : Tryz.prog.follows .mixedOrders = true := by kernel_rfl
end Go.Proofs.Y
namespace Go.Proofs.Y
open Go.Rb Go.Kx
noncomputable def zlv : Code := zg Tryz.f70
noncomputable def zlw : FuncId → Option GS := tabG []
theorem zsG : ΓOK Tryz.prog zlw := ze
def zlx : HT := ⟨tabL [], tabH []⟩
abbrev zbw : List IT := []
abbrev ziV : List OT := [⟨.one (.sl 95 (.cons (.sl 126 (.cons (.int .i64) (.cons (.int .i64) (.cons (.int .i64) (.one (.sl 4 (.one .bool))))))) (.one (.sl 73 (.cons (.int .i64) (.one (.int .i64))))))), true, []⟩]
set_option maxRecDepth 100000
noncomputable def z5H : Option (List (List (Int × Int × Int × List Bool) × List (Int × Int))) := ifB (z3B 48 4) (some (repI 4 ([], []))) none
theorem znL (x : PI zbw) : z5H  = fnE T zlw zlx zlv (zo Tryz.f70) zbw ziV x := by kernel_rfl
noncomputable abbrev zly : GS := zp false zbw ziV fun x => z5H 
theorem znM : GSOK Tryz.prog 70 zly := zm tok zsG fmo (Ht := zlx) (fn := Tryz.f70) (Tryz.func70) (c := zlv) (by kernel_rfl) (by kernel_rfl) (by kernel_rfl) (by decide +kernel) (by decide) znL
end Go.Proofs.Y
namespace Go.Proofs.Y
open Go.Rb Go.Kx
noncomputable def zbx : Code := zg Tryz.f79
noncomputable def zby : FuncId → Option GS := tabG []
theorem zlz : ΓOK Tryz.prog zby := ze
def zbz : HT := ⟨tabL [(9, .it [] (dyn [.t 31 (.int .i64)]))], tabH []⟩
abbrev z4d : List IT := [.v (.cons (.int .i64) (.cons (.int .i64) (.cons (.int .i64) (.one (.sl 77 (.cons (.int .i64) (.cons (.int .i64) (.one (.int .i64))))))))) true]
abbrev zah : List OT := [⟨.one (.int .i64), false, []⟩]
set_option maxRecDepth 100000
noncomputable def Zl : Int × Int × Int × List (Int × Int × Int) → Option Int := fun a => ifB (ltI a.1 1) (some 4) (ifB (gtI a.1 4) (some 4) (ifB (eqI a.1 1) (ifB (neI a.2.1 0) (some 4) (ifB (neI a.2.2.1 0) (some 4) (ifB (gtI (lenI a.2.2.2) 10) (some 2) (zk maxR (fun (x : Int) => ifB (ltI x (lenI a.2.2.2)) (z6 (atI a.2.2.2 x) fun y => ifB (ltI y.1 0) (mapO Sum.inr (some 3)) (ifB (geI y.1 4) (mapO Sum.inr (some 3)) (ifB (ltI y.2.1 0) (mapO Sum.inr (some 3)) (ifB (gtI y.2.1 100000) (mapO Sum.inr (some 3)) (ifB (ltI y.2.2 (-1000000)) (mapO Sum.inr (some 3)) (ifB (gtI y.2.2 1000000) (mapO Sum.inr (some 3)) (some (Sum.inl (wadd .i64 x 1))))))))) (mapO Sum.inr (some 0))) 0)))) (ifB (gtI (lenI a.2.2.2) 0) (some 4) (ifB (eqI a.1 4) (ifB (neI a.2.1 0) (some 4) (ifB (ltI a.2.1 0) (some 3) (ifB (geI a.2.1 4) (some 3) (ifB (ltI a.2.2.1 0) (some 3) (ifB (gtI a.2.2.1 100001) (some 3) (some 0)))))) (ifB (ltI a.2.1 0) (some 3) (ifB (geI a.2.1 4) (some 3) (ifB (ltI a.2.2.1 0) (some 3) (ifB (gtI a.2.2.1 100001) (some 3) (some 0)))))))))
theorem zg9 (x : PI z4d) : Zl x = fnE T zby zbz zbx (zo Tryz.f79) z4d zah x := by kernel_rfl
noncomputable abbrev z23 : GS := zp false z4d zah fun x => Zl x
theorem z24 : GSOK Tryz.prog 79 z23 := zm tok zlz fmo (Ht := zbz) (fn := Tryz.f79) (Tryz.func79) (c := zbx) (by kernel_rfl) (by kernel_rfl) (by kernel_rfl) (by decide +kernel) (by decide) zg9
end Go.Proofs.Y
namespace Go.Proofs.Y
open Go.Rb Go.Kx
noncomputable def z5I : Code := zg Tryz.f64
noncomputable def z5J : FuncId → Option GS := tabG []
theorem zf9 : ΓOK Tryz.prog z5J := ze
def z5K : HT := ⟨tabL [], tabH []⟩
abbrev z0g : List IT := [.v (.one (.int .i64)) false, .v (.one (.int .i64)) false, .v (.one (.int .i64)) false]
abbrev z4K : List OT := [⟨.one .bool, false, []⟩]
set_option maxRecDepth 100000
noncomputable def zl : Int → Int → Int → Option Bool := fun a b c => ifB (leI b a) (some (leI a c)) (some false)
theorem zb2 (x : PI z0g) : zl (x.1) (x.2.1) (x.2.2) = fnE T z5J z5K z5I (zo Tryz.f64) z0g z4K x := by kernel_rfl
noncomputable abbrev y4 : GS := zp false z0g z4K fun x => zl (x.1) (x.2.1) (x.2.2)
theorem ZP : GSOK Tryz.prog 64 y4 := zm tok zf9 fmo (Ht := z5K) (fn := Tryz.f64) (Tryz.func64) (c := z5I) (by kernel_rfl) (by kernel_rfl) (by kernel_rfl) (by decide +kernel) (by decide) zb2
end Go.Proofs.Y
namespace Go.Proofs.Y
open Go.Rb Go.Kx
noncomputable def jD : Code := zg Tryz.f131
noncomputable def jE : FuncId → Option GS := tabG [(64, y4)]
theorem z5L : ΓOK Tryz.prog jE := z8 (ZP) (ze)
def jF : HT := ⟨tabL [], tabH []⟩
abbrev YZ : List IT := [.v (.cons (.int .i64) (.one (.int .i64))) true]
abbrev jg : List OT := [⟨.one (.int .i64), false, []⟩]
set_option maxRecDepth 100000
noncomputable def zG : Int × Int → Option Int := fun a => z6 (zl a.1 0 100000) fun y => ifB (notB y) (some 3) (z6 (zl a.2 (-1000000) 1000000) fun y => ifB (notB y) (some 3) (some 0))
theorem z3T (x : PI YZ) : zG x = fnE T jE jF jD (zo Tryz.f131) YZ jg x := by kernel_rfl
noncomputable abbrev Yr : GS := zp false YZ jg fun x => zG x
theorem YQ : GSOK Tryz.prog 131 Yr := zm tok z5L fmo (Ht := jF) (fn := Tryz.f131) (Tryz.func131) (c := jD) (by kernel_rfl) (by kernel_rfl) (by kernel_rfl) (by decide +kernel) (by decide) z3T
end Go.Proofs.Y
namespace Go.Proofs.Y
open Go.Rb Go.Kx
noncomputable def z0m : Code := zg Tryz.f103
noncomputable def z0n : FuncId → Option GS := tabG [(64, y4), (131, Yr)]
theorem z7Z : ΓOK Tryz.prog z0n := z8 (ZP) (z8 (YQ) (ze))
def z0o : HT := ⟨tabL [(11, .it [] (dyn [.t 59 (.int .i64)]))], tabH []⟩
abbrev vK : List IT := [.v (.cons (.int .i64) (.cons (.int .i64) (.cons (.int .i64) (.one (.sl 77 (.cons (.int .i64) (.cons (.int .i64) (.one (.int .i64))))))))) true]
abbrev JG : List OT := [⟨.one (.int .i64), false, []⟩]
set_option maxRecDepth 100000
noncomputable def zn : Int × Int × Int × List (Int × Int × Int) → Option Int := fun a => z6 (zl a.1 1 4) fun y => ifB (notB y) (some 4) (ifB (eqI a.1 1) (ifB (neI a.2.1 0) (some 4) (ifB (neI a.2.2.1 0) (some 4) (ifB (neI a.1 1) (ifB (gtI (lenI a.2.2.2) 0) (some 4) (ifB (eqI a.1 4) (ifB (neI a.2.1 0) (some 4) (ifB (gtI (lenI a.2.2.2) 10) (some 2) (z6 (zl a.2.1 0 3) fun y => ifB (notB y) (some 3) (z6 (zl a.2.2.1 0 100001) fun y => ifB (notB y) (some 3) (zk maxR (fun (x : Int) => ifB (ltI x (lenI a.2.2.2)) (z6 (atI a.2.2.2 x) fun y => z6 (zl y.1 0 3) fun y_1 => ifB (notB y_1) (mapO Sum.inr (some 3)) (z6 (zG (y.2.1, y.2.2)) fun y => ifB (neI y 0) (mapO Sum.inr (some 3)) (some (Sum.inl (wadd .i64 x 1))))) (mapO Sum.inr (some 0))) 0))))) (ifB (gtI (lenI a.2.2.2) 10) (some 2) (z6 (zl a.2.1 0 3) fun y => ifB (notB y) (some 3) (z6 (zl a.2.2.1 0 100001) fun y => ifB (notB y) (some 3) (zk maxR (fun (x : Int) => ifB (ltI x (lenI a.2.2.2)) (z6 (atI a.2.2.2 x) fun y => z6 (zl y.1 0 3) fun y_1 => ifB (notB y_1) (mapO Sum.inr (some 3)) (z6 (zG (y.2.1, y.2.2)) fun y => ifB (neI y 0) (mapO Sum.inr (some 3)) (some (Sum.inl (wadd .i64 x 1))))) (mapO Sum.inr (some 0))) 0)))))) (ifB (eqI a.1 4) (ifB (neI a.2.1 0) (some 4) (ifB (gtI (lenI a.2.2.2) 10) (some 2) (z6 (zl a.2.1 0 3) fun y => ifB (notB y) (some 3) (z6 (zl a.2.2.1 0 100001) fun y => ifB (notB y) (some 3) (zk maxR (fun (x : Int) => ifB (ltI x (lenI a.2.2.2)) (z6 (atI a.2.2.2 x) fun y => z6 (zl y.1 0 3) fun y_1 => ifB (notB y_1) (mapO Sum.inr (some 3)) (z6 (zG (y.2.1, y.2.2)) fun y => ifB (neI y 0) (mapO Sum.inr (some 3)) (some (Sum.inl (wadd .i64 x 1))))) (mapO Sum.inr (some 0))) 0))))) (ifB (gtI (lenI a.2.2.2) 10) (some 2) (z6 (zl a.2.1 0 3) fun y => ifB (notB y) (some 3) (z6 (zl a.2.2.1 0 100001) fun y => ifB (notB y) (some 3) (zk maxR (fun (x : Int) => ifB (ltI x (lenI a.2.2.2)) (z6 (atI a.2.2.2 x) fun y => z6 (zl y.1 0 3) fun y_1 => ifB (notB y_1) (mapO Sum.inr (some 3)) (z6 (zG (y.2.1, y.2.2)) fun y => ifB (neI y 0) (mapO Sum.inr (some 3)) (some (Sum.inl (wadd .i64 x 1))))) (mapO Sum.inr (some 0))) 0)))))))) (ifB (neI a.1 1) (ifB (gtI (lenI a.2.2.2) 0) (some 4) (ifB (eqI a.1 4) (ifB (neI a.2.1 0) (some 4) (ifB (gtI (lenI a.2.2.2) 10) (some 2) (z6 (zl a.2.1 0 3) fun y => ifB (notB y) (some 3) (z6 (zl a.2.2.1 0 100001) fun y => ifB (notB y) (some 3) (zk maxR (fun (x : Int) => ifB (ltI x (lenI a.2.2.2)) (z6 (atI a.2.2.2 x) fun y => z6 (zl y.1 0 3) fun y_1 => ifB (notB y_1) (mapO Sum.inr (some 3)) (z6 (zG (y.2.1, y.2.2)) fun y => ifB (neI y 0) (mapO Sum.inr (some 3)) (some (Sum.inl (wadd .i64 x 1))))) (mapO Sum.inr (some 0))) 0))))) (ifB (gtI (lenI a.2.2.2) 10) (some 2) (z6 (zl a.2.1 0 3) fun y => ifB (notB y) (some 3) (z6 (zl a.2.2.1 0 100001) fun y => ifB (notB y) (some 3) (zk maxR (fun (x : Int) => ifB (ltI x (lenI a.2.2.2)) (z6 (atI a.2.2.2 x) fun y => z6 (zl y.1 0 3) fun y_1 => ifB (notB y_1) (mapO Sum.inr (some 3)) (z6 (zG (y.2.1, y.2.2)) fun y => ifB (neI y 0) (mapO Sum.inr (some 3)) (some (Sum.inl (wadd .i64 x 1))))) (mapO Sum.inr (some 0))) 0)))))) (ifB (eqI a.1 4) (ifB (neI a.2.1 0) (some 4) (ifB (gtI (lenI a.2.2.2) 10) (some 2) (z6 (zl a.2.1 0 3) fun y => ifB (notB y) (some 3) (z6 (zl a.2.2.1 0 100001) fun y => ifB (notB y) (some 3) (zk maxR (fun (x : Int) => ifB (ltI x (lenI a.2.2.2)) (z6 (atI a.2.2.2 x) fun y => z6 (zl y.1 0 3) fun y_1 => ifB (notB y_1) (mapO Sum.inr (some 3)) (z6 (zG (y.2.1, y.2.2)) fun y => ifB (neI y 0) (mapO Sum.inr (some 3)) (some (Sum.inl (wadd .i64 x 1))))) (mapO Sum.inr (some 0))) 0))))) (ifB (gtI (lenI a.2.2.2) 10) (some 2) (z6 (zl a.2.1 0 3) fun y => ifB (notB y) (some 3) (z6 (zl a.2.2.1 0 100001) fun y => ifB (notB y) (some 3) (zk maxR (fun (x : Int) => ifB (ltI x (lenI a.2.2.2)) (z6 (atI a.2.2.2 x) fun y => z6 (zl y.1 0 3) fun y_1 => ifB (notB y_1) (mapO Sum.inr (some 3)) (z6 (zG (y.2.1, y.2.2)) fun y => ifB (neI y 0) (mapO Sum.inr (some 3)) (some (Sum.inl (wadd .i64 x 1))))) (mapO Sum.inr (some 0))) 0)))))))
theorem z56 (x : PI vK) : zn x = fnE T z0n z0o z0m (zo Tryz.f103) vK JG x := by kernel_rfl
noncomputable abbrev Y5 : GS := zp false vK JG fun x => zn x
theorem Yl : GSOK Tryz.prog 103 Y5 := zm tok z7Z fmo (Ht := z0o) (fn := Tryz.f103) (Tryz.func103) (c := z0m) (by kernel_rfl) (by kernel_rfl) (by kernel_rfl) (by decide +kernel) (by decide) z56
end Go.Proofs.Y
namespace Go.Proofs.Y
open Go.Rb Go.Kx
noncomputable def z17 : Code := zg Tryz.f161
noncomputable def z18 : FuncId → Option GS := tabG []
theorem z8K : ΓOK Tryz.prog z18 := ze
def z19 : HT := ⟨tabL [(4, .it [] (dyn [.t 0 (.sl 4 (.one .bool)), .t 5 (.int .i64), .t 6 (.int .i64), .t 7 (.int .i64)])), (10, .it [] (dyn [.t 8 (.int .i64), .t 22 (.int .i64)]))], tabH []⟩
abbrev V5 : List IT := [.v (.one (.sl 4 (.one .bool))) false]
abbrev z0p : List OT := [⟨.one (.int .i64), false, []⟩, ⟨.one (.sl 4 (.one .bool)), false, []⟩, ⟨.one (.int .i64), false, []⟩]
set_option maxRecDepth 100000
noncomputable def yH : List Bool → Option (Int × List Bool × Int) := fun a => zk maxR (fun (x : List Bool × Int × Int × Int) => ifB (eqI x.2.2.2 8) (mapO Sum.inr (some (0, [], 3))) (ifB (ltI (lenI x.1) 4) (mapO Sum.inr (some (0, [], 8))) (ifB (in2 x.1 1 4) (zk maxR (fun (x_1 : Int × Int) => ifB (ltI x_1.2 (lenI (sliI x.1 1 4))) (z6 (atI (sliI x.1 1 4) x_1.2) fun y => ifB y (ifB (ltI x_1.2 0) none (some (Sum.inl (wadd .i64 x_1.1 (wshr .i64 4 x_1.2), wadd .i64 x_1.2 1)))) (some (Sum.inl (x_1.1, wadd .i64 x_1.2 1)))) (mapO Sum.inr (ifB (gtI x.2.2.2 0) (ifB (eqI x_1.1 0) (z6 (atI x.1 0) fun y => ifB (notB y) (mapO Sum.inr (some (0, [], 4))) (ifB (gtI (wadd .i64 x.2.1 (wmul .i64 x_1.1 x.2.2.1)) 8000000) (mapO Sum.inr (some (0, [], 3))) (z6 (atI x.1 0) fun y => ifB (in1 x.1 4) (ifB (notB y) (mapO Sum.inr (ifB (eqI (wrem (wadd .i64 x.2.1 (wmul .i64 x_1.1 x.2.2.1)) 2) 0) (some (wquo .i64 (wadd .i64 x.2.1 (wmul .i64 x_1.1 x.2.2.1)) 2, yF x.1 4, 0)) (some (wneg .i64 (wadd .i64 (wquo .i64 (wadd .i64 x.2.1 (wmul .i64 x_1.1 x.2.2.1)) 2) 1), yF x.1 4, 0)))) (some (Sum.inl (yF x.1 4, wadd .i64 x.2.1 (wmul .i64 x_1.1 x.2.2.1), wmul .i64 x.2.2.1 8, wadd .i64 x.2.2.2 1)))) none))) (ifB (gtI (wadd .i64 x.2.1 (wmul .i64 x_1.1 x.2.2.1)) 8000000) (mapO Sum.inr (some (0, [], 3))) (z6 (atI x.1 0) fun y => ifB (in1 x.1 4) (ifB (notB y) (mapO Sum.inr (ifB (eqI (wrem (wadd .i64 x.2.1 (wmul .i64 x_1.1 x.2.2.1)) 2) 0) (some (wquo .i64 (wadd .i64 x.2.1 (wmul .i64 x_1.1 x.2.2.1)) 2, yF x.1 4, 0)) (some (wneg .i64 (wadd .i64 (wquo .i64 (wadd .i64 x.2.1 (wmul .i64 x_1.1 x.2.2.1)) 2) 1), yF x.1 4, 0)))) (some (Sum.inl (yF x.1 4, wadd .i64 x.2.1 (wmul .i64 x_1.1 x.2.2.1), wmul .i64 x.2.2.1 8, wadd .i64 x.2.2.2 1)))) none))) (ifB (gtI (wadd .i64 x.2.1 (wmul .i64 x_1.1 x.2.2.1)) 8000000) (mapO Sum.inr (some (0, [], 3))) (z6 (atI x.1 0) fun y => ifB (in1 x.1 4) (ifB (notB y) (mapO Sum.inr (ifB (eqI (wrem (wadd .i64 x.2.1 (wmul .i64 x_1.1 x.2.2.1)) 2) 0) (some (wquo .i64 (wadd .i64 x.2.1 (wmul .i64 x_1.1 x.2.2.1)) 2, yF x.1 4, 0)) (some (wneg .i64 (wadd .i64 (wquo .i64 (wadd .i64 x.2.1 (wmul .i64 x_1.1 x.2.2.1)) 2) 1), yF x.1 4, 0)))) (some (Sum.inl (yF x.1 4, wadd .i64 x.2.1 (wmul .i64 x_1.1 x.2.2.1), wmul .i64 x.2.2.1 8, wadd .i64 x.2.2.2 1)))) none))))) (0, 0)) none))) (a, 0, 1, 0)
theorem z5M (x : PI V5) : yH x = fnE T z18 z19 z17 (zo Tryz.f161) V5 z0p x := by kernel_rfl
noncomputable abbrev z1a : GS := zp false V5 z0p fun x => yH x
theorem z5N : GSOK Tryz.prog 161 z1a := zm tok z8K fmo (Ht := z19) (fn := Tryz.f161) (Tryz.func161) (c := z17) (by kernel_rfl) (by kernel_rfl) (by kernel_rfl) (by decide +kernel) (by decide) z5M
end Go.Proofs.Y
namespace Go.Proofs.Y
open Go.Rb Go.Kx
noncomputable def jG : Code := zg Tryz.f136
noncomputable def jH : FuncId → Option GS := tabG [(64, y4), (161, z1a), (131, Yr)]
theorem z5O : ΓOK Tryz.prog jH := z8 (ZP) (z8 (z5N) (z8 (YQ) (ze)))
def jI : HT := ⟨tabL [(5, .it [] (dyn [.t 0 (.sl 4 (.one .bool)), .a 6 73 (.cons (.int .i64) (.one (.int .i64))), .t 23 (.int .i64)]))], tabH []⟩
abbrev v8 : List IT := [.v (.one (.sl 4 (.one .bool))) false, .v (.one (.int .i64)) false]
abbrev jh : List OT := [⟨.one (.sl 73 (.cons (.int .i64) (.one (.int .i64)))), false, []⟩, ⟨.one (.int .i64), false, []⟩]
set_option maxRecDepth 100000
noncomputable def yK : List Bool → Int → Option (List (Int × Int) × Int) := fun a b => z6 (zl b 0 40) fun y => ifB (notB y) (some ([], 2)) (zk maxR (fun (x : List Bool × Int × List (Int × Int)) => ifB (ltI x.2.1 b) (z6 (yH x.1) fun y => ifB (neI y.2.2 0) (mapO Sum.inr (some ([], y.2.2))) (z6 (yH y.2.1) fun y_1 => ifB (neI y_1.2.2 0) (mapO Sum.inr (some ([], y_1.2.2))) (ifB (ltL x.2.1 x.2.2) (z6 (atN x.2.2 (natI x.2.1)) fun y_2 => ifB (ltL (wadd .i64 x.2.1 1) x.2.2) (z6 (atN x.2.2 (natI (wadd .i64 x.2.1 1))) fun y_3 => z6 (zG (wadd .i64 (wsub .i64 (wmul .i64 2 y_3.1) y_2.1) y.1, wadd .i64 y_3.2 y_1.1)) fun y_4 => ifB (neI y_4 0) (mapO Sum.inr (some ([], y_4))) (ifB (gtI x.2.1 0) (ifB (leI (wadd .i64 (wsub .i64 (wmul .i64 2 y_3.1) y_2.1) y.1) y_3.1) (mapO Sum.inr (some ([], 7))) (ifB (zh 16 x.2.2 [(wadd .i64 (wsub .i64 (wmul .i64 2 y_3.1) y_2.1) y.1, wadd .i64 y_3.2 y_1.1)]) (some (Sum.inl (y_1.2.1, wadd .i64 x.2.1 1, cat x.2.2 [(wadd .i64 (wsub .i64 (wmul .i64 2 y_3.1) y_2.1) y.1, wadd .i64 y_3.2 y_1.1)]))) none)) (ifB (zh 16 x.2.2 [(wadd .i64 (wsub .i64 (wmul .i64 2 y_3.1) y_2.1) y.1, wadd .i64 y_3.2 y_1.1)]) (some (Sum.inl (y_1.2.1, wadd .i64 x.2.1 1, cat x.2.2 [(wadd .i64 (wsub .i64 (wmul .i64 2 y_3.1) y_2.1) y.1, wadd .i64 y_3.2 y_1.1)]))) none))) none) none))) (mapO Sum.inr (ifB (gtI (lenI x.1) 0) (some ([], 8)) (ifB (in1 x.2.2 2) (ifB (inN x.2.2 (addN 0 (natI 2)) (Zh (lenN x.2.2) 2)) (some (subN x.2.2 (addN 0 (natI 2)) (Zh (lenN x.2.2) 2), 0)) none) none)))) (a, 0, [(0, 0), (0, 0)]))
theorem z3U (x : PI v8) : yK (x.1) (x.2) = fnE T jH jI jG (zo Tryz.f136) v8 jh x := by kernel_rfl
noncomputable abbrev jJ : GS := zp false v8 jh fun x => yK (x.1) (x.2)
theorem z3V : GSOK Tryz.prog 136 jJ := zm tok z5O fmo (Ht := jI) (fn := Tryz.f136) (Tryz.func136) (c := jG) (by kernel_rfl) (by kernel_rfl) (by kernel_rfl) (by decide +kernel) (by decide) z3U
end Go.Proofs.Y
namespace Go.Proofs.Y
open Go.Rb Go.Kx
noncomputable def z0q : Code := zg Tryz.f105
noncomputable def z0r : FuncId → Option GS := tabG [(136, jJ)]
theorem z81 : ΓOK Tryz.prog z0r := z8 (z3V) (ze)
def z0s : HT := ⟨tabL [], tabH []⟩
abbrev vL : List IT := [.v (.cons (.int .i64) (.cons (.int .i64) (.cons (.int .i64) (.one (.sl 4 (.one .bool)))))) true]
abbrev JH : List OT := [⟨.one (.sl 73 (.cons (.int .i64) (.one (.int .i64)))), false, []⟩, ⟨.one (.int .i64), false, []⟩]
set_option maxRecDepth 100000
noncomputable def yh : Int × Int × Int × List Bool → Option (List (Int × Int) × Int) := fun a => z6 (yK a.2.2.2 a.1) fun y => ifB (eqI y.2 0) (ifB (eqI (lenI y.1) 0) (some ([], 4)) (z6 (atI y.1 0) fun y_1 => ifB (neI a.2.1 y_1.1) (some ([], 4)) (z6 (atI y.1 (wsub .i64 (lenI y.1) 1)) fun y_2 => ifB (neI a.2.2.1 y_2.1) (some ([], 4)) (ifB (neI y.2 0) (some ([], y.2)) (some (y.1, 0)))))) (ifB (neI y.2 0) (some ([], y.2)) (some (y.1, 0)))
theorem z57 (x : PI vL) : yh x = fnE T z0r z0s z0q (zo Tryz.f105) vL JH x := by kernel_rfl
noncomputable abbrev V6 : GS := zp false vL JH fun x => yh x
theorem ji : GSOK Tryz.prog 105 V6 := zm tok z81 fmo (Ht := z0s) (fn := Tryz.f105) (Tryz.func105) (c := z0q) (by kernel_rfl) (by kernel_rfl) (by kernel_rfl) (by decide +kernel) (by decide) z57
end Go.Proofs.Y
namespace Go.Proofs.Y
open Go.Rb Go.Kx
noncomputable def jj : Code := zg Tryz.f106
noncomputable def jk : FuncId → Option GS := tabG [(131, Yr)]
theorem z58 : ΓOK Tryz.prog jk := z8 (YQ) (ze)
def jl : HT := ⟨tabL [(5, .it [] (dyn [.t 3 (.int .i64), .t 12 (.int .i64)]))], tabH []⟩
abbrev YU : List IT := [.v (.one (.sl 73 (.cons (.int .i64) (.one (.int .i64))))) false]
abbrev VP : List OT := [⟨.one (.int .i64), false, []⟩]
set_option maxRecDepth 100000
noncomputable def yj : List (Int × Int) → Option Int := fun a => ifB (gtI (lenI a) 40) (some 2) (zk maxR (fun (x : Int × Int) => ifB (ltI x.2 (lenI a)) (z6 (atI a x.2) fun y => z6 (zG (y.1, y.2)) fun y_1 => ifB (neI y_1 0) (mapO Sum.inr (some y_1)) (ifB (leI y.1 x.1) (mapO Sum.inr (some 7)) (some (Sum.inl (y.1, wadd .i64 x.2 1))))) (mapO Sum.inr (some 0))) (-1, 0))
theorem z3e (x : PI YU) : yj x = fnE T jk jl jj (zo Tryz.f106) YU VP x := by kernel_rfl
noncomputable abbrev vc : GS := zp false YU VP fun x => yj x
theorem Vj : GSOK Tryz.prog 106 vc := zm tok z58 fmo (Ht := jl) (fn := Tryz.f106) (Tryz.func106) (c := jj) (by kernel_rfl) (by kernel_rfl) (by kernel_rfl) (by decide +kernel) (by decide) z3e
end Go.Proofs.Y
namespace Go.Proofs.Y
open Go.Rb Go.Kx
noncomputable def JI : Code := zg Tryz.f57
noncomputable def JJ : FuncId → Option GS := tabG [(105, V6), (106, vc)]
theorem z6F : ΓOK Tryz.prog JJ := z8 (ji) (z8 (Vj) (ze))
def JK : HT := ⟨tabL [(5, .it [] (dyn [.a 4 73 (.cons (.int .i64) (.one (.int .i64))), .t 17 (.int .i64)]))], tabH []⟩
abbrev vu : List IT := [.v (.cons (.sl 126 (.cons (.int .i64) (.cons (.int .i64) (.cons (.int .i64) (.one (.sl 4 (.one .bool))))))) (.one (.sl 73 (.cons (.int .i64) (.one (.int .i64)))))) true]
abbrev jK : List OT := [⟨.one (.sl 73 (.cons (.int .i64) (.one (.int .i64)))), false, []⟩, ⟨.one (.int .i64), false, []⟩]
set_option maxRecDepth 100000
noncomputable def ya : List (Int × Int × Int × List Bool) × List (Int × Int) → Option (List (Int × Int) × Int) := fun a => ifB (gtI (lenI a.1) 8) (some ([], 2)) (zk maxR (fun (x : Int × List (Int × Int)) => ifB (ltI x.1 (lenI a.1)) (z6 (atI a.1 x.1) fun y => z6 (yh (y.1, y.2.1, y.2.2.1, y.2.2.2)) fun y => ifB (neI y.2 0) (mapO Sum.inr (some ([], y.2))) (ifB (zh 16 x.2 y.1) (some (Sum.inl (wadd .i64 x.1 1, cat x.2 y.1))) none)) (mapO Sum.inr (ifB (zh 16 x.2 a.2) (z6 (yj (cat x.2 a.2)) fun y => ifB (neI y 0) (some ([], y)) (some (cat x.2 a.2, 0))) none))) (0, []))
theorem z4e (x : PI vu) : ya x = fnE T JJ JK JI (zo Tryz.f57) vu jK x := by kernel_rfl
noncomputable abbrev vM : GS := zp false vu jK fun x => ya x
theorem VQ : GSOK Tryz.prog 57 vM := zm tok z6F fmo (Ht := JK) (fn := Tryz.f57) (Tryz.func57) (c := JI) (by kernel_rfl) (by kernel_rfl) (by kernel_rfl) (by decide +kernel) (by decide) z4e
end Go.Proofs.Y
namespace Go.Proofs.Y
open Go.Rb Go.Kx
noncomputable def jL : Code := zg Tryz.f111
noncomputable def jM : FuncId → Option GS := tabG [(57, vM)]
theorem z5P : ΓOK Tryz.prog jM := z8 (VQ) (ze)
def jN : HT := ⟨tabL [(4, .it [] (dyn [.t 14 (.int .i64)]))], tabH []⟩
abbrev vd : List IT := [.v (.one (.sl 95 (.cons (.sl 126 (.cons (.int .i64) (.cons (.int .i64) (.cons (.int .i64) (.one (.sl 4 (.one .bool))))))) (.one (.sl 73 (.cons (.int .i64) (.one (.int .i64)))))))) true]
abbrev jm : List OT := [⟨.one (.int .i64), false, []⟩]
set_option maxRecDepth 100000
noncomputable def yL : List (List (Int × Int × Int × List Bool) × List (Int × Int)) → Option Int := fun a => ifB (neI (lenI a) 4) (some 4) (zk maxR (fun (x : Int) => ifB (ltI x (lenI a)) (z6 (atI a x) fun y => z6 (ya (y.1, y.2)) fun y => ifB (neI y.2 0) (mapO Sum.inr (some y.2)) (some (Sum.inl (wadd .i64 x 1)))) (mapO Sum.inr (some 0))) 0)
theorem z3W (x : PI vd) : yL x = fnE T jM jN jL (zo Tryz.f111) vd jm x := by kernel_rfl
noncomputable abbrev jO : GS := zp false vd jm fun x => yL x
theorem z3X : GSOK Tryz.prog 111 jO := zm tok z5P fmo (Ht := jN) (fn := Tryz.f111) (Tryz.func111) (c := jL) (by kernel_rfl) (by kernel_rfl) (by kernel_rfl) (by decide +kernel) (by decide) z3W
end Go.Proofs.Y
namespace Go.Proofs.Y
open Go.Rb Go.Kx
noncomputable def ziW : Code := zg Tryz.f137
noncomputable def ziX : FuncId → Option GS := tabG []
theorem zr3 : ΓOK Tryz.prog ziX := ze
def ziY : HT := ⟨tabL [], tabH []⟩
abbrev z9K : List IT := [.v (.one (.sl 95 (.cons (.sl 126 (.cons (.int .i64) (.cons (.int .i64) (.cons (.int .i64) (.one (.sl 4 (.one .bool))))))) (.one (.sl 73 (.cons (.int .i64) (.one (.int .i64)))))))) false]
abbrev zga : List OT := [⟨.one (.sl 95 (.cons (.sl 126 (.cons (.int .i64) (.cons (.int .i64) (.cons (.int .i64) (.one (.sl 4 (.one .bool))))))) (.one (.sl 73 (.cons (.int .i64) (.one (.int .i64))))))), false, [true]⟩]
set_option maxRecDepth 100000
noncomputable def YC : List (List (Int × Int × Int × List Bool) × List (Int × Int)) → Option (List (List (Int × Int × Int × List Bool) × List (Int × Int))) := fun a => ifB (isE a) (ambO (some []) (ifB (zh 48 [] a) (some (cat [] a)) none)) (ifB (zh 48 [] a) (some (cat [] a)) none)
theorem zlA (x : PI z9K) : YC x = fnE T ziX ziY ziW (zo Tryz.f137) z9K zga x := by kernel_rfl
noncomputable abbrev z1b : GS := zp false z9K zga fun x => YC x
theorem jP : GSOK Tryz.prog 137 z1b := zm tok zr3 fmo (Ht := ziY) (fn := Tryz.f137) (Tryz.func137) (c := ziW) (by kernel_rfl) (by kernel_rfl) (by kernel_rfl) (by decide +kernel) (by decide) zlA
end Go.Proofs.Y
namespace Go.Proofs.Y
open Go.Rb Go.Kx
noncomputable def zlB : Code := zg Tryz.f139
noncomputable def zlC : FuncId → Option GS := tabG []
theorem zsH : ΓOK Tryz.prog zlC := ze
def zlD : HT := ⟨tabL [], tabH []⟩
abbrev zbA : List IT := [.v (.one (.sl 73 (.cons (.int .i64) (.one (.int .i64))))) false]
abbrev ziZ : List OT := [⟨.one (.sl 73 (.cons (.int .i64) (.one (.int .i64)))), false, [true]⟩]
set_option maxRecDepth 100000
noncomputable def Zq : List (Int × Int) → Option (List (Int × Int)) := fun a => ifB (isE a) (ambO (some []) (ifB (zh 16 [] a) (some (cat [] a)) none)) (ifB (zh 16 [] a) (some (cat [] a)) none)
theorem znN (x : PI zbA) : Zq x = fnE T zlC zlD zlB (zo Tryz.f139) zbA ziZ x := by kernel_rfl
noncomputable abbrev z5Q : GS := zp false zbA ziZ fun x => Zq x
theorem z3H : GSOK Tryz.prog 139 z5Q := zm tok zsH fmo (Ht := zlD) (fn := Tryz.f139) (Tryz.func139) (c := zlB) (by kernel_rfl) (by kernel_rfl) (by kernel_rfl) (by decide +kernel) (by decide) znN
end Go.Proofs.Y
namespace Go.Proofs.Y
open Go.Rb Go.Kx
noncomputable def z25 : Code := zg Tryz.f132
noncomputable def z26 : FuncId → Option GS := tabG [(137, z1b), (64, y4), (139, z5Q), (57, vM)]
theorem z9L : ΓOK Tryz.prog z26 := z8 (jP) (z8 (ZP) (z8 (z3H) (z8 (VQ) (ze))))
def z27 : HT := ⟨tabL [(5, .it [] (dyn [.t 21 (.int .i64), .a 6 95 (.cons (.sl 126 (.cons (.int .i64) (.cons (.int .i64) (.cons (.int .i64) (.one (.sl 4 (.one .bool))))))) (.one (.sl 73 (.cons (.int .i64) (.one (.int .i64)))))), .c 4 0 (.sl 95 (.cons (.sl 126 (.cons (.int .i64) (.cons (.int .i64) (.cons (.int .i64) (.one (.sl 4 (.one .bool))))))) (.one (.sl 73 (.cons (.int .i64) (.one (.int .i64)))))))]))], tabH [(5, [.touch 6])]⟩
abbrev Vk : List IT := [.v (.one (.sl 95 (.cons (.sl 126 (.cons (.int .i64) (.cons (.int .i64) (.cons (.int .i64) (.one (.sl 4 (.one .bool))))))) (.one (.sl 73 (.cons (.int .i64) (.one (.int .i64)))))))) true, .v (.one (.sl 77 (.cons (.int .i64) (.cons (.int .i64) (.one (.int .i64)))))) false]
abbrev z1c : List OT := [⟨.one (.sl 95 (.cons (.sl 126 (.cons (.int .i64) (.cons (.int .i64) (.cons (.int .i64) (.one (.sl 4 (.one .bool))))))) (.one (.sl 73 (.cons (.int .i64) (.one (.int .i64))))))), true, []⟩, ⟨.one (.int .i64), false, []⟩]
set_option maxRecDepth 100000
noncomputable def Ys : List (List (Int × Int × Int × List Bool) × List (Int × Int)) → List (Int × Int × Int) → Option (List (List (Int × Int × Int × List Bool) × List (Int × Int)) × Int) := fun a b => ifB (gtI (lenI b) 10) (some ([], 2)) (z6 (YC a) fun y => zk maxR (fun (x : Int × List (List (Int × Int × Int × List Bool) × List (Int × Int)) × List (List (Int × Int × Int × List Bool) × List (Int × Int))) => ifB (ltI x.1 (lenI b)) (z6 (atI b x.1) fun y => z6 (zl y.1 0 3) fun y_1 => ifB (notB y_1) (mapO Sum.inr (some ([], 5))) (ifB (ltL y.1 x.2.2) (z6 (atN x.2.2 (natI y.1)) fun y_2 => z6 (Zq y_2.2) fun y_3 => ifB (zh 16 y_3 [(y.2.1, y.2.2)]) (z6 (ya (y_2.1, cat y_3 [(y.2.1, y.2.2)])) fun y_4 => ifB (neI y_4.2 0) (mapO Sum.inr (some ([], y_4.2))) (ifB (ltL y.1 x.2.2) (z6 (atN x.2.2 (natI y.1)) fun y_5 => some (Sum.inl (wadd .i64 x.1 1, x.2.1, setN x.2.2 (natI y.1) (y_2.1, cat y_3 [(y.2.1, y.2.2)])))) none)) none) none)) (mapO Sum.inr (some (x.2.2, 0)))) (0, [], y))
theorem z6G (x : PI Vk) : Ys (x.1) (x.2) = fnE T z26 z27 z25 (zo Tryz.f132) Vk z1c x := by kernel_rfl
noncomputable abbrev z28 : GS := zp false Vk z1c fun x => Ys (x.1) (x.2)
theorem z6H : GSOK Tryz.prog 132 z28 := zm tok z9L fmo (Ht := z27) (fn := Tryz.f132) (Tryz.func132) (c := z25) (by kernel_rfl) (by kernel_rfl) (by kernel_rfl) (by decide +kernel) (by decide) z6G
end Go.Proofs.Y
namespace Go.Proofs.Y
open Go.Rb Go.Kx
noncomputable def zlE : Code := zg Tryz.f162
noncomputable def zlF : FuncId → Option GS := tabG []
theorem zsI : ΓOK Tryz.prog zlF := ze
def zlG : HT := ⟨tabL [], tabH []⟩
abbrev zbB : List IT := [.v (.one (.sl 4 (.one .bool))) false]
abbrev zj0 : List OT := [⟨.one (.sl 4 (.one .bool)), false, [true]⟩]
set_option maxRecDepth 100000
noncomputable def z0Z : List Bool → Option (List Bool) := fun a => ifB (isE a) (ambO (some []) (ifB (zh 1 [] a) (some (cat [] a)) none)) (ifB (zh 1 [] a) (some (cat [] a)) none)
theorem znO (x : PI zbB) : z0Z x = fnE T zlF zlG zlE (zo Tryz.f162) zbB zj0 x := by kernel_rfl
noncomputable abbrev z9M : GS := zp false zbB zj0 fun x => z0Z x
theorem z82 : GSOK Tryz.prog 162 z9M := zm tok zsI fmo (Ht := zlG) (fn := Tryz.f162) (Tryz.func162) (c := zlE) (by kernel_rfl) (by kernel_rfl) (by kernel_rfl) (by decide +kernel) (by decide) znO
end Go.Proofs.Y
namespace Go.Proofs.Y
open Go.Rb Go.Kx
noncomputable def z2Q : Code := zg Tryz.f202
noncomputable def z2R : FuncId → Option GS := tabG [(64, y4), (162, z9M)]
theorem zb3 : ΓOK Tryz.prog z2R := z8 (ZP) (z8 (z82) (ze))
def z2S : HT := ⟨tabL [(8, .it [] (dyn [.t 6 (.int .i64), .a 7 3 (.one (.int .i64)), .t 8 (.bool)])), (14, .it [] (dyn [.a 9 4 (.one .bool), .t 39 (.int .i64)]))], tabH []⟩
abbrev VF : List IT := [.v (.one (.sl 4 (.one .bool))) false, .v (.one (.int .i64)) false]
abbrev z29 : List OT := [⟨.one (.sl 4 (.one .bool)), false, []⟩, ⟨.one (.int .i64), false, []⟩]
set_option maxRecDepth 100000
noncomputable def Z4 : List Bool → Int → Option (List Bool × Int) := fun a b => z6 (zl b (-4000000) 4000000) fun y => ifB (notB y) (some ([], 3)) (ifB (ltI b 0) (zk maxR (fun (x : Int × Bool × List Int) => ifB x.2.1 (ifB (zh 8 x.2.2 [wrem x.1 8]) (some (Sum.inl (wquo .i64 x.1 8, false, cat x.2.2 [wrem x.1 8]))) none) (ifB (gtI x.1 0) (ifB (zh 8 x.2.2 [wrem x.1 8]) (some (Sum.inl (wquo .i64 x.1 8, false, cat x.2.2 [wrem x.1 8]))) none) (mapO Sum.inr (z6 (z0Z a) fun y => zk maxR (fun (x_1 : Int × List Bool) => ifB (ltI x_1.1 (lenI x.2.2)) (ifB (ltL x_1.1 x.2.2) (z6 (atN x.2.2 (natI x_1.1)) fun y => ifB (zh 1 x_1.2 [ltI x_1.1 (wsub .i64 (lenI x.2.2) 1), geI y 4, geI (wrem y 4) 2, eqI (wrem y 2) 1]) (some (Sum.inl (wadd .i64 x_1.1 1, cat x_1.2 [ltI x_1.1 (wsub .i64 (lenI x.2.2) 1), geI y 4, geI (wrem y 4) 2, eqI (wrem y 2) 1]))) none) none) (mapO Sum.inr (some (x_1.2, 0)))) (0, y))))) (wsub .i64 (wmul .i64 2 (wneg .i64 b)) 1, true, [])) (zk maxR (fun (x : Int × Bool × List Int) => ifB x.2.1 (ifB (zh 8 x.2.2 [wrem x.1 8]) (some (Sum.inl (wquo .i64 x.1 8, false, cat x.2.2 [wrem x.1 8]))) none) (ifB (gtI x.1 0) (ifB (zh 8 x.2.2 [wrem x.1 8]) (some (Sum.inl (wquo .i64 x.1 8, false, cat x.2.2 [wrem x.1 8]))) none) (mapO Sum.inr (z6 (z0Z a) fun y => zk maxR (fun (x_1 : Int × List Bool) => ifB (ltI x_1.1 (lenI x.2.2)) (ifB (ltL x_1.1 x.2.2) (z6 (atN x.2.2 (natI x_1.1)) fun y => ifB (zh 1 x_1.2 [ltI x_1.1 (wsub .i64 (lenI x.2.2) 1), geI y 4, geI (wrem y 4) 2, eqI (wrem y 2) 1]) (some (Sum.inl (wadd .i64 x_1.1 1, cat x_1.2 [ltI x_1.1 (wsub .i64 (lenI x.2.2) 1), geI y 4, geI (wrem y 4) 2, eqI (wrem y 2) 1]))) none) none) (mapO Sum.inr (some (x_1.2, 0)))) (0, y))))) (wmul .i64 2 b, true, [])))
theorem z83 (x : PI VF) : Z4 (x.1) (x.2) = fnE T z2R z2S z2Q (zo Tryz.f202) VF z29 x := by kernel_rfl
noncomputable abbrev z2T : GS := zp false VF z29 fun x => Z4 (x.1) (x.2)
theorem z84 : GSOK Tryz.prog 202 z2T := zm tok zb3 fmo (Ht := z2S) (fn := Tryz.f202) (Tryz.func202) (c := z2Q) (by kernel_rfl) (by kernel_rfl) (by kernel_rfl) (by decide +kernel) (by decide) z83
end Go.Proofs.Y
namespace Go.Proofs.Y
open Go.Rb Go.Kx
noncomputable def z0t : Code := zg Tryz.f179
noncomputable def z0u : FuncId → Option GS := tabG [(106, vc), (202, z2T)]
theorem z86 : ΓOK Tryz.prog z0u := z8 (Vj) (z8 (z84) (ze))
def z0v : HT := ⟨tabL [(6, .it [] (dyn [.t 5 (.sl 4 (.one .bool)), .t 17 (.int .i64)]))], tabH []⟩
abbrev vN : List IT := [.v (.one (.sl 73 (.cons (.int .i64) (.one (.int .i64))))) false]
abbrev JL : List OT := [⟨.one (.sl 4 (.one .bool)), false, []⟩, ⟨.one (.int .i64), false, []⟩]
set_option maxRecDepth 100000
noncomputable def Y6 : List (Int × Int) → Option (List Bool × Int) := fun a => z6 (yj a) fun y => ifB (neI y 0) (some ([], y)) (zk maxR (fun (x : List Bool × Int) => ifB (ltI x.2 (lenI a)) (z6 (atI a x.2) fun y => ifB (gtI x.2 0) (z6 (atI a (wsub .i64 x.2 1)) fun y_1 => z6 (atI a (wsub .i64 x.2 1)) fun y_2 => ifB (gtI x.2 1) (z6 (atI a (wsub .i64 x.2 2)) fun y_3 => z6 (Z4 x.1 (wadd .i64 (wsub .i64 y.1 (wmul .i64 2 y_2.1)) y_3.1)) fun y_4 => z6 (Z4 y_4.1 (wsub .i64 y.2 y_1.2)) fun y => some (Sum.inl (y.1, wadd .i64 x.2 1))) (z6 (Z4 x.1 (wsub .i64 y.1 (wmul .i64 2 y_2.1))) fun y_3 => z6 (Z4 y_3.1 (wsub .i64 y.2 y_1.2)) fun y => some (Sum.inl (y.1, wadd .i64 x.2 1)))) (ifB (gtI x.2 1) (z6 (atI a (wsub .i64 x.2 2)) fun y_1 => z6 (Z4 x.1 (wadd .i64 y.1 y_1.1)) fun y_2 => z6 (Z4 y_2.1 y.2) fun y => some (Sum.inl (y.1, wadd .i64 x.2 1))) (z6 (Z4 x.1 y.1) fun y_1 => z6 (Z4 y_1.1 y.2) fun y => some (Sum.inl (y.1, wadd .i64 x.2 1))))) (mapO Sum.inr (some (x.1, 0)))) ([], 0))
theorem z5a (x : PI vN) : Y6 x = fnE T z0u z0v z0t (zo Tryz.f179) vN JL x := by kernel_rfl
noncomputable abbrev z0w : GS := zp false vN JL fun x => Y6 x
theorem z5b : GSOK Tryz.prog 179 z0w := zm tok z86 fmo (Ht := z0v) (fn := Tryz.f179) (Tryz.func179) (c := z0t) (by kernel_rfl) (by kernel_rfl) (by kernel_rfl) (by decide +kernel) (by decide) z5a
end Go.Proofs.Y
namespace Go.Proofs.Y
open Go.Rb Go.Kx
noncomputable def z1d : Code := zg Tryz.f158
noncomputable def z1e : FuncId → Option GS := tabG [(179, z0w)]
theorem z8L : ΓOK Tryz.prog z1e := z8 (z5b) (ze)
def z1f : HT := ⟨tabL [], tabH []⟩
abbrev V7 : List IT := [.v (.one (.sl 73 (.cons (.int .i64) (.one (.int .i64))))) false]
abbrev z0x : List OT := [⟨.cons (.int .i64) (.cons (.int .i64) (.cons (.int .i64) (.one (.sl 4 (.one .bool))))), true, []⟩, ⟨.one (.int .i64), false, []⟩]
set_option maxRecDepth 100000
noncomputable def yI : List (Int × Int) → Option ((Int × Int × Int × List Bool) × Int) := fun a => z6 (Y6 a) fun y => ifB (eqI y.2 0) (ifB (eqI (lenI a) 0) (some ((0, 0, 0, []), 4)) (ifB (neI y.2 0) (some ((0, 0, 0, []), y.2)) (z6 (atI a 0) fun y_1 => z6 (atI a (wsub .i64 (lenI a) 1)) fun y_2 => some ((lenI a, y_1.1, y_2.1, y.1), 0)))) (ifB (neI y.2 0) (some ((0, 0, 0, []), y.2)) (z6 (atI a 0) fun y_1 => z6 (atI a (wsub .i64 (lenI a) 1)) fun y_2 => some ((lenI a, y_1.1, y_2.1, y.1), 0)))
theorem z5R (x : PI V7) : yI x = fnE T z1e z1f z1d (zo Tryz.f158) V7 z0x x := by kernel_rfl
noncomputable abbrev Vl : GS := zp false V7 z0x fun x => yI x
theorem jQ : GSOK Tryz.prog 158 Vl := zm tok z8L fmo (Ht := z1f) (fn := Tryz.f158) (Tryz.func158) (c := z1d) (by kernel_rfl) (by kernel_rfl) (by kernel_rfl) (by decide +kernel) (by decide) z5R
end Go.Proofs.Y
namespace Go.Proofs.Y
open Go.Rb Go.Kx
noncomputable def zj1 : Code := zg Tryz.f138
noncomputable def zj2 : FuncId → Option GS := tabG []
theorem zr4 : ΓOK Tryz.prog zj2 := ze
def zj3 : HT := ⟨tabL [], tabH []⟩
abbrev z9N : List IT := [.v (.one (.sl 126 (.cons (.int .i64) (.cons (.int .i64) (.cons (.int .i64) (.one (.sl 4 (.one .bool)))))))) false]
abbrev zgb : List OT := [⟨.one (.sl 126 (.cons (.int .i64) (.cons (.int .i64) (.cons (.int .i64) (.one (.sl 4 (.one .bool))))))), false, [true]⟩]
set_option maxRecDepth 100000
noncomputable def Ze : List (Int × Int × Int × List Bool) → Option (List (Int × Int × Int × List Bool)) := fun a => ifB (isE a) (ambO (some []) (ifB (zh 48 [] a) (some (cat [] a)) none)) (ifB (zh 48 [] a) (some (cat [] a)) none)
theorem zlH (x : PI z9N) : Ze x = fnE T zj2 zj3 zj1 (zo Tryz.f138) z9N zgb x := by kernel_rfl
noncomputable abbrev z7l : GS := zp false z9N zgb fun x => Ze x
theorem z5S : GSOK Tryz.prog 138 z7l := zm tok zr4 fmo (Ht := zj3) (fn := Tryz.f138) (Tryz.func138) (c := zj1) (by kernel_rfl) (by kernel_rfl) (by kernel_rfl) (by decide +kernel) (by decide) zlH
end Go.Proofs.Y
namespace Go.Proofs.Y
open Go.Rb Go.Kx
noncomputable def z2a : Code := zg Tryz.f133
noncomputable def z2b : FuncId → Option GS := tabG [(64, y4), (137, z1b), (158, Vl), (138, z7l)]
theorem z9O : ΓOK Tryz.prog z2b := z8 (ZP) (z8 (jP) (z8 (jQ) (z8 (z5S) (ze))))
def z2c : HT := ⟨tabL [], tabH []⟩
abbrev Vm : List IT := [.v (.one (.sl 95 (.cons (.sl 126 (.cons (.int .i64) (.cons (.int .i64) (.cons (.int .i64) (.one (.sl 4 (.one .bool))))))) (.one (.sl 73 (.cons (.int .i64) (.one (.int .i64)))))))) true, .v (.one (.int .i64)) false, .v (.one (.int .i64)) false]
abbrev z1g : List OT := [⟨.one (.sl 95 (.cons (.sl 126 (.cons (.int .i64) (.cons (.int .i64) (.cons (.int .i64) (.one (.sl 4 (.one .bool))))))) (.one (.sl 73 (.cons (.int .i64) (.one (.int .i64))))))), true, []⟩, ⟨.one (.int .i64), false, []⟩]
set_option maxRecDepth 100000
noncomputable def Yt : List (List (Int × Int × Int × List Bool) × List (Int × Int)) → Int → Int → Option (List (List (Int × Int × Int × List Bool) × List (Int × Int)) × Int) := fun a b c => z6 (zl b 0 3) fun y => ifB (notB y) (some ([], 5)) (z6 (YC a) fun y => ifB (ltL b y) (z6 (atN y (natI b)) fun y_1 => z6 (zl c 1 (lenI y_1.2)) fun y_2 => ifB (notB y_2) (some ([], 3)) (ifB (geI (lenI y_1.1) 8) (some ([], 2)) (ifB (in1 y_1.2 c) (z6 (yI (YE y_1.2 c)) fun y_3 => z6 (Ze y_1.1) fun y_4 => ifB (zh 48 y_4 [(y_3.1.1, y_3.1.2.1, y_3.1.2.2.1, y_3.1.2.2.2)]) (ifB (in1 y_1.2 c) (ifB (ltL b y) (z6 (atN y (natI b)) fun y_5 => some (setN y (natI b) (cat y_4 [(y_3.1.1, y_3.1.2.1, y_3.1.2.2.1, y_3.1.2.2.2)], yF y_1.2 c), 0)) none) none) none) none))) none)
theorem z6I (x : PI Vm) : Yt (x.1) (x.2.1) (x.2.2) = fnE T z2b z2c z2a (zo Tryz.f133) Vm z1g x := by kernel_rfl
noncomputable abbrev z2d : GS := zp false Vm z1g fun x => Yt (x.1) (x.2.1) (x.2.2)
theorem z6J : GSOK Tryz.prog 133 z2d := zm tok z9O fmo (Ht := z2c) (fn := Tryz.f133) (Tryz.func133) (c := z2a) (by kernel_rfl) (by kernel_rfl) (by kernel_rfl) (by decide +kernel) (by decide) z6I
end Go.Proofs.Y
namespace Go.Proofs.Y
open Go.Rb Go.Kx
noncomputable def z2e : Code := zg Tryz.f159
noncomputable def z2f : FuncId → Option GS := tabG [(105, V6), (139, z5Q), (158, Vl)]
theorem z9P : ΓOK Tryz.prog z2f := z8 (ji) (z8 (z3H) (z8 (jQ) (ze)))
def z2g : HT := ⟨tabL [], tabH []⟩
abbrev Vn : List IT := [.v (.cons (.int .i64) (.cons (.int .i64) (.cons (.int .i64) (.one (.sl 4 (.one .bool)))))) true, .v (.cons (.int .i64) (.cons (.int .i64) (.cons (.int .i64) (.one (.sl 4 (.one .bool)))))) true]
abbrev z1h : List OT := [⟨.cons (.int .i64) (.cons (.int .i64) (.cons (.int .i64) (.one (.sl 4 (.one .bool))))), true, []⟩, ⟨.one (.int .i64), false, []⟩]
set_option maxRecDepth 100000
noncomputable def Yu : Int × Int × Int × List Bool → Int × Int × Int × List Bool → Option ((Int × Int × Int × List Bool) × Int) := fun a b => z6 (yh (a.1, a.2.1, a.2.2.1, a.2.2.2)) fun y => ifB (neI y.2 0) (some ((0, 0, 0, []), y.2)) (z6 (yh (b.1, b.2.1, b.2.2.1, b.2.2.2)) fun y_1 => ifB (neI y_1.2 0) (some ((0, 0, 0, []), y_1.2)) (z6 (Zq y.1) fun y => ifB (zh 16 y y_1.1) (z6 (yI (cat y y_1.1)) fun y => some ((y.1.1, y.1.2.1, y.1.2.2.1, y.1.2.2.2), y.2)) none))
theorem z6K (x : PI Vn) : Yu (x.1) (x.2) = fnE T z2f z2g z2e (zo Tryz.f159) Vn z1h x := by kernel_rfl
noncomputable abbrev z2h : GS := zp false Vn z1h fun x => Yu (x.1) (x.2)
theorem z6L : GSOK Tryz.prog 159 z2h := zm tok z9P fmo (Ht := z2g) (fn := Tryz.f159) (Tryz.func159) (c := z2e) (by kernel_rfl) (by kernel_rfl) (by kernel_rfl) (by decide +kernel) (by decide) z6K
end Go.Proofs.Y
namespace Go.Proofs.Y
open Go.Rb Go.Kx
noncomputable def zlI : Code := zg Tryz.f180
noncomputable def zlJ : FuncId → Option GS := tabG []
theorem zsJ : ΓOK Tryz.prog zlJ := ze
def zlK : HT := ⟨tabL [], tabH []⟩
noncomputable def zlL : GS := inl T zlJ zlK zlI (zo Tryz.f180) (Tryz.f180.ntmps)
theorem znP : GSOK Tryz.prog 180 zlL := yV tok zsJ fmo (Ht := zlK) (fn := Tryz.f180) (Tryz.func180) (c := zlI) (by kernel_rfl) (by kernel_rfl) (by kernel_rfl)
end Go.Proofs.Y
namespace Go.Proofs.Y
open Go.Rb Go.Kx
noncomputable def zgc : Code := zg Tryz.f160
noncomputable def zgd : FuncId → Option GS := tabG [(180, zlL)]
theorem zpM : ΓOK Tryz.prog zgd := z8 (znP) (ze)
def zge : HT := ⟨tabL [(3, .it [] (dyn [.t 3 (.int .i64), .t 11 (.int .i64)])), (11, .it [] (dyn [.a 6 126 (.cons (.int .i64) (.cons (.int .i64) (.cons (.int .i64) (.one (.sl 4 (.one .bool)))))), .t 27 (.int .i64)]))], tabH [(10, [.trim 6])]⟩
abbrev z87 : List IT := [.v (.one (.sl 93 (.one (.sl 126 (.cons (.int .i64) (.cons (.int .i64) (.cons (.int .i64) (.one (.sl 4 (.one .bool)))))))))) false]
abbrev zeb : List OT := [⟨.one (.sl 126 (.cons (.int .i64) (.cons (.int .i64) (.cons (.int .i64) (.one (.sl 4 (.one .bool))))))), false, []⟩]
set_option maxRecDepth 100000
noncomputable def z5c : List (List (Int × Int × Int × List Bool)) → Option (List (Int × Int × Int × List Bool)) := fun a => zk maxR (fun (x : Int × Int) => ifB (ltI x.2 (lenI a)) (z6 (atI a x.2) fun y => ifB (ltI (wadd .i64 x.1 (lenI y)) 0) none (some (Sum.inl (wadd .i64 x.1 (lenI y), wadd .i64 x.2 1)))) (mapO Sum.inr (ifB (ltI x.1 0) none (ifB (gtI (wsub .i64 x.1 (wsub .i64 0 0)) 0) (ifB (z1T 48 (wsub .i64 x.1 (wsub .i64 0 0))) (ifB (in1 (repI (wsub .i64 x.1 (wsub .i64 0 0)) ((0, 0, 0, []) : Int × Int × Int × List Bool)) 0) (ifB (inN (repI (wsub .i64 x.1 (wsub .i64 0 0)) ((0, 0, 0, []) : Int × Int × Int × List Bool)) 0 (natI 0)) (zk maxR (fun (x : Int × List (Int × Int × Int × List Bool)) => ifB (ltI x.1 (lenI a)) (z6 (atI a x.1) fun y => ifB (zh 48 x.2 y) (some (Sum.inl (wadd .i64 x.1 1, cat x.2 y))) none) (mapO Sum.inr (some x.2))) (0, subN (repI (wsub .i64 x.1 (wsub .i64 0 0)) ((0, 0, 0, []) : Int × Int × Int × List Bool)) 0 (natI 0))) none) none) none) (zk maxR (fun (x : Int × List (Int × Int × Int × List Bool)) => ifB (ltI x.1 (lenI a)) (z6 (atI a x.1) fun y => ifB (zh 48 x.2 y) (some (Sum.inl (wadd .i64 x.1 1, cat x.2 y))) none) (mapO Sum.inr (some x.2))) (0, [])))))) (0, 0)
theorem zk8 (x : PI z87) : z5c x = fnE T zgd zge zgc (zo Tryz.f160) z87 zeb x := by kernel_rfl
noncomputable abbrev zgf : GS := zp false z87 zeb fun x => z5c x
theorem zk9 : GSOK Tryz.prog 160 zgf := zm tok zpM fmo (Ht := zge) (fn := Tryz.f160) (Tryz.func160) (c := zgc) (by kernel_rfl) (by kernel_rfl) (by kernel_rfl) (by decide +kernel) (by decide) zk8
end Go.Proofs.Y
namespace Go.Proofs.Y
open Go.Rb Go.Kx
noncomputable def JM : Code := zg Tryz.f134
noncomputable def JN : FuncId → Option GS := tabG [(64, y4), (137, z1b), (159, z2h), (160, zgf)]
theorem z6M : ΓOK Tryz.prog JN := z8 (ZP) (z8 (jP) (z8 (z6L) (z8 (zk9) (ze))))
def JO : HT := ⟨tabL [], tabH []⟩
abbrev vv : List IT := [.v (.one (.sl 95 (.cons (.sl 126 (.cons (.int .i64) (.cons (.int .i64) (.cons (.int .i64) (.one (.sl 4 (.one .bool))))))) (.one (.sl 73 (.cons (.int .i64) (.one (.int .i64)))))))) true, .v (.one (.int .i64)) false, .v (.one (.int .i64)) false]
abbrev jR : List OT := [⟨.one (.sl 95 (.cons (.sl 126 (.cons (.int .i64) (.cons (.int .i64) (.cons (.int .i64) (.one (.sl 4 (.one .bool))))))) (.one (.sl 73 (.cons (.int .i64) (.one (.int .i64))))))), true, []⟩, ⟨.one (.int .i64), false, []⟩]
set_option maxRecDepth 100000
noncomputable def yW : List (List (Int × Int × Int × List Bool) × List (Int × Int)) → Int → Int → Option (List (List (Int × Int × Int × List Bool) × List (Int × Int)) × Int) := fun a b c => z6 (zl b 0 3) fun y => ifB (notB y) (some ([], 5)) (z6 (YC a) fun y => ifB (ltL b y) (z6 (atN y (natI b)) fun y_1 => ifB (ltI c 0) (some ([], 3)) (ifB (leI (wadd .i64 c 1) 0) (some ([], 3)) (ifB (geI (wadd .i64 c 1) (lenI y_1.1)) (some ([], 3)) (z6 (atI y_1.1 c) fun y_2 => z6 (atI y_1.1 (wadd .i64 c 1)) fun y_3 => z6 (Yu (y_2.1, y_2.2.1, y_2.2.2.1, y_2.2.2.2) (y_3.1, y_3.2.1, y_3.2.2.1, y_3.2.2.2)) fun y_4 => ifB (neI y_4.2 0) (some ([], y_4.2)) (ifB (in1 y_1.1 c) (ifB (in1 y_1.1 (wadd .i64 c 2)) (z6 (z5c [YE y_1.1 c, [(y_4.1.1, y_4.1.2.1, y_4.1.2.2.1, y_4.1.2.2.2)], yF y_1.1 (wadd .i64 c 2)]) fun y_5 => ifB (ltL b y) (z6 (atN y (natI b)) fun y_6 => some (setN y (natI b) (y_5, y_1.2), 0)) none) none) none))))) none)
theorem z4f (x : PI vv) : yW (x.1) (x.2.1) (x.2.2) = fnE T JN JO JM (zo Tryz.f134) vv jR x := by kernel_rfl
noncomputable abbrev JP : GS := zp false vv jR fun x => yW (x.1) (x.2.1) (x.2.2)
theorem z4g : GSOK Tryz.prog 134 JP := zm tok z6M fmo (Ht := JO) (fn := Tryz.f134) (Tryz.func134) (c := JM) (by kernel_rfl) (by kernel_rfl) (by kernel_rfl) (by decide +kernel) (by decide) z4f
end Go.Proofs.Y
namespace Go.Proofs.Y
open Go.Rb Go.Kx
noncomputable def z1i : Code := zg Tryz.f135
noncomputable def z1j : FuncId → Option GS := tabG [(64, y4)]
theorem z8M : ΓOK Tryz.prog z1j := z8 (ZP) (ze)
def z1k : HT := ⟨tabL [(5, .it [] (dyn [.t 19 (.int .i64), .b 6 0 95 (.cons (.sl 126 (.cons (.int .i64) (.cons (.int .i64) (.cons (.int .i64) (.one (.sl 4 (.one .bool))))))) (.one (.sl 73 (.cons (.int .i64) (.one (.int .i64))))))])), (9, .it [] (dyn [.t 29 (.int .i64), .b 9 0 126 (.cons (.int .i64) (.cons (.int .i64) (.cons (.int .i64) (.one (.sl 4 (.one .bool))))))]))], tabH []⟩
abbrev V8 : List IT := [.v (.one (.sl 95 (.cons (.sl 126 (.cons (.int .i64) (.cons (.int .i64) (.cons (.int .i64) (.one (.sl 4 (.one .bool))))))) (.one (.sl 73 (.cons (.int .i64) (.one (.int .i64)))))))) true, .v (.one (.int .i64)) false]
abbrev z0y : List OT := [⟨.one (.sl 95 (.cons (.sl 126 (.cons (.int .i64) (.cons (.int .i64) (.cons (.int .i64) (.one (.sl 4 (.one .bool))))))) (.one (.sl 73 (.cons (.int .i64) (.one (.int .i64))))))), true, []⟩, ⟨.one (.int .i64), false, []⟩]
set_option maxRecDepth 100000
noncomputable def Yg : List (List (Int × Int × Int × List Bool) × List (Int × Int)) → Int → Option (List (List (Int × Int × Int × List Bool) × List (Int × Int)) × Int) := fun a b => z6 (zl b 0 100001) fun y => ifB (notB y) (some ([], 3)) (zk maxR (fun (x : Int × List (List (Int × Int × Int × List Bool) × List (Int × Int))) => ifB (ltI x.1 (lenI a)) (z6 (atI a x.1) fun y => zk maxR (fun (x_1 : Int × List (Int × Int × Int × List Bool)) => ifB (ltI x_1.1 (lenI y.1)) (z6 (atI y.1 x_1.1) fun y => ifB (geI y.2.2.1 b) (ifB (zh 48 x_1.2 [(y.1, y.2.1, y.2.2.1, y.2.2.2)]) (some (Sum.inl (wadd .i64 x_1.1 1, cat x_1.2 [(y.1, y.2.1, y.2.2.1, y.2.2.2)]))) none) (some (Sum.inl (wadd .i64 x_1.1 1, x_1.2)))) (mapO Sum.inr (ifB (zh 48 x.2 [(x_1.2, y.2)]) (some (Sum.inl (wadd .i64 x.1 1, cat x.2 [(x_1.2, y.2)]))) none))) (0, [])) (mapO Sum.inr (some (x.2, 0)))) (0, []))
theorem z5T (x : PI V8) : Yg (x.1) (x.2) = fnE T z1j z1k z1i (zo Tryz.f135) V8 z0y x := by kernel_rfl
noncomputable abbrev z1l : GS := zp false V8 z0y fun x => Yg (x.1) (x.2)
theorem z5U : GSOK Tryz.prog 135 z1l := zm tok z8M fmo (Ht := z1k) (fn := Tryz.f135) (Tryz.func135) (c := z1i) (by kernel_rfl) (by kernel_rfl) (by kernel_rfl) (by decide +kernel) (by decide) z5T
end Go.Proofs.Y
namespace Go.Proofs.Y
open Go.Rb Go.Kx
noncomputable def z2i : Code := zg Tryz.f104
noncomputable def z2j : FuncId → Option GS := tabG [(132, z28), (133, z2d), (134, JP), (135, z1l)]
theorem z9Q : ΓOK Tryz.prog z2j := z8 (z6H) (z8 (z6J) (z8 (z4g) (z8 (z5U) (ze))))
def z2k : HT := ⟨tabL [], tabH []⟩
abbrev Vo : List IT := [.v (.one (.sl 95 (.cons (.sl 126 (.cons (.int .i64) (.cons (.int .i64) (.cons (.int .i64) (.one (.sl 4 (.one .bool))))))) (.one (.sl 73 (.cons (.int .i64) (.one (.int .i64)))))))) true, .v (.cons (.int .i64) (.cons (.int .i64) (.cons (.int .i64) (.one (.sl 77 (.cons (.int .i64) (.cons (.int .i64) (.one (.int .i64))))))))) true]
abbrev z1m : List OT := [⟨.one (.sl 95 (.cons (.sl 126 (.cons (.int .i64) (.cons (.int .i64) (.cons (.int .i64) (.one (.sl 4 (.one .bool))))))) (.one (.sl 73 (.cons (.int .i64) (.one (.int .i64))))))), true, []⟩, ⟨.one (.int .i64), false, []⟩]
set_option maxRecDepth 100000
noncomputable def yg : List (List (Int × Int × Int × List Bool) × List (Int × Int)) → Int × Int × Int × List (Int × Int × Int) → Option (List (List (Int × Int × Int × List Bool) × List (Int × Int)) × Int) := fun a b => ifB (eqI b.1 1) (z6 (Ys a b.2.2.2) fun y => some (y.1, y.2)) (ifB (eqI b.1 2) (z6 (Yt a b.2.1 b.2.2.1) fun y => some (y.1, y.2)) (ifB (eqI b.1 3) (z6 (yW a b.2.1 b.2.2.1) fun y => some (y.1, y.2)) (z6 (Yg a b.2.2.1) fun y => some (y.1, y.2))))
theorem z6N (x : PI Vo) : yg (x.1) (x.2) = fnE T z2j z2k z2i (zo Tryz.f104) Vo z1m x := by kernel_rfl
noncomputable abbrev VG : GS := zp false Vo z1m fun x => yg (x.1) (x.2)
theorem JQ : GSOK Tryz.prog 104 VG := zm tok z9Q fmo (Ht := z2k) (fn := Tryz.f104) (Tryz.func104) (c := z2i) (by kernel_rfl) (by kernel_rfl) (by kernel_rfl) (by decide +kernel) (by decide) z6N
end Go.Proofs.Y
namespace Go.Proofs.Y
open Go.Rb Go.Kx
noncomputable def z2l : Code := zg Tryz.f72
noncomputable def z2m : FuncId → Option GS := tabG [(111, jO), (103, Y5), (104, VG)]
theorem z9R : ΓOK Tryz.prog z2m := z8 (z3X) (z8 (Yl) (z8 (JQ) (ze)))
def z2n : HT := ⟨tabL [], tabH []⟩
abbrev Vp : List IT := [.v (.one (.sl 95 (.cons (.sl 126 (.cons (.int .i64) (.cons (.int .i64) (.cons (.int .i64) (.one (.sl 4 (.one .bool))))))) (.one (.sl 73 (.cons (.int .i64) (.one (.int .i64)))))))) true, .v (.cons (.int .i64) (.cons (.int .i64) (.cons (.int .i64) (.one (.sl 77 (.cons (.int .i64) (.cons (.int .i64) (.one (.int .i64))))))))) true]
abbrev z1n : List OT := [⟨.one (.sl 95 (.cons (.sl 126 (.cons (.int .i64) (.cons (.int .i64) (.cons (.int .i64) (.one (.sl 4 (.one .bool))))))) (.one (.sl 73 (.cons (.int .i64) (.one (.int .i64))))))), true, []⟩, ⟨.one (.int .i64), false, []⟩]
set_option maxRecDepth 100000
noncomputable def ZX : List (List (Int × Int × Int × List Bool) × List (Int × Int)) → Int × Int × Int × List (Int × Int × Int) → Option (List (List (Int × Int × Int × List Bool) × List (Int × Int)) × Int) := fun a b => z6 (yL a) fun y => ifB (neI y 0) (some ([], y)) (z6 (zn (b.1, b.2.1, b.2.2.1, b.2.2.2)) fun y => ifB (neI y 0) (some ([], y)) (z6 (yg a (b.1, b.2.1, b.2.2.1, b.2.2.2)) fun y => some (y.1, y.2)))
theorem z6O (x : PI Vp) : ZX (x.1) (x.2) = fnE T z2m z2n z2l (zo Tryz.f72) Vp z1n x := by kernel_rfl
noncomputable abbrev z2o : GS := zp false Vp z1n fun x => ZX (x.1) (x.2)
theorem z6P : GSOK Tryz.prog 72 z2o := zm tok z9R fmo (Ht := z2n) (fn := Tryz.f72) (Tryz.func72) (c := z2l) (by kernel_rfl) (by kernel_rfl) (by kernel_rfl) (by decide +kernel) (by decide) z6O
end Go.Proofs.Y
namespace Go.Proofs.Y
open Go.Rb Go.Kx
noncomputable def z1o : Code := zg Tryz.f56
noncomputable def z1p : FuncId → Option GS := tabG [(70, zly), (103, Y5), (104, VG)]
theorem z8N : ΓOK Tryz.prog z1p := z8 (znM) (z8 (Yl) (z8 (JQ) (ze)))
def z1q : HT := ⟨tabL [(5, .it [] (dyn [.t 17 (.int .i64), .c 2 0 (.sl 95 (.cons (.sl 126 (.cons (.int .i64) (.cons (.int .i64) (.cons (.int .i64) (.one (.sl 4 (.one .bool))))))) (.one (.sl 73 (.cons (.int .i64) (.one (.int .i64))))))), .c 4 0 (.sl 95 (.cons (.sl 126 (.cons (.int .i64) (.cons (.int .i64) (.cons (.int .i64) (.one (.sl 4 (.one .bool))))))) (.one (.sl 73 (.cons (.int .i64) (.one (.int .i64)))))))]))], tabH []⟩
abbrev V9 : List IT := [.v (.one (.sl 52 (.cons (.int .i64) (.cons (.int .i64) (.cons (.int .i64) (.one (.sl 77 (.cons (.int .i64) (.cons (.int .i64) (.one (.int .i64))))))))))) false]
abbrev z0z : List OT := [⟨.one (.sl 95 (.cons (.sl 126 (.cons (.int .i64) (.cons (.int .i64) (.cons (.int .i64) (.one (.sl 4 (.one .bool))))))) (.one (.sl 73 (.cons (.int .i64) (.one (.int .i64))))))), true, []⟩, ⟨.one (.int .i64), false, []⟩]
set_option maxRecDepth 100000
noncomputable def ZJ : List (Int × Int × Int × List (Int × Int × Int)) → Option (List (List (Int × Int × Int × List Bool) × List (Int × Int)) × Int) := fun a => ifB (gtI (lenI a) 60) (some ([], 2)) (z6 z5H fun y => zk maxR (fun (x : Int × List (List (Int × Int × Int × List Bool) × List (Int × Int)) × List (List (Int × Int × Int × List Bool) × List (Int × Int))) => ifB (ltI x.1 (lenI a)) (z6 (atI a x.1) fun y => z6 (zn (y.1, y.2.1, y.2.2.1, y.2.2.2)) fun y_1 => ifB (neI y_1 0) (mapO Sum.inr (some ([], y_1))) (z6 (yg x.2.2 (y.1, y.2.1, y.2.2.1, y.2.2.2)) fun y => ifB (neI y.2 0) (mapO Sum.inr (some ([], y.2))) (some (Sum.inl (wadd .i64 x.1 1, x.2.1, y.1))))) (mapO Sum.inr (some (x.2.2, 0)))) (0, [], y))
theorem z5V (x : PI V9) : ZJ x = fnE T z1p z1q z1o (zo Tryz.f56) V9 z0z x := by kernel_rfl
noncomputable abbrev Vq : GS := zp false V9 z0z fun x => ZJ x
theorem jS : GSOK Tryz.prog 56 Vq := zm tok z8N fmo (Ht := z1q) (fn := Tryz.f56) (Tryz.func56) (c := z1o) (by kernel_rfl) (by kernel_rfl) (by kernel_rfl) (by decide +kernel) (by decide) z5V
end Go.Proofs.Y
namespace Go.Proofs.Y
open Go.Rb Go.Kx
noncomputable def zec : Code := zg Tryz.f197
noncomputable def zed : FuncId → Option GS := tabG []
theorem znQ : ΓOK Tryz.prog zed := ze
def zee : HT := ⟨tabL [(7, .it [] (dyn [.t 6 (.int .i64), .t 23 (.int .i64)]))], tabH []⟩
abbrev z5W : List IT := [.v (.one (.sl 4 (.one .bool))) false, .v (.one (.int .i64)) false]
abbrev zbC : List OT := [⟨.one (.int .i64), false, []⟩, ⟨.one (.int .i64), false, []⟩]
set_option maxRecDepth 100000
noncomputable def z0A : List Bool → Int → Option (Int × Int) := fun a b => ifB (ltI b 0) (some (0, 3)) (ifB (gtI b 40) (some (0, 3)) (ifB (ltI (lenI a) b) (some (0, 8)) (ifB (in1 a b) (zk maxR (fun (x : Int × Int) => ifB (ltI x.2 (lenI (YE a b))) (z6 (atI (YE a b) x.2) fun y => ifB y (some (Sum.inl (wadd .i64 (wmul .i64 x.1 2) 1, wadd .i64 x.2 1))) (some (Sum.inl (wmul .i64 x.1 2, wadd .i64 x.2 1)))) (mapO Sum.inr (some (x.1, 0)))) (0, 0)) none)))
theorem zhZ (x : PI z5W) : z0A (x.1) (x.2) = fnE T zed zee zec (zo Tryz.f197) z5W zbC x := by kernel_rfl
noncomputable abbrev zef : GS := zp false z5W zbC fun x => z0A (x.1) (x.2)
theorem zi0 : GSOK Tryz.prog 197 zef := zm tok znQ fmo (Ht := zee) (fn := Tryz.f197) (Tryz.func197) (c := zec) (by kernel_rfl) (by kernel_rfl) (by kernel_rfl) (by decide +kernel) (by decide) zhZ
end Go.Proofs.Y
namespace Go.Proofs.Y
open Go.Rb Go.Kx
noncomputable def zgg : Code := zg Tryz.f174
noncomputable def zgh : FuncId → Option GS := tabG [(197, zef)]
theorem zpN : ΓOK Tryz.prog zgh := z8 (zi0) (ze)
def zgi : HT := ⟨tabL [(3, .it [] (dyn [.t 5 (.int .i64), .t 6 (.int .i64), .t 10 (.int .i64)]))], tabH []⟩
abbrev z88 : List IT := [.v (.one (.sl 4 (.one .bool))) false]
abbrev zeg : List OT := [⟨.one (.int .i64), false, []⟩, ⟨.one (.int .i64), false, []⟩, ⟨.one (.int .i64), false, []⟩]
set_option maxRecDepth 100000
noncomputable def Jr : List Bool → Option (Int × Int × Int) := fun a => zk maxR (fun (x : Int × Int × Int) => ifB (ltI x.2.2 8) (ifB (in1 a (minI (lenI a) (wmul .i64 4 x.2.2))) (z6 (z0A (yF a (minI (lenI a) (wmul .i64 4 x.2.2))) 4) fun y => ifB (neI y.2 0) (mapO Sum.inr (some (0, 0, y.2))) (ifB (eqI y.1 0) (ifB (gtI x.2.2 0) (mapO Sum.inr (some (0, 0, 4))) (ifB (gtI (wadd .i64 x.1 (wmul .i64 (wrem y.1 8) x.2.1)) 8000000) (mapO Sum.inr (some (0, 0, 3))) (ifB (ltI y.1 8) (ifB (eqI (wrem (wadd .i64 x.1 (wmul .i64 (wrem y.1 8) x.2.1)) 2) 1) (mapO Sum.inr (some (wquo .i64 (wneg .i64 (wadd .i64 (wadd .i64 x.1 (wmul .i64 (wrem y.1 8) x.2.1)) 1)) 2, wadd .i64 (wmul .i64 4 x.2.2) 4, 0))) (mapO Sum.inr (some (wquo .i64 (wadd .i64 x.1 (wmul .i64 (wrem y.1 8) x.2.1)) 2, wadd .i64 (wmul .i64 4 x.2.2) 4, 0)))) (some (Sum.inl (wadd .i64 x.1 (wmul .i64 (wrem y.1 8) x.2.1), wmul .i64 x.2.1 8, wadd .i64 x.2.2 1)))))) (ifB (gtI (wadd .i64 x.1 (wmul .i64 (wrem y.1 8) x.2.1)) 8000000) (mapO Sum.inr (some (0, 0, 3))) (ifB (ltI y.1 8) (ifB (eqI (wrem (wadd .i64 x.1 (wmul .i64 (wrem y.1 8) x.2.1)) 2) 1) (mapO Sum.inr (some (wquo .i64 (wneg .i64 (wadd .i64 (wadd .i64 x.1 (wmul .i64 (wrem y.1 8) x.2.1)) 1)) 2, wadd .i64 (wmul .i64 4 x.2.2) 4, 0))) (mapO Sum.inr (some (wquo .i64 (wadd .i64 x.1 (wmul .i64 (wrem y.1 8) x.2.1)) 2, wadd .i64 (wmul .i64 4 x.2.2) 4, 0)))) (some (Sum.inl (wadd .i64 x.1 (wmul .i64 (wrem y.1 8) x.2.1), wmul .i64 x.2.1 8, wadd .i64 x.2.2 1))))))) none) (mapO Sum.inr (some (0, 0, 3)))) (0, 1, 0)
theorem zka (x : PI z88) : Jr x = fnE T zgh zgi zgg (zo Tryz.f174) z88 zeg x := by kernel_rfl
noncomputable abbrev zgj : GS := zp false z88 zeg fun x => Jr x
theorem zkb : GSOK Tryz.prog 174 zgj := zm tok zpN fmo (Ht := zgi) (fn := Tryz.f174) (Tryz.func174) (c := zgg) (by kernel_rfl) (by kernel_rfl) (by kernel_rfl) (by decide +kernel) (by decide) zka
end Go.Proofs.Y
namespace Go.Proofs.Y
open Go.Rb Go.Kx
noncomputable def z5X : Code := zg Tryz.f50
noncomputable def zbD : FuncId → Option GS := tabG []
theorem zbE : ΓOK Tryz.prog zbD := ze
def z5Y : HT := ⟨tabL [(4, .it [] (dyn [.t 10 (.int .i64)]))], tabH []⟩
abbrev z0W : List IT := [.v (.one (.sl 73 (.cons (.int .i64) (.one (.int .i64))))) false]
abbrev z4h : List OT := [⟨.one (.int .i64), false, []⟩]
set_option maxRecDepth 100000
noncomputable def YR : List (Int × Int) → Option Int := fun a => ifB (gtI (lenI a) 40) (some 2) (zk maxR (fun (x : Int) => ifB (ltI x (lenI a)) (z6 (atI a x) fun y => ifB (ltI y.1 0) (mapO Sum.inr (some 3)) (ifB (gtI y.1 100000) (mapO Sum.inr (some 3)) (ifB (ltI y.2 (-1000000)) (mapO Sum.inr (some 3)) (ifB (gtI y.2 1000000) (mapO Sum.inr (some 3)) (ifB (gtI x 0) (z6 (atI a (wsub .i64 x 1)) fun y_1 => ifB (geI y_1.1 y.1) (mapO Sum.inr (some 7)) (some (Sum.inl (wadd .i64 x 1)))) (some (Sum.inl (wadd .i64 x 1)))))))) (mapO Sum.inr (some 0))) 0)
theorem z7m (x : PI z0W) : YR x = fnE T zbD z5Y z5X (zo Tryz.f50) z0W z4h x := by kernel_rfl
noncomputable abbrev z5Z : GS := zp false z0W z4h fun x => YR x
theorem z7n : GSOK Tryz.prog 50 z5Z := zm tok zbE fmo (Ht := z5Y) (fn := Tryz.f50) (Tryz.func50) (c := z5X) (by kernel_rfl) (by kernel_rfl) (by kernel_rfl) (by decide +kernel) (by decide) z7m
noncomputable abbrev zbF : GS := zp true z0W z4h fun x => YR x
theorem zgk : GSOK Tryz.prog 50 zbF := zm tok zbE fmo (Ht := z5Y) (fn := Tryz.f50) (Tryz.func50) (c := z5X) (by kernel_rfl) (by kernel_rfl) (by kernel_rfl) (by decide +kernel) (by decide) z7m
end Go.Proofs.Y
namespace Go.Proofs.Y
open Go.Rb Go.Kx
noncomputable def zai : Code := zg Tryz.f153
noncomputable def zaj : FuncId → Option GS := tabG [(174, zgj), (50, z5Z)]
theorem zkc : ΓOK Tryz.prog zaj := z8 (zkb) (z8 (z7n) (ze))
def zak : HT := ⟨tabL [(7, .it [] (dyn [.t 0 (.sl 4 (.one .bool)), .a 6 73 (.cons (.int .i64) (.one (.int .i64))), .t 8 (.int .i64), .t 23 (.int .i64), .c 7 0 (.int .i64), .c 7 1 (.int .i64)]))], tabH []⟩
abbrev z3f : List IT := [.v (.one (.sl 4 (.one .bool))) false, .v (.one (.int .i64)) false]
abbrev z8O : List OT := [⟨.one (.sl 73 (.cons (.int .i64) (.one (.int .i64)))), false, []⟩, ⟨.one (.int .i64), false, []⟩]
set_option maxRecDepth 100000
noncomputable def VS : List Bool → Int → Option (List (Int × Int) × Int) := fun a b => ifB (ltI b 0) (some ([], 2)) (ifB (gtI b 40) (some ([], 2)) (zk maxR (fun (x : List Bool × Int × Int × Int × Int × List (Int × Int)) => ifB (ltI x.2.2.1 b) (z6 (Jr x.1) fun y => ifB (neI y.2.2 0) (mapO Sum.inr (some ([], y.2.2))) (ifB (in1 x.1 y.2.1) (z6 (Jr (yF x.1 y.2.1)) fun y_1 => ifB (neI y_1.2.2 0) (mapO Sum.inr (some ([], y_1.2.2))) (ifB (in1 x.1 (wadd .i64 y.2.1 y_1.2.1)) (ifB (ifB (in2 x.2.2.2.2.2 (maxI 0 (wsub .i64 (lenI x.2.2.2.2.2) 1)) (lenI x.2.2.2.2.2)) (eqI (lenI x.2.2.2.2.2) (lenI x.2.2.2.2.2)) false) (ifB (ifB (inN x.2.2.2.2.2 (natI (maxI 0 (wsub .i64 (lenI x.2.2.2.2.2) 1))) (subI (maxI 0 (wsub .i64 (lenI x.2.2.2.2.2) 1)) (lenI x.2.2.2.2.2))) (zh 16 (subN x.2.2.2.2.2 (natI (maxI 0 (wsub .i64 (lenI x.2.2.2.2.2) 1))) (subI (maxI 0 (wsub .i64 (lenI x.2.2.2.2.2) 1)) (lenI x.2.2.2.2.2))) [(wadd .i64 (wadd .i64 x.2.2.2.1 x.2.1) y.1, wadd .i64 x.2.2.2.2.1 y_1.1)]) false) (ifB (fits (subI (maxI 0 (wsub .i64 (lenI x.2.2.2.2.2) 1)) (lenI x.2.2.2.2.2)) [(wadd .i64 (wadd .i64 x.2.2.2.1 x.2.1) y.1, wadd .i64 x.2.2.2.2.1 y_1.1)] (capN (lenN x.2.2.2.2.2) (natI (maxI 0 (wsub .i64 (lenI x.2.2.2.2.2) 1))))) none (z6 (YR (cat (subN x.2.2.2.2.2 (natI (maxI 0 (wsub .i64 (lenI x.2.2.2.2.2) 1))) (subI (maxI 0 (wsub .i64 (lenI x.2.2.2.2.2) 1)) (lenI x.2.2.2.2.2))) [(wadd .i64 (wadd .i64 x.2.2.2.1 x.2.1) y.1, wadd .i64 x.2.2.2.2.1 y_1.1)])) fun y_2 => ifB (neI y_2 0) (mapO Sum.inr (some ([], y_2))) (ifB (zh 16 x.2.2.2.2.2 [(wadd .i64 (wadd .i64 x.2.2.2.1 x.2.1) y.1, wadd .i64 x.2.2.2.2.1 y_1.1)]) (some (Sum.inl (yF x.1 (wadd .i64 y.2.1 y_1.2.1), wsub .i64 (wadd .i64 (wadd .i64 x.2.2.2.1 x.2.1) y.1) x.2.2.2.1, wadd .i64 x.2.2.1 1, wadd .i64 (wadd .i64 x.2.2.2.1 x.2.1) y.1, wadd .i64 x.2.2.2.2.1 y_1.1, cat x.2.2.2.2.2 [(wadd .i64 (wadd .i64 x.2.2.2.1 x.2.1) y.1, wadd .i64 x.2.2.2.2.1 y_1.1)]))) none))) none) none) none)) none)) (mapO Sum.inr (ifB (gtI (lenI x.1) 0) (some ([], 8)) (some (x.2.2.2.2.2, 0))))) (a, 0, 0, 0, 0, [])))
theorem zfa (x : PI z3f) : VS (x.1) (x.2) = fnE T zaj zak zai (zo Tryz.f153) z3f z8O x := by kernel_rfl
noncomputable abbrev zal : GS := zp false z3f z8O fun x => VS (x.1) (x.2)
theorem zfb : GSOK Tryz.prog 153 zal := zm tok zkc fmo (Ht := zak) (fn := Tryz.f153) (Tryz.func153) (c := zai) (by kernel_rfl) (by kernel_rfl) (by kernel_rfl) (by decide +kernel) (by decide) zfa
end Go.Proofs.Y
namespace Go.Proofs.Y
open Go.Rb Go.Kx
noncomputable def z8P : Code := zg Tryz.f126
noncomputable def z8Q : FuncId → Option GS := tabG [(153, zal)]
theorem zi1 : ΓOK Tryz.prog z8Q := z8 (zfb) (ze)
def z8R : HT := ⟨tabL [], tabH []⟩
abbrev z2p : List IT := [.v (.cons (.int .i64) (.cons (.int .i64) (.cons (.int .i64) (.one (.sl 4 (.one .bool)))))) true]
abbrev z7o : List OT := [⟨.one (.sl 73 (.cons (.int .i64) (.one (.int .i64)))), false, []⟩, ⟨.one (.int .i64), false, []⟩]
set_option maxRecDepth 100000
noncomputable def YJ : Int × Int × Int × List Bool → Option (List (Int × Int) × Int) := fun a => z6 (VS a.2.2.2 a.1) fun y => ifB (neI y.2 0) (some ([], y.2)) (ifB (eqI (lenI y.1) 0) (some ([], 4)) (z6 (atI y.1 0) fun y_1 => ifB (neI y_1.1 a.2.1) (some ([], 4)) (z6 (atI y.1 (wsub .i64 (lenI y.1) 1)) fun y_2 => ifB (neI y_2.1 a.2.2.1) (some ([], 4)) (some (y.1, 0)))))
theorem zdR (x : PI z2p) : YJ x = fnE T z8Q z8R z8P (zo Tryz.f126) z2p z7o x := by kernel_rfl
noncomputable abbrev z3g : GS := zp false z2p z7o fun x => YJ x
theorem z4L : GSOK Tryz.prog 126 z3g := zm tok zi1 fmo (Ht := z8R) (fn := Tryz.f126) (Tryz.func126) (c := z8P) (by kernel_rfl) (by kernel_rfl) (by kernel_rfl) (by decide +kernel) (by decide) zdR
end Go.Proofs.Y
namespace Go.Proofs.Y
open Go.Rb Go.Kx
noncomputable def z89 : Code := zg Tryz.f97
noncomputable def zeh : FuncId → Option GS := tabG [(126, z3g), (50, zbF)]
theorem zei : ΓOK Tryz.prog zeh := z8 (z4L) (z8 (zgk) (ze))
def z8a : HT := ⟨tabL [(5, .it [] (dyn [.a 4 73 (.cons (.int .i64) (.one (.int .i64))), .t 16 (.int .i64)]))], tabH []⟩
abbrev z2q : List IT := [.v (.cons (.sl 126 (.cons (.int .i64) (.cons (.int .i64) (.cons (.int .i64) (.one (.sl 4 (.one .bool))))))) (.one (.sl 73 (.cons (.int .i64) (.one (.int .i64)))))) true]
abbrev z60 : List OT := [⟨.one (.sl 73 (.cons (.int .i64) (.one (.int .i64)))), false, [true]⟩, ⟨.one (.int .i64), false, []⟩]
set_option maxRecDepth 100000
noncomputable def yB : List (Int × Int × Int × List Bool) × List (Int × Int) → Option (List (Int × Int) × Int) := fun a => ifB (gtI (lenI a.1) 8) (some ([], 2)) (zk maxR (fun (x : Int × List (Int × Int)) => ifB (ltI x.1 (lenI a.1)) (z6 (atI a.1 x.1) fun y => z6 (YJ (y.1, y.2.1, y.2.2.1, y.2.2.2)) fun y => ifB (neI y.2 0) (mapO Sum.inr (some ([], y.2))) (ifB (zh 16 x.2 y.1) (some (Sum.inl (wadd .i64 x.1 1, cat x.2 y.1))) none)) (mapO Sum.inr (ifB (zh 16 x.2 a.2) (z6 (YR (cat x.2 a.2)) fun y => some (cat x.2 a.2, y)) none))) (0, []))
theorem z8S (x : PI z2q) : yB x = fnE T zeh z8a z89 (zo Tryz.f97) z2q z60 x := by kernel_rfl
noncomputable abbrev z8b : GS := zp false z2q z60 fun x => yB x
theorem z8T : GSOK Tryz.prog 97 z8b := zm tok zei fmo (Ht := z8a) (fn := Tryz.f97) (Tryz.func97) (c := z89) (by kernel_rfl) (by kernel_rfl) (by kernel_rfl) (by decide +kernel) (by decide) z8S
noncomputable abbrev zej : GS := zp true z2q z60 fun x => yB x
theorem zi2 : GSOK Tryz.prog 97 zej := zm tok zei fmo (Ht := z8a) (fn := Tryz.f97) (Tryz.func97) (c := z89) (by kernel_rfl) (by kernel_rfl) (by kernel_rfl) (by decide +kernel) (by decide) z8S
end Go.Proofs.Y
namespace Go.Proofs.Y
open Go.Rb Go.Kx
noncomputable def zam : Code := zg Tryz.f78
noncomputable def zan : FuncId → Option GS := tabG [(97, z8b)]
theorem zkd : ΓOK Tryz.prog zan := z8 (z8T) (ze)
def zao : HT := ⟨tabL [(4, .it [] (dyn [.t 14 (.int .i64)]))], tabH []⟩
abbrev z3h : List IT := [.v (.one (.sl 95 (.cons (.sl 126 (.cons (.int .i64) (.cons (.int .i64) (.cons (.int .i64) (.one (.sl 4 (.one .bool))))))) (.one (.sl 73 (.cons (.int .i64) (.one (.int .i64)))))))) true]
abbrev z8U : List OT := [⟨.one (.int .i64), false, []⟩]
set_option maxRecDepth 100000
noncomputable def yP : List (List (Int × Int × Int × List Bool) × List (Int × Int)) → Option Int := fun a => ifB (neI (lenI a) 4) (some 4) (zk maxR (fun (x : Int) => ifB (ltI x (lenI a)) (z6 (atI a x) fun y => z6 (yB (y.1, y.2)) fun y => ifB (neI y.2 0) (mapO Sum.inr (some y.2)) (some (Sum.inl (wadd .i64 x 1)))) (mapO Sum.inr (some 0))) 0)
theorem zfc (x : PI z3h) : yP x = fnE T zan zao zam (zo Tryz.f78) z3h z8U x := by kernel_rfl
noncomputable abbrev YV : GS := zp false z3h z8U fun x => yP x
theorem YK : GSOK Tryz.prog 78 YV := zm tok zkd fmo (Ht := zao) (fn := Tryz.f78) (Tryz.func78) (c := zam) (by kernel_rfl) (by kernel_rfl) (by kernel_rfl) (by decide +kernel) (by decide) zfc
end Go.Proofs.Y
namespace Go.Proofs.Y
open Go.Rb Go.Kx
noncomputable def zbG : Code := zg Tryz.f140
noncomputable def zbH : FuncId → Option GS := tabG [(162, z9M)]
theorem zlM : ΓOK Tryz.prog zbH := z8 (z82) (ze)
def zbI : HT := ⟨tabL [], tabH []⟩
abbrev z4i : List IT := [.v (.cons (.int .i64) (.cons (.int .i64) (.cons (.int .i64) (.one (.sl 4 (.one .bool)))))) true]
abbrev zap : List OT := [⟨.cons (.int .i64) (.cons (.int .i64) (.cons (.int .i64) (.one (.sl 4 (.one .bool))))), true, []⟩]
set_option maxRecDepth 100000
noncomputable def zS : Int × Int × Int × List Bool → Option (Int × Int × Int × List Bool) := fun a => z6 (z0Z a.2.2.2) fun y => some (a.1, a.2.1, a.2.2.1, y)
theorem zgl (x : PI z4i) : zS x = fnE T zbH zbI zbG (zo Tryz.f140) z4i zap x := by kernel_rfl
noncomputable abbrev z61 : GS := zp false z4i zap fun x => zS x
theorem z7p : GSOK Tryz.prog 140 z61 := zm tok zlM fmo (Ht := zbI) (fn := Tryz.f140) (Tryz.func140) (c := zbG) (by kernel_rfl) (by kernel_rfl) (by kernel_rfl) (by decide +kernel) (by decide) zgl
end Go.Proofs.Y
namespace Go.Proofs.Y
open Go.Rb Go.Kx
noncomputable def zbJ : Code := zg Tryz.f107
noncomputable def zbK : FuncId → Option GS := tabG [(137, z1b), (138, z7l), (139, z5Q), (140, z61)]
theorem zlN : ΓOK Tryz.prog zbK := z8 (jP) (z8 (z5S) (z8 (z3H) (z8 (z7p) (ze))))
def zbL : HT := ⟨tabL [(3, .unroll 5), (7, .it [] (dyn [.t 33 (.int .i64), .b 29 0 126 (.cons (.int .i64) (.cons (.int .i64) (.cons (.int .i64) (.one (.sl 4 (.one .bool))))))]))], tabH [(2, [.expl 1 0])]⟩
noncomputable def jT : GS := inl T zbK zbL zbJ (zo Tryz.f107) (Tryz.f107.ntmps)
theorem jo : GSOK Tryz.prog 107 jT := yV tok zlN fmo (Ht := zbL) (fn := Tryz.f107) (Tryz.func107) (c := zbJ) (by kernel_rfl) (by kernel_rfl) (by kernel_rfl)
end Go.Proofs.Y
namespace Go.Proofs.Y
open Go.Rb Go.Kx
noncomputable def zek : Code := zg Tryz.f80
noncomputable def zel : FuncId → Option GS := tabG [(78, YV), (107, jT), (97, zej)]
theorem znR : ΓOK Tryz.prog zel := z8 (YK) (z8 (jo) (z8 (zi2) (ze)))
def zem : HT := ⟨tabL [(8, .it [] (dyn [.t 26 (.int .i64), .q 2 0 1 73 (.cons (.int .i64) (.one (.int .i64))), .q 2 0 3 73 (.cons (.int .i64) (.one (.int .i64))), .q 2 0 5 73 (.cons (.int .i64) (.one (.int .i64))), .q 2 0 7 73 (.cons (.int .i64) (.one (.int .i64)))]))], tabH [(18, [.frzq 2 0 0, .frzq 2 0 1, .frzq 2 0 2, .frzq 2 0 3, .frzq 2 0 4, .frzq 2 0 5, .frzq 2 0 6, .frzq 2 0 7, .pack 2 0 (.cons (.sl 126 (.cons (.int .i64) (.cons (.int .i64) (.cons (.int .i64) (.one (.sl 4 (.one .bool))))))) (.one (.sl 73 (.cons (.int .i64) (.one (.int .i64))))))])]⟩
abbrev z62 : List IT := [.v (.one (.sl 95 (.cons (.sl 126 (.cons (.int .i64) (.cons (.int .i64) (.cons (.int .i64) (.one (.sl 4 (.one .bool))))))) (.one (.sl 73 (.cons (.int .i64) (.one (.int .i64)))))))) true, .v (.one (.sl 77 (.cons (.int .i64) (.cons (.int .i64) (.one (.int .i64)))))) false]
abbrev zbM : List OT := [⟨.one (.sl 95 (.cons (.sl 126 (.cons (.int .i64) (.cons (.int .i64) (.cons (.int .i64) (.one (.sl 4 (.one .bool))))))) (.one (.sl 73 (.cons (.int .i64) (.one (.int .i64))))))), true, []⟩, ⟨.one (.int .i64), false, []⟩]
set_option maxRecDepth 100000
noncomputable def z0B : List (List (Int × Int × Int × List Bool) × List (Int × Int)) → List (Int × Int × Int) → Option (List (List (Int × Int × Int × List Bool) × List (Int × Int)) × Int) := fun a b => z6 (yP a) fun y => ifB (neI y 0) (some ([], y)) (ifB (gtI (lenI b) 10) (some ([], 2)) (z6 (YC a) fun y => z6 (four y) fun (y : (List (Int × Int × Int × List Bool) × List (Int × Int)) × (List (Int × Int × Int × List Bool) × List (Int × Int)) × (List (Int × Int × Int × List Bool) × List (Int × Int)) × List (Int × Int × Int × List Bool) × List (Int × Int)) => z6 (Ze y.1.1) fun y_1 => z6 (Zq y.1.2) fun y_2 => zk maxR (fun (x : Int × List (Int × Int × Int × List Bool)) => ifB (ltI x.1 (lenI y.1.1)) (z6 (atI y.1.1 x.1) fun y => z6 (zS (y.1, y.2.1, y.2.2.1, y.2.2.2)) fun y => ifB (ltL x.1 x.2) (z6 (atN x.2 (natI x.1)) fun y_3 => some (Sum.inl (wadd .i64 x.1 1, setN x.2 (natI x.1) (y.1, y.2.1, y.2.2.1, y.2.2.2)))) none) (mapO Sum.inr (z6 (Ze y.2.1.1) fun y_3 => z6 (Zq y.2.1.2) fun y_4 => zk maxR (fun (x_1 : Int × List (Int × Int × Int × List Bool)) => ifB (ltI x_1.1 (lenI y.2.1.1)) (z6 (atI y.2.1.1 x_1.1) fun y => z6 (zS (y.1, y.2.1, y.2.2.1, y.2.2.2)) fun y => ifB (ltL x_1.1 x_1.2) (z6 (atN x_1.2 (natI x_1.1)) fun y_5 => some (Sum.inl (wadd .i64 x_1.1 1, setN x_1.2 (natI x_1.1) (y.1, y.2.1, y.2.2.1, y.2.2.2)))) none) (mapO Sum.inr (z6 (Ze y.2.2.1.1) fun y_5 => z6 (Zq y.2.2.1.2) fun y_6 => zk maxR (fun (x_2 : Int × List (Int × Int × Int × List Bool)) => ifB (ltI x_2.1 (lenI y.2.2.1.1)) (z6 (atI y.2.2.1.1 x_2.1) fun y => z6 (zS (y.1, y.2.1, y.2.2.1, y.2.2.2)) fun y => ifB (ltL x_2.1 x_2.2) (z6 (atN x_2.2 (natI x_2.1)) fun y_7 => some (Sum.inl (wadd .i64 x_2.1 1, setN x_2.2 (natI x_2.1) (y.1, y.2.1, y.2.2.1, y.2.2.2)))) none) (mapO Sum.inr (z6 (Ze y.2.2.2.1) fun y_7 => z6 (Zq y.2.2.2.2) fun y_8 => zk maxR (fun (x_3 : Int × List (Int × Int × Int × List Bool)) => ifB (ltI x_3.1 (lenI y.2.2.2.1)) (z6 (atI y.2.2.2.1 x_3.1) fun y => z6 (zS (y.1, y.2.1, y.2.2.1, y.2.2.2)) fun y => ifB (ltL x_3.1 x_3.2) (z6 (atN x_3.2 (natI x_3.1)) fun y_9 => some (Sum.inl (wadd .i64 x_3.1 1, setN x_3.2 (natI x_3.1) (y.1, y.2.1, y.2.2.1, y.2.2.2)))) none) (mapO Sum.inr (zk maxR (fun (x_4 : Int × List (Int × Int) × List (Int × Int) × List (Int × Int) × List (Int × Int)) => ifB (ltI x_4.1 (lenI b)) (z6 (atI b x_4.1) fun y => ifB (ltI y.1 0) (mapO Sum.inr (some ([], 5))) (ifB (geI y.1 4) (mapO Sum.inr (some ([], 5))) (ifB (eqI y.1 0) (ifB (zh 16 x_4.2.1 [(y.2.1, y.2.2)]) (z6 (yB (x.2, cat x_4.2.1 [(y.2.1, y.2.2)])) fun y_9 => ifB (neI y_9.2 0) (mapO Sum.inr (some ([], y_9.2))) (some (Sum.inl (wadd .i64 x_4.1 1, cat x_4.2.1 [(y.2.1, y.2.2)], x_4.2.2.1, x_4.2.2.2.1, x_4.2.2.2.2)))) none) (ifB (eqI y.1 1) (ifB (zh 16 x_4.2.2.1 [(y.2.1, y.2.2)]) (z6 (yB (x_1.2, cat x_4.2.2.1 [(y.2.1, y.2.2)])) fun y_9 => ifB (neI y_9.2 0) (mapO Sum.inr (some ([], y_9.2))) (some (Sum.inl (wadd .i64 x_4.1 1, x_4.2.1, cat x_4.2.2.1 [(y.2.1, y.2.2)], x_4.2.2.2.1, x_4.2.2.2.2)))) none) (ifB (eqI y.1 2) (ifB (zh 16 x_4.2.2.2.1 [(y.2.1, y.2.2)]) (z6 (yB (x_2.2, cat x_4.2.2.2.1 [(y.2.1, y.2.2)])) fun y_9 => ifB (neI y_9.2 0) (mapO Sum.inr (some ([], y_9.2))) (some (Sum.inl (wadd .i64 x_4.1 1, x_4.2.1, x_4.2.2.1, cat x_4.2.2.2.1 [(y.2.1, y.2.2)], x_4.2.2.2.2)))) none) (ifB (eqI y.1 3) (ifB (zh 16 x_4.2.2.2.2 [(y.2.1, y.2.2)]) (z6 (yB (x_3.2, cat x_4.2.2.2.2 [(y.2.1, y.2.2)])) fun y_9 => ifB (neI y_9.2 0) (mapO Sum.inr (some ([], y_9.2))) (some (Sum.inl (wadd .i64 x_4.1 1, x_4.2.1, x_4.2.2.1, x_4.2.2.2.1, cat x_4.2.2.2.2 [(y.2.1, y.2.2)])))) none) none)))))) (mapO Sum.inr (some ([(x.2, x_4.2.1), (x_1.2, x_4.2.2.1), (x_2.2, x_4.2.2.2.1), (x_3.2, x_4.2.2.2.2)], 0)))) (0, y_2, y_4, y_6, y_8)))) (0, y_7)))) (0, y_5)))) (0, y_3)))) (0, y_1)))
theorem zi3 (x : PI z62) : z0B (x.1) (x.2) = fnE T zel zem zek (zo Tryz.f80) z62 zbM x := by kernel_rfl
noncomputable abbrev zen : GS := zp false z62 zbM fun x => z0B (x.1) (x.2)
theorem zi4 : GSOK Tryz.prog 80 zen := zm tok znR fmo (Ht := zem) (fn := Tryz.f80) (Tryz.func80) (c := zek) (by kernel_rfl) (by kernel_rfl) (by kernel_rfl) (by decide +kernel) (by decide) zi3
end Go.Proofs.Y
namespace Go.Proofs.Y
open Go.Rb Go.Kx
noncomputable def zgm : Code := zg Tryz.f183
noncomputable def zgn : FuncId → Option GS := tabG []
theorem zpO : ΓOK Tryz.prog zgn := ze
def zgo : HT := ⟨tabL [], tabH []⟩
abbrev z8c : List IT := [.v (.one (.int .i64)) false]
abbrev zeo : List OT := [⟨.one (.int .i64), false, []⟩]
set_option maxRecDepth 100000
noncomputable def z2r : Int → Option Int := fun a => ifB (ltI a 0) (some (wsub .i64 (wmul .i64 (-2) a) 1)) (some (wmul .i64 2 a))
theorem zke (x : PI z8c) : z2r x = fnE T zgn zgo zgm (zo Tryz.f183) z8c zeo x := by kernel_rfl
noncomputable abbrev zgp : GS := zp false z8c zeo fun x => z2r x
theorem zkf : GSOK Tryz.prog 183 zgp := zm tok zpO fmo (Ht := zgo) (fn := Tryz.f183) (Tryz.func183) (c := zgm) (by kernel_rfl) (by kernel_rfl) (by kernel_rfl) (by decide +kernel) (by decide) zke
end Go.Proofs.Y
namespace Go.Proofs.Y
open Go.Rb Go.Kx
noncomputable def zgq : Code := zg Tryz.f184
noncomputable def zgr : FuncId → Option GS := tabG [(162, z9M)]
theorem zpP : ΓOK Tryz.prog zgr := z8 (z82) (ze)
def zgs : HT := ⟨tabL [(5, .it [] (dyn [.a 0 4 (.one .bool), .t 8 (.int .i64)]))], tabH []⟩
abbrev z8d : List IT := [.v (.one (.sl 4 (.one .bool))) false, .v (.one (.int .i64)) false, .v (.one (.int .i64)) false]
abbrev zep : List OT := [⟨.one (.sl 4 (.one .bool)), false, []⟩, ⟨.one (.int .i64), false, []⟩]
set_option maxRecDepth 100000
noncomputable def Js : List Bool → Int → Int → Option (List Bool × Int) := fun a b c => ifB (ltI c 0) (some ([], 3)) (ifB (gtI c 40) (some ([], 3)) (ifB (ltI b 0) (some ([], 3)) (ifB (ltI c 0) none (ifB (neI (wshr .i64 b c) 0) (some ([], 3)) (z6 (z0Z a) fun y => zk maxR (fun (x : Int × List Bool) => ifB (geI x.1 0) (ifB (ltI x.1 0) none (ifB (zh 1 x.2 [eqI (wand .i64 (wshr .i64 b x.1) 1) 1]) (some (Sum.inl (wsub .i64 x.1 1, cat x.2 [eqI (wand .i64 (wshr .i64 b x.1) 1) 1]))) none)) (mapO Sum.inr (some (x.2, 0)))) (wsub .i64 c 1, y))))))
theorem zkg (x : PI z8d) : Js (x.1) (x.2.1) (x.2.2) = fnE T zgr zgs zgq (zo Tryz.f184) z8d zep x := by kernel_rfl
noncomputable abbrev zgt : GS := zp false z8d zep fun x => Js (x.1) (x.2.1) (x.2.2)
theorem zkh : GSOK Tryz.prog 184 zgt := zm tok zpP fmo (Ht := zgs) (fn := Tryz.f184) (Tryz.func184) (c := zgq) (by kernel_rfl) (by kernel_rfl) (by kernel_rfl) (by decide +kernel) (by decide) zkg
end Go.Proofs.Y
namespace Go.Proofs.Y
open Go.Rb Go.Kx
noncomputable def zj4 : Code := zg Tryz.f168
noncomputable def zj5 : FuncId → Option GS := tabG [(183, zgp), (184, zgt)]
theorem zr5 : ΓOK Tryz.prog zj5 := z8 (zkf) (z8 (zkh) (ze))
def zj6 : HT := ⟨tabL [(4, .it [] (dyn [.t 0 (.sl 4 (.one .bool)), .t 6 (.int .i64)]))], tabH []⟩
abbrev z9S : List IT := [.v (.one (.sl 4 (.one .bool))) false, .v (.one (.int .i64)) false]
abbrev zgu : List OT := [⟨.one (.sl 4 (.one .bool)), false, []⟩, ⟨.one (.int .i64), false, []⟩]
set_option maxRecDepth 100000
noncomputable def z1r : List Bool → Int → Option (List Bool × Int) := fun a b => ifB (ltI b (-4000000)) (some ([], 3)) (ifB (gtI b 4000000) (some ([], 3)) (z6 (z2r b) fun y => zk maxR (fun (x : List Bool × Int) => ifB (geI x.2 8) (z6 (Js x.1 (wadd .i64 8 (wrem x.2 8)) 4) fun y => some (Sum.inl (y.1, wquo .i64 x.2 8))) (z6 (Js x.1 (wadd .i64 0 (wrem x.2 8)) 4) fun y => mapO Sum.inr (some (y.1, 0)))) (a, y)))
theorem zlO (x : PI z9S) : z1r (x.1) (x.2) = fnE T zj5 zj6 zj4 (zo Tryz.f168) z9S zgu x := by kernel_rfl
noncomputable abbrev zj7 : GS := zp false z9S zgu fun x => z1r (x.1) (x.2)
theorem zlP : GSOK Tryz.prog 168 zj7 := zm tok zr5 fmo (Ht := zj6) (fn := Tryz.f168) (Tryz.func168) (c := zj4) (by kernel_rfl) (by kernel_rfl) (by kernel_rfl) (by decide +kernel) (by decide) zlO
end Go.Proofs.Y
namespace Go.Proofs.Y
open Go.Rb Go.Kx
noncomputable def zeq : Code := zg Tryz.f145
noncomputable def zer : FuncId → Option GS := tabG [(50, z5Z), (168, zj7)]
theorem znS : ΓOK Tryz.prog zer := z8 (z7n) (z8 (zlP) (ze))
def zes : HT := ⟨tabL [(8, .it [] (dyn [.t 5 (.sl 4 (.one .bool)), .t 7 (.int .i64), .t 17 (.int .i64), .c 6 0 (.int .i64), .c 6 1 (.int .i64)]))], tabH []⟩
abbrev z63 : List IT := [.v (.one (.sl 73 (.cons (.int .i64) (.one (.int .i64))))) false]
abbrev zbN : List OT := [⟨.one (.sl 4 (.one .bool)), false, []⟩, ⟨.one (.int .i64), false, []⟩]
set_option maxRecDepth 100000
noncomputable def z0C : List (Int × Int) → Option (List Bool × Int) := fun a => z6 (YR a) fun y => ifB (neI y 0) (some ([], y)) (zk maxR (fun (x : List Bool × Int × Int × Int × Int) => ifB (ltI x.2.2.1 (lenI a)) (z6 (atI a x.2.2.1) fun y => z6 (z1r x.1 (wsub .i64 (wsub .i64 y.1 x.2.2.2.1) x.2.1)) fun y_1 => z6 (z1r y_1.1 (wsub .i64 y.2 x.2.2.2.2)) fun y_2 => some (Sum.inl (y_2.1, wsub .i64 y.1 x.2.2.2.1, wadd .i64 x.2.2.1 1, y.1, y.2))) (mapO Sum.inr (some (x.1, 0)))) ([], 0, 0, 0, 0))
theorem zi5 (x : PI z63) : z0C x = fnE T zer zes zeq (zo Tryz.f145) z63 zbN x := by kernel_rfl
noncomputable abbrev zet : GS := zp false z63 zbN fun x => z0C x
theorem zi6 : GSOK Tryz.prog 145 zet := zm tok znS fmo (Ht := zes) (fn := Tryz.f145) (Tryz.func145) (c := zeq) (by kernel_rfl) (by kernel_rfl) (by kernel_rfl) (by decide +kernel) (by decide) zi5
end Go.Proofs.Y
namespace Go.Proofs.Y
open Go.Rb Go.Kx
noncomputable def zbO : Code := zg Tryz.f114
noncomputable def zbP : FuncId → Option GS := tabG [(145, zet)]
theorem zlQ : ΓOK Tryz.prog zbP := z8 (zi6) (ze)
def zbQ : HT := ⟨tabL [], tabH []⟩
abbrev z4j : List IT := [.v (.one (.sl 73 (.cons (.int .i64) (.one (.int .i64))))) false]
abbrev zaq : List OT := [⟨.cons (.int .i64) (.cons (.int .i64) (.cons (.int .i64) (.one (.sl 4 (.one .bool))))), true, []⟩, ⟨.one (.int .i64), false, []⟩]
set_option maxRecDepth 100000
noncomputable def Y7 : List (Int × Int) → Option ((Int × Int × Int × List Bool) × Int) := fun a => z6 (z0C a) fun y => ifB (neI y.2 0) (some ((0, 0, 0, []), y.2)) (ifB (eqI (lenI a) 0) (some ((0, 0, 0, []), 4)) (z6 (atI a 0) fun y_1 => z6 (atI a (wsub .i64 (lenI a) 1)) fun y_2 => some ((lenI a, y_1.1, y_2.1, y.1), 0)))
theorem zgv (x : PI z4j) : Y7 x = fnE T zbP zbQ zbO (zo Tryz.f114) z4j zaq x := by kernel_rfl
noncomputable abbrev z64 : GS := zp false z4j zaq fun x => Y7 x
theorem z7q : GSOK Tryz.prog 114 z64 := zm tok zlQ fmo (Ht := zbQ) (fn := Tryz.f114) (Tryz.func114) (c := zbO) (by kernel_rfl) (by kernel_rfl) (by kernel_rfl) (by decide +kernel) (by decide) zgv
end Go.Proofs.Y
namespace Go.Proofs.Y
open Go.Rb Go.Kx
noncomputable def zbR : Code := zg Tryz.f81
noncomputable def zbS : FuncId → Option GS := tabG [(78, YV), (107, jT), (114, z64)]
theorem zlR : ΓOK Tryz.prog zbS := z8 (YK) (z8 (jo) (z8 (z7q) (ze)))
def zbT : HT := ⟨tabL [], tabH [(16, [.frzq 3 0 0, .frzq 3 0 1, .frzq 3 0 2, .frzq 3 0 3, .frzq 3 0 4, .frzq 3 0 5, .frzq 3 0 6, .frzq 3 0 7, .pack 3 0 (.cons (.sl 126 (.cons (.int .i64) (.cons (.int .i64) (.cons (.int .i64) (.one (.sl 4 (.one .bool))))))) (.one (.sl 73 (.cons (.int .i64) (.one (.int .i64))))))])]⟩
abbrev z4k : List IT := [.v (.one (.sl 95 (.cons (.sl 126 (.cons (.int .i64) (.cons (.int .i64) (.cons (.int .i64) (.one (.sl 4 (.one .bool))))))) (.one (.sl 73 (.cons (.int .i64) (.one (.int .i64)))))))) true, .v (.one (.int .i64)) false, .v (.one (.int .i64)) false]
abbrev zar : List OT := [⟨.one (.sl 95 (.cons (.sl 126 (.cons (.int .i64) (.cons (.int .i64) (.cons (.int .i64) (.one (.sl 4 (.one .bool))))))) (.one (.sl 73 (.cons (.int .i64) (.one (.int .i64))))))), true, []⟩, ⟨.one (.int .i64), false, []⟩]
set_option maxRecDepth 100000
noncomputable def jU : List (List (Int × Int × Int × List Bool) × List (Int × Int)) → Int → Int → Option (List (List (Int × Int × Int × List Bool) × List (Int × Int)) × Int) := fun a b c => z6 (yP a) fun y => ifB (neI y 0) (some ([], y)) (ifB (ltI b 0) (some ([], 5)) (ifB (geI b (lenI a)) (some ([], 5)) (z6 (YC a) fun y => z6 (four y) fun (y : (List (Int × Int × Int × List Bool) × List (Int × Int)) × (List (Int × Int × Int × List Bool) × List (Int × Int)) × (List (Int × Int × Int × List Bool) × List (Int × Int)) × List (Int × Int × Int × List Bool) × List (Int × Int)) => z6 (Ze y.1.1) fun y_1 => z6 (Zq y.1.2) fun y_2 => zk maxR (fun (x : Int × List (Int × Int × Int × List Bool)) => ifB (ltI x.1 (lenI y.1.1)) (z6 (atI y.1.1 x.1) fun y => z6 (zS (y.1, y.2.1, y.2.2.1, y.2.2.2)) fun y => ifB (ltL x.1 x.2) (z6 (atN x.2 (natI x.1)) fun y_3 => some (Sum.inl (wadd .i64 x.1 1, setN x.2 (natI x.1) (y.1, y.2.1, y.2.2.1, y.2.2.2)))) none) (mapO Sum.inr (z6 (Ze y.2.1.1) fun y_3 => z6 (Zq y.2.1.2) fun y_4 => zk maxR (fun (x_1 : Int × List (Int × Int × Int × List Bool)) => ifB (ltI x_1.1 (lenI y.2.1.1)) (z6 (atI y.2.1.1 x_1.1) fun y => z6 (zS (y.1, y.2.1, y.2.2.1, y.2.2.2)) fun y => ifB (ltL x_1.1 x_1.2) (z6 (atN x_1.2 (natI x_1.1)) fun y_5 => some (Sum.inl (wadd .i64 x_1.1 1, setN x_1.2 (natI x_1.1) (y.1, y.2.1, y.2.2.1, y.2.2.2)))) none) (mapO Sum.inr (z6 (Ze y.2.2.1.1) fun y_5 => z6 (Zq y.2.2.1.2) fun y_6 => zk maxR (fun (x_2 : Int × List (Int × Int × Int × List Bool)) => ifB (ltI x_2.1 (lenI y.2.2.1.1)) (z6 (atI y.2.2.1.1 x_2.1) fun y => z6 (zS (y.1, y.2.1, y.2.2.1, y.2.2.2)) fun y => ifB (ltL x_2.1 x_2.2) (z6 (atN x_2.2 (natI x_2.1)) fun y_7 => some (Sum.inl (wadd .i64 x_2.1 1, setN x_2.2 (natI x_2.1) (y.1, y.2.1, y.2.2.1, y.2.2.2)))) none) (mapO Sum.inr (z6 (Ze y.2.2.2.1) fun y_7 => z6 (Zq y.2.2.2.2) fun y_8 => zk maxR (fun (x_3 : Int × List (Int × Int × Int × List Bool)) => ifB (ltI x_3.1 (lenI y.2.2.2.1)) (z6 (atI y.2.2.2.1 x_3.1) fun y => z6 (zS (y.1, y.2.1, y.2.2.1, y.2.2.2)) fun y => ifB (ltL x_3.1 x_3.2) (z6 (atN x_3.2 (natI x_3.1)) fun y_9 => some (Sum.inl (wadd .i64 x_3.1 1, setN x_3.2 (natI x_3.1) (y.1, y.2.1, y.2.2.1, y.2.2.2)))) none) (mapO Sum.inr (ifB (eqI b 0) (ifB (ltI c 1) (some ([], 3)) (ifB (gtI c (lenI y_2)) (some ([], 3)) (ifB (eqI (lenI x.2) 8) (some ([], 2)) (ifB (in1 y_2 c) (ifB (inN y_2 0 (natI c)) (z6 (Y7 (subN y_2 0 (natI c))) fun y => ifB (neI y.2 0) (some ([], y.2)) (ifB (zh 48 x.2 [(y.1.1, y.1.2.1, y.1.2.2.1, y.1.2.2.2)]) (ifB (in1 y_2 c) (some ([(cat x.2 [(y.1.1, y.1.2.1, y.1.2.2.1, y.1.2.2.2)], yF y_2 c), (x_1.2, y_4), (x_2.2, y_6), (x_3.2, y_8)], 0)) none) none)) none) none)))) (ifB (eqI b 1) (ifB (ltI c 1) (some ([], 3)) (ifB (gtI c (lenI y_4)) (some ([], 3)) (ifB (eqI (lenI x_1.2) 8) (some ([], 2)) (ifB (in1 y_4 c) (ifB (inN y_4 0 (natI c)) (z6 (Y7 (subN y_4 0 (natI c))) fun y => ifB (neI y.2 0) (some ([], y.2)) (ifB (zh 48 x_1.2 [(y.1.1, y.1.2.1, y.1.2.2.1, y.1.2.2.2)]) (ifB (in1 y_4 c) (some ([(x.2, y_2), (cat x_1.2 [(y.1.1, y.1.2.1, y.1.2.2.1, y.1.2.2.2)], yF y_4 c), (x_2.2, y_6), (x_3.2, y_8)], 0)) none) none)) none) none)))) (ifB (eqI b 2) (ifB (ltI c 1) (some ([], 3)) (ifB (gtI c (lenI y_6)) (some ([], 3)) (ifB (eqI (lenI x_2.2) 8) (some ([], 2)) (ifB (in1 y_6 c) (ifB (inN y_6 0 (natI c)) (z6 (Y7 (subN y_6 0 (natI c))) fun y => ifB (neI y.2 0) (some ([], y.2)) (ifB (zh 48 x_2.2 [(y.1.1, y.1.2.1, y.1.2.2.1, y.1.2.2.2)]) (ifB (in1 y_6 c) (some ([(x.2, y_2), (x_1.2, y_4), (cat x_2.2 [(y.1.1, y.1.2.1, y.1.2.2.1, y.1.2.2.2)], yF y_6 c), (x_3.2, y_8)], 0)) none) none)) none) none)))) (ifB (eqI b 3) (ifB (ltI c 1) (some ([], 3)) (ifB (gtI c (lenI y_8)) (some ([], 3)) (ifB (eqI (lenI x_3.2) 8) (some ([], 2)) (ifB (in1 y_8 c) (ifB (inN y_8 0 (natI c)) (z6 (Y7 (subN y_8 0 (natI c))) fun y => ifB (neI y.2 0) (some ([], y.2)) (ifB (zh 48 x_3.2 [(y.1.1, y.1.2.1, y.1.2.2.1, y.1.2.2.2)]) (ifB (in1 y_8 c) (some ([(x.2, y_2), (x_1.2, y_4), (x_2.2, y_6), (cat x_3.2 [(y.1.1, y.1.2.1, y.1.2.2.1, y.1.2.2.2)], yF y_8 c)], 0)) none) none)) none) none)))) none)))))) (0, y_7)))) (0, y_5)))) (0, y_3)))) (0, y_1))))
theorem zgw (x : PI z4k) : jU (x.1) (x.2.1) (x.2.2) = fnE T zbS zbT zbR (zo Tryz.f81) z4k zar x := by kernel_rfl
noncomputable abbrev zbU : GS := zp false z4k zar fun x => jU (x.1) (x.2.1) (x.2.2)
theorem zgx : GSOK Tryz.prog 81 zbU := zm tok zlR fmo (Ht := zbT) (fn := Tryz.f81) (Tryz.func81) (c := zbR) (by kernel_rfl) (by kernel_rfl) (by kernel_rfl) (by decide +kernel) (by decide) zgw
end Go.Proofs.Y
namespace Go.Proofs.Y
open Go.Rb Go.Kx
noncomputable def zoR : Code := zg Tryz.f169
noncomputable def zoS : FuncId → Option GS := tabG []
theorem zug : ΓOK Tryz.prog zoS := ze
def zoT : HT := ⟨tabL [], tabH []⟩
noncomputable def zoU : GS := inl T zoS zoT zoR (zo Tryz.f169) (Tryz.f169.ntmps)
theorem zpQ : GSOK Tryz.prog 169 zoU := yV tok zug fmo (Ht := zoT) (fn := Tryz.f169) (Tryz.func169) (c := zoR) (by kernel_rfl) (by kernel_rfl) (by kernel_rfl)
end Go.Proofs.Y
namespace Go.Proofs.Y
open Go.Rb Go.Kx
noncomputable def zj8 : Code := zg Tryz.f146
noncomputable def zj9 : FuncId → Option GS := tabG [(169, zoU)]
theorem zr6 : ΓOK Tryz.prog zj9 := z8 (zpQ) (ze)
def zja : HT := ⟨tabL [(3, .it [] (dyn [.t 3 (.int .i64), .t 11 (.int .i64)])), (11, .it [] (dyn [.a 6 73 (.cons (.int .i64) (.one (.int .i64))), .t 27 (.int .i64)]))], tabH [(10, [.trim 6])]⟩
abbrev z9T : List IT := [.v (.one (.sl 65 (.one (.sl 73 (.cons (.int .i64) (.one (.int .i64))))))) false]
abbrev zgy : List OT := [⟨.one (.sl 73 (.cons (.int .i64) (.one (.int .i64)))), false, []⟩]
set_option maxRecDepth 100000
noncomputable def z7r : List (List (Int × Int)) → Option (List (Int × Int)) := fun a => zk maxR (fun (x : Int × Int) => ifB (ltI x.2 (lenI a)) (z6 (atI a x.2) fun y => ifB (ltI (wadd .i64 x.1 (lenI y)) 0) none (some (Sum.inl (wadd .i64 x.1 (lenI y), wadd .i64 x.2 1)))) (mapO Sum.inr (ifB (ltI x.1 0) none (ifB (gtI (wsub .i64 x.1 (wsub .i64 0 0)) 0) (ifB (z1T 16 (wsub .i64 x.1 (wsub .i64 0 0))) (ifB (in1 (repI (wsub .i64 x.1 (wsub .i64 0 0)) (0, 0)) 0) (ifB (inN (repI (wsub .i64 x.1 (wsub .i64 0 0)) (0, 0)) 0 (natI 0)) (zk maxR (fun (x : Int × List (Int × Int)) => ifB (ltI x.1 (lenI a)) (z6 (atI a x.1) fun y => ifB (zh 16 x.2 y) (some (Sum.inl (wadd .i64 x.1 1, cat x.2 y))) none) (mapO Sum.inr (some x.2))) (0, subN (repI (wsub .i64 x.1 (wsub .i64 0 0)) (0, 0)) 0 (natI 0))) none) none) none) (zk maxR (fun (x : Int × List (Int × Int)) => ifB (ltI x.1 (lenI a)) (z6 (atI a x.1) fun y => ifB (zh 16 x.2 y) (some (Sum.inl (wadd .i64 x.1 1, cat x.2 y))) none) (mapO Sum.inr (some x.2))) (0, [])))))) (0, 0)
theorem zlS (x : PI z9T) : z7r x = fnE T zj9 zja zj8 (zo Tryz.f146) z9T zgy x := by kernel_rfl
noncomputable abbrev zjb : GS := zp false z9T zgy fun x => z7r x
theorem zlT : GSOK Tryz.prog 146 zjb := zm tok zr6 fmo (Ht := zja) (fn := Tryz.f146) (Tryz.func146) (c := zj8) (by kernel_rfl) (by kernel_rfl) (by kernel_rfl) (by decide +kernel) (by decide) zlS
end Go.Proofs.Y
namespace Go.Proofs.Y
open Go.Rb Go.Kx
noncomputable def zas : Code := zg Tryz.f115
noncomputable def zat : FuncId → Option GS := tabG [(126, z3g), (146, zjb), (114, z64)]
theorem zki : ΓOK Tryz.prog zat := z8 (z4L) (z8 (zlT) (z8 (z7q) (ze)))
def zau : HT := ⟨tabL [], tabH []⟩
abbrev z3i : List IT := [.v (.cons (.int .i64) (.cons (.int .i64) (.cons (.int .i64) (.one (.sl 4 (.one .bool)))))) true, .v (.cons (.int .i64) (.cons (.int .i64) (.cons (.int .i64) (.one (.sl 4 (.one .bool)))))) true]
abbrev z8V : List OT := [⟨.cons (.int .i64) (.cons (.int .i64) (.cons (.int .i64) (.one (.sl 4 (.one .bool))))), true, []⟩, ⟨.one (.int .i64), false, []⟩]
set_option maxRecDepth 100000
noncomputable def Yd : Int × Int × Int × List Bool → Int × Int × Int × List Bool → Option ((Int × Int × Int × List Bool) × Int) := fun a b => z6 (YJ (a.1, a.2.1, a.2.2.1, a.2.2.2)) fun y => ifB (neI y.2 0) (some ((0, 0, 0, []), y.2)) (z6 (YJ (b.1, b.2.1, b.2.2.1, b.2.2.2)) fun y_1 => ifB (neI y_1.2 0) (some ((0, 0, 0, []), y_1.2)) (z6 (z7r [y.1, y_1.1]) fun y => z6 (Y7 y) fun y => some ((y.1.1, y.1.2.1, y.1.2.2.1, y.1.2.2.2), y.2)))
theorem zfd (x : PI z3i) : Yd (x.1) (x.2) = fnE T zat zau zas (zo Tryz.f115) z3i z8V x := by kernel_rfl
noncomputable abbrev zav : GS := zp false z3i z8V fun x => Yd (x.1) (x.2)
theorem zfe : GSOK Tryz.prog 115 zav := zm tok zki fmo (Ht := zau) (fn := Tryz.f115) (Tryz.func115) (c := zas) (by kernel_rfl) (by kernel_rfl) (by kernel_rfl) (by decide +kernel) (by decide) zfd
end Go.Proofs.Y
namespace Go.Proofs.Y
open Go.Rb Go.Kx
noncomputable def zjc : Code := zg Tryz.f116
noncomputable def zjd : FuncId → Option GS := tabG []
theorem zr7 : ΓOK Tryz.prog zjd := ze
def zje : HT := ⟨tabL [], tabH []⟩
abbrev z9U : List WA := [.d (.int .i64), .d (.int .i64)]
abbrev zgz : List OT := [⟨.one (.sl 126 (.cons (.int .i64) (.cons (.int .i64) (.cons (.int .i64) (.one (.sl 4 (.one .bool))))))), false, []⟩]
set_option maxRecDepth 100000
noncomputable def vZ : List (Int × Int × Int × List Bool) → Int → Int → Option (List (Int × Int × Int × List Bool)) := fun a b c => ifB (ifB (in2 a b c) (eqI (lenI a) (lenI a)) false) (ifB (eqI b c) (some a) (ifB (in1 a b) (ifB (in1 a c) (ifB (inN a (addN 0 (natI c)) (Zh (lenN a) c)) (ifB (inN a (addN 0 (natI b)) (lenN (subN a (addN 0 (natI c)) (Zh (lenN a) c)))) (ifB (in2C (addN (natI b) (lenN (subN a (addN 0 (natI c)) (Zh (lenN a) c)))) (capN (lenN (zK a (addN 0 (natI b)) (subN a (addN 0 (natI c)) (Zh (lenN a) c)))) 0) (intN (addN (natI b) (lenN (subN a (addN 0 (natI c)) (Zh (lenN a) c))))) (lenI a)) (ifB (inN (zK a (addN 0 (natI b)) (subN a (addN 0 (natI c)) (Zh (lenN a) c))) (addN 0 (natI (intN (addN (natI b) (lenN (subN a (addN 0 (natI c)) (Zh (lenN a) c))))))) (subI (intN (addN (natI b) (lenN (subN a (addN 0 (natI c)) (Zh (lenN a) c))))) (lenI a))) (ifB (inN (zK (zK a (addN 0 (natI b)) (subN a (addN 0 (natI c)) (Zh (lenN a) c))) (addN 0 (natI (intN (addN (natI b) (lenN (subN a (addN 0 (natI c)) (Zh (lenN a) c))))))) (repN (subI (intN (addN (natI b) (lenN (subN a (addN 0 (natI c)) (Zh (lenN a) c))))) (lenI a)) (0, 0, 0, []))) 0 (addN (natI b) (lenN (subN a (addN 0 (natI c)) (Zh (lenN a) c))))) (some (subN (zK (zK a (addN 0 (natI b)) (subN a (addN 0 (natI c)) (Zh (lenN a) c))) (addN 0 (natI (intN (addN (natI b) (lenN (subN a (addN 0 (natI c)) (Zh (lenN a) c))))))) (repN (subI (intN (addN (natI b) (lenN (subN a (addN 0 (natI c)) (Zh (lenN a) c))))) (lenI a)) (0, 0, 0, []))) 0 (addN (natI b) (lenN (subN a (addN 0 (natI c)) (Zh (lenN a) c)))))) none) none) none) none) none) none) none)) none
theorem zlU (rows : List (DenR (.cons (.int .i64) (.cons (.int .i64) (.cons (.int .i64) (.one (.sl 4 (.one .bool)))))))) (x : PW z9U) : vZ rows (x.1) (x.2.1) = fnM T zjd zje zjc (zo Tryz.f116) 126 (.cons (.int .i64) (.cons (.int .i64) (.cons (.int .i64) (.one (.sl 4 (.one .bool)))))) z9U zgz rows x := by kernel_rfl
noncomputable abbrev zjf : GS := zqy 126 (.cons (.int .i64) (.cons (.int .i64) (.cons (.int .i64) (.one (.sl 4 (.one .bool)))))) z9U zgz fun rows x => vZ rows (x.1) (x.2.1)
theorem zlV : GSOK Tryz.prog 116 zjf := zoM tok zr7 fmo (Ht := zje) (fn := Tryz.f116) (Tryz.func116) (c := zjc) (by kernel_rfl) (by kernel_rfl) (by kernel_rfl) (by decide +kernel) (by decide) zlU
end Go.Proofs.Y
