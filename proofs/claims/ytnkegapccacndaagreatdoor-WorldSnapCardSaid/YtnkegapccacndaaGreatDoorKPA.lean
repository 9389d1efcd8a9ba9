/-
  What is proved, part by part: facts on the types of the program. what rainbookref.FreshShelf comes to. what note.Check comes to. what rainbookref.in comes to. what rainbookref.CheckPoint comes to. what rainbookref.CheckRec comes to. what slices.Clone[[]api.Row,api.Row] comes to. what slices.Clone[[]api.Point,api.Point] comes to. what rainbookref.Decoded comes to. what rainbookref.UnpackedOf comes to. what rainbookref.PointsOf comes to. what rainbookref.CheckPoints comes to. what rainbookref.RowPoints comes to. what rainbookref.PutAll comes to. what slices.Clone[[]bool,bool] comes to. what rainbookref.Coded comes to. what rainbookref.PackedOf comes to. what rainbookref.BlockOf comes to. what slices.Clone[[]api.Block,api.Block] comes to. what rainbookref.Sealed comes to. what rainbookref.Merged comes to. what slices.Grow[[]api.Block,api.Block] comes to. what slices.Concat[[]api.Block,api.Block] comes to. what rainbookref.MergedRow comes to. what rainbookref.Dropped comes to. what rainbookref.nexted comes to. what rainbookref.ShelfOf comes to. what bits.Read comes to. what zig.Read comes to. what line.Check comes to. what line.Unpack comes to. what block.Points comes to. what shelf.all comes to. what shelf.Check comes to. what block.Copy comes to. what shelf.Copy comes to. what shelf.Put comes to. what zig.fold comes to. what bits.Put comes to. what zig.Put comes to. what line.Pack comes to. what block.Make comes to. what shelf.Seal comes to. what slices.Grow[[]api.Point,api.Point] comes to. what slices.Concat[[]api.Point,api.Point] comes to. what block.Merge comes to. what slices.Delete[[]api.Block,api.Block] comes to. Conditions: none.
-/
import Derived.Test.YtnkegapccacndaaGreatDoorKED
import Derived.Test.YtnkegapccacndaaGreatDoorProg
import Derived.KernelRfl
set_option linter.unusedVariables false
set_option linter.unusedSimpArgs false
set_option linter.unnecessarySimpa false
set_option maxRecDepth 4000
namespace Go.Proofs.Y
open Go.Rb Go.Kx
theorem okT2 : OkTD Tryz.prog 2 ⟨.int .i64, 1, 8, some (.one (.int .i64))⟩ := ⟨⟨by kernel_rfl, by kernel_rfl, by kernel_rfl⟩, Tryz.underlying2, ⟨by kernel_rfl, by kernel_rfl⟩, trivial⟩
theorem okT3 : OkTD Tryz.prog 3 ⟨.int .i64, 1, 8, some (.one (.int .i64))⟩ := ⟨⟨by kernel_rfl, by kernel_rfl, by kernel_rfl⟩, Tryz.underlying3, ⟨by kernel_rfl, by kernel_rfl⟩, trivial⟩
theorem okT4 : OkTD Tryz.prog 4 ⟨.bool, 1, 1, some (.one .bool)⟩ := ⟨⟨by kernel_rfl, by kernel_rfl, by kernel_rfl⟩, Tryz.underlying4, ⟨by kernel_rfl, by kernel_rfl⟩, trivial⟩
theorem okT5 : OkTD Tryz.prog 5 ⟨.int .u8, 1, 1, some (.one (.int .u8))⟩ := ⟨⟨by kernel_rfl, by kernel_rfl, by kernel_rfl⟩, Tryz.underlying5, ⟨by kernel_rfl, by kernel_rfl⟩, trivial⟩
theorem okT9 : OkTD Tryz.prog 9 ⟨.str, 1, 16, some (.one .str)⟩ := ⟨⟨by kernel_rfl, by kernel_rfl, by kernel_rfl⟩, Tryz.underlying9, ⟨by kernel_rfl, by kernel_rfl⟩, trivial⟩
theorem okT22 : OkTD Tryz.prog 22 ⟨.sl 95, 1, 24, some (.one (.sl 95 (.cons (.sl 126 (.cons (.int .i64) (.cons (.int .i64) (.cons (.int .i64) (.one (.sl 4 (.one .bool))))))) (.one (.sl 73 (.cons (.int .i64) (.one (.int .i64))))))))⟩ := ⟨⟨by kernel_rfl, by kernel_rfl, by kernel_rfl⟩, ⟨Tryz.underlying22, by kernel_rfl⟩, ⟨by kernel_rfl, by kernel_rfl⟩, trivial⟩
theorem okT24 : OkTD Tryz.prog 24 ⟨.st [(0, 1)], 1, 24, some (.one (.sl 95 (.cons (.sl 126 (.cons (.int .i64) (.cons (.int .i64) (.cons (.int .i64) (.one (.sl 4 (.one .bool))))))) (.one (.sl 73 (.cons (.int .i64) (.one (.int .i64))))))))⟩ := ⟨⟨by kernel_rfl, by kernel_rfl, by kernel_rfl⟩, ⟨_, Tryz.underlying24, by kernel_rfl, by kernel_rfl⟩, ⟨by kernel_rfl, by kernel_rfl⟩, fun h => absurd (by rfl) h⟩
theorem okT25 : OkTD Tryz.prog 25 ⟨.sl 5, 1, 24, some (.one (.sl 5 (.one (.int .u8))))⟩ := ⟨⟨by kernel_rfl, by kernel_rfl, by kernel_rfl⟩, ⟨Tryz.underlying25, by kernel_rfl⟩, ⟨by kernel_rfl, by kernel_rfl⟩, trivial⟩
theorem okT27 : OkTD Tryz.prog 27 ⟨.st [(0, 1), (1, 1)], 2, 48, some (.cons (.sl 5 (.one (.int .u8))) (.one (.sl 5 (.one (.int .u8)))))⟩ := ⟨⟨by kernel_rfl, by kernel_rfl, by kernel_rfl⟩, ⟨_, Tryz.underlying27, by kernel_rfl, by kernel_rfl⟩, ⟨by kernel_rfl, by kernel_rfl⟩, fun h => absurd (by rfl) h⟩
theorem okT28 : OkTD Tryz.prog 28 ⟨.sl 3, 1, 24, some (.one (.sl 3 (.one (.int .i64))))⟩ := ⟨⟨by kernel_rfl, by kernel_rfl, by kernel_rfl⟩, ⟨Tryz.underlying28, by kernel_rfl⟩, ⟨by kernel_rfl, by kernel_rfl⟩, trivial⟩
theorem okT30 : OkTD Tryz.prog 30 ⟨.st [(0, 1), (1, 2), (3, 1), (4, 1)], 5, 104, some (.cons (.sl 95 (.cons (.sl 126 (.cons (.int .i64) (.cons (.int .i64) (.cons (.int .i64) (.one (.sl 4 (.one .bool))))))) (.one (.sl 73 (.cons (.int .i64) (.one (.int .i64))))))) (.cons (.sl 5 (.one (.int .u8))) (.cons (.sl 5 (.one (.int .u8))) (.cons (.bool) (.one (.sl 3 (.one (.int .i64))))))))⟩ := ⟨⟨by kernel_rfl, by kernel_rfl, by kernel_rfl⟩, ⟨_, Tryz.underlying30, by kernel_rfl, by kernel_rfl⟩, ⟨by kernel_rfl, by kernel_rfl⟩, fun h => absurd (by rfl) h⟩
theorem okT31 : OkTD Tryz.prog 31 ⟨.sl 41, 1, 24, some (.one (.sl 41 (.cons (.int .i64) (.cons (.int .i64) (.cons (.int .i64) (.one (.sl 77 (.cons (.int .i64) (.cons (.int .i64) (.one (.int .i64)))))))))))⟩ := ⟨⟨by kernel_rfl, by kernel_rfl, by kernel_rfl⟩, ⟨Tryz.underlying31, by kernel_rfl⟩, ⟨by kernel_rfl, by kernel_rfl⟩, trivial⟩
theorem okT32 : OkTD Tryz.prog 32 ⟨.sl 33, 1, 24, some (.one (.sl 33 (.one (.int .i64))))⟩ := ⟨⟨by kernel_rfl, by kernel_rfl, by kernel_rfl⟩, ⟨Tryz.underlying32, by kernel_rfl⟩, ⟨by kernel_rfl, by kernel_rfl⟩, trivial⟩
theorem okT33 : OkTD Tryz.prog 33 ⟨.int .i64, 1, 8, some (.one (.int .i64))⟩ := ⟨⟨by kernel_rfl, by kernel_rfl, by kernel_rfl⟩, Tryz.underlying33, ⟨by kernel_rfl, by kernel_rfl⟩, trivial⟩
theorem okT39 : OkTD Tryz.prog 39 ⟨.sl 77, 1, 24, some (.one (.sl 77 (.cons (.int .i64) (.cons (.int .i64) (.one (.int .i64))))))⟩ := ⟨⟨by kernel_rfl, by kernel_rfl, by kernel_rfl⟩, ⟨Tryz.underlying39, by kernel_rfl⟩, ⟨by kernel_rfl, by kernel_rfl⟩, trivial⟩
theorem okT41 : OkTD Tryz.prog 41 ⟨.st [(0, 1), (1, 1), (2, 1), (3, 1)], 4, 48, some (.cons (.int .i64) (.cons (.int .i64) (.cons (.int .i64) (.one (.sl 77 (.cons (.int .i64) (.cons (.int .i64) (.one (.int .i64)))))))))⟩ := ⟨⟨by kernel_rfl, by kernel_rfl, by kernel_rfl⟩, ⟨_, Tryz.underlying41, by kernel_rfl, by kernel_rfl⟩, ⟨by kernel_rfl, by kernel_rfl⟩, fun h => absurd (by rfl) h⟩
theorem okT48 : OkTD Tryz.prog 48 ⟨.sl 52, 1, 24, some (.one (.sl 52 (.cons (.int .i64) (.cons (.int .i64) (.cons (.int .i64) (.one (.sl 77 (.cons (.int .i64) (.cons (.int .i64) (.one (.int .i64)))))))))))⟩ := ⟨⟨by kernel_rfl, by kernel_rfl, by kernel_rfl⟩, ⟨Tryz.underlying48, by kernel_rfl⟩, ⟨by kernel_rfl, by kernel_rfl⟩, trivial⟩
theorem okT52 : OkTD Tryz.prog 52 ⟨.st [(0, 1), (1, 1), (2, 1), (3, 1)], 4, 48, some (.cons (.int .i64) (.cons (.int .i64) (.cons (.int .i64) (.one (.sl 77 (.cons (.int .i64) (.cons (.int .i64) (.one (.int .i64)))))))))⟩ := ⟨⟨by kernel_rfl, by kernel_rfl, by kernel_rfl⟩, ⟨_, Tryz.underlying52, by kernel_rfl, by kernel_rfl⟩, ⟨by kernel_rfl, by kernel_rfl⟩, fun h => absurd (by rfl) h⟩
theorem okT65 : OkTD Tryz.prog 65 ⟨.sl 73, 1, 24, some (.one (.sl 73 (.cons (.int .i64) (.one (.int .i64)))))⟩ := ⟨⟨by kernel_rfl, by kernel_rfl, by kernel_rfl⟩, ⟨Tryz.underlying65, by kernel_rfl⟩, ⟨by kernel_rfl, by kernel_rfl⟩, trivial⟩
theorem okT73 : OkTD Tryz.prog 73 ⟨.st [(0, 1), (1, 1)], 2, 16, some (.cons (.int .i64) (.one (.int .i64)))⟩ := ⟨⟨by kernel_rfl, by kernel_rfl, by kernel_rfl⟩, ⟨_, Tryz.underlying73, by kernel_rfl, by kernel_rfl⟩, ⟨by kernel_rfl, by kernel_rfl⟩, fun _ => eqInts_flat (Tryz.underlying73) (by kernel_rfl) (by kernel_rfl) (by kernel_rfl) (by kernel_rfl)⟩
theorem okT77 : OkTD Tryz.prog 77 ⟨.st [(0, 1), (1, 1), (2, 1)], 3, 24, some (.cons (.int .i64) (.cons (.int .i64) (.one (.int .i64))))⟩ := ⟨⟨by kernel_rfl, by kernel_rfl, by kernel_rfl⟩, ⟨_, Tryz.underlying77, by kernel_rfl, by kernel_rfl⟩, ⟨by kernel_rfl, by kernel_rfl⟩, fun _ => eqInts_flat (Tryz.underlying77) (by kernel_rfl) (by kernel_rfl) (by kernel_rfl) (by kernel_rfl)⟩
theorem okT93 : OkTD Tryz.prog 93 ⟨.sl 126, 1, 24, some (.one (.sl 126 (.cons (.int .i64) (.cons (.int .i64) (.cons (.int .i64) (.one (.sl 4 (.one .bool))))))))⟩ := ⟨⟨by kernel_rfl, by kernel_rfl, by kernel_rfl⟩, ⟨Tryz.underlying93, by kernel_rfl⟩, ⟨by kernel_rfl, by kernel_rfl⟩, trivial⟩
theorem okT95 : OkTD Tryz.prog 95 ⟨.st [(0, 1), (1, 1)], 2, 48, some (.cons (.sl 126 (.cons (.int .i64) (.cons (.int .i64) (.cons (.int .i64) (.one (.sl 4 (.one .bool))))))) (.one (.sl 73 (.cons (.int .i64) (.one (.int .i64))))))⟩ := ⟨⟨by kernel_rfl, by kernel_rfl, by kernel_rfl⟩, ⟨_, Tryz.underlying95, by kernel_rfl, by kernel_rfl⟩, ⟨by kernel_rfl, by kernel_rfl⟩, fun h => absurd (by rfl) h⟩
theorem okT124 : OkTD Tryz.prog 124 ⟨.sl 4, 1, 24, some (.one (.sl 4 (.one .bool)))⟩ := ⟨⟨by kernel_rfl, by kernel_rfl, by kernel_rfl⟩, ⟨Tryz.underlying124, by kernel_rfl⟩, ⟨by kernel_rfl, by kernel_rfl⟩, trivial⟩
theorem okT126 : OkTD Tryz.prog 126 ⟨.st [(0, 1), (1, 1), (2, 1), (3, 1)], 4, 48, some (.cons (.int .i64) (.cons (.int .i64) (.cons (.int .i64) (.one (.sl 4 (.one .bool))))))⟩ := ⟨⟨by kernel_rfl, by kernel_rfl, by kernel_rfl⟩, ⟨_, Tryz.underlying126, by kernel_rfl, by kernel_rfl⟩, ⟨by kernel_rfl, by kernel_rfl⟩, fun h => absurd (by rfl) h⟩
theorem okT130 : OkTD Tryz.prog 130 ⟨.sl 32, 1, 24, some (.one (.sl 32 (.one (.sl 33 (.one (.int .i64))))))⟩ := ⟨⟨by kernel_rfl, by kernel_rfl, by kernel_rfl⟩, ⟨Tryz.underlying130, by kernel_rfl⟩, ⟨by kernel_rfl, by kernel_rfl⟩, trivial⟩
theorem okT149 : OkTD Tryz.prog 149 ⟨.sl 9, 1, 24, some (.one (.sl 9 (.one .str)))⟩ := ⟨⟨by kernel_rfl, by kernel_rfl, by kernel_rfl⟩, ⟨Tryz.underlying149, by kernel_rfl⟩, ⟨by kernel_rfl, by kernel_rfl⟩, trivial⟩
theorem okT152 : OkTD Tryz.prog 152 ⟨.sl 25, 1, 24, some (.one (.sl 25 (.one (.sl 5 (.one (.int .u8))))))⟩ := ⟨⟨by kernel_rfl, by kernel_rfl, by kernel_rfl⟩, ⟨Tryz.underlying152, by kernel_rfl⟩, ⟨by kernel_rfl, by kernel_rfl⟩, trivial⟩
theorem okT162 : OkTD Tryz.prog 162 ⟨.sl 48, 1, 24, some (.one (.sl 48 (.one (.sl 52 (.cons (.int .i64) (.cons (.int .i64) (.cons (.int .i64) (.one (.sl 77 (.cons (.int .i64) (.cons (.int .i64) (.one (.int .i64)))))))))))))⟩ := ⟨⟨by kernel_rfl, by kernel_rfl, by kernel_rfl⟩, ⟨Tryz.underlying162, by kernel_rfl⟩, ⟨by kernel_rfl, by kernel_rfl⟩, trivial⟩
theorem okT174 : OkTD Tryz.prog 174 ⟨.int .u64, 1, 8, some (.one (.int .u64))⟩ := ⟨⟨by kernel_rfl, by kernel_rfl, by kernel_rfl⟩, Tryz.underlying174, ⟨by kernel_rfl, by kernel_rfl⟩, trivial⟩
theorem okT183 : OkTD Tryz.prog 183 ⟨.ifc, 1, 16, none⟩ := ⟨⟨by kernel_rfl, by kernel_rfl, by kernel_rfl⟩, ⟨_, Tryz.underlying183⟩, trivial, trivial⟩
theorem okT199 : OkTD Tryz.prog 199 ⟨.int .u32, 1, 4, some (.one (.int .u32))⟩ := ⟨⟨by kernel_rfl, by kernel_rfl, by kernel_rfl⟩, Tryz.underlying199, ⟨by kernel_rfl, by kernel_rfl⟩, trivial⟩
theorem okT202 : OkTD Tryz.prog 202 ⟨.int .u64, 1, 8, some (.one (.int .u64))⟩ := ⟨⟨by kernel_rfl, by kernel_rfl, by kernel_rfl⟩, Tryz.underlying202, ⟨by kernel_rfl, by kernel_rfl⟩, trivial⟩
theorem okT206 : OkTD Tryz.prog 206 ⟨.sl 65, 1, 24, some (.one (.sl 65 (.one (.sl 73 (.cons (.int .i64) (.one (.int .i64)))))))⟩ := ⟨⟨by kernel_rfl, by kernel_rfl, by kernel_rfl⟩, ⟨Tryz.underlying206, by kernel_rfl⟩, ⟨by kernel_rfl, by kernel_rfl⟩, trivial⟩
theorem okT213 : OkTD Tryz.prog 213 ⟨.sl 93, 1, 24, some (.one (.sl 93 (.one (.sl 126 (.cons (.int .i64) (.cons (.int .i64) (.cons (.int .i64) (.one (.sl 4 (.one .bool))))))))))⟩ := ⟨⟨by kernel_rfl, by kernel_rfl, by kernel_rfl⟩, ⟨Tryz.underlying213, by kernel_rfl⟩, ⟨by kernel_rfl, by kernel_rfl⟩, trivial⟩
def tL : List (Nat × TD) := [(2, ⟨.int .i64, 1, 8, some (.one (.int .i64))⟩),
  (3, ⟨.int .i64, 1, 8, some (.one (.int .i64))⟩),
  (4, ⟨.bool, 1, 1, some (.one .bool)⟩),
  (5, ⟨.int .u8, 1, 1, some (.one (.int .u8))⟩),
  (9, ⟨.str, 1, 16, some (.one .str)⟩),
  (22, ⟨.sl 95, 1, 24, some (.one (.sl 95 (.cons (.sl 126 (.cons (.int .i64) (.cons (.int .i64) (.cons (.int .i64) (.one (.sl 4 (.one .bool))))))) (.one (.sl 73 (.cons (.int .i64) (.one (.int .i64))))))))⟩),
  (24, ⟨.st [(0, 1)], 1, 24, some (.one (.sl 95 (.cons (.sl 126 (.cons (.int .i64) (.cons (.int .i64) (.cons (.int .i64) (.one (.sl 4 (.one .bool))))))) (.one (.sl 73 (.cons (.int .i64) (.one (.int .i64))))))))⟩),
  (25, ⟨.sl 5, 1, 24, some (.one (.sl 5 (.one (.int .u8))))⟩),
  (27, ⟨.st [(0, 1), (1, 1)], 2, 48, some (.cons (.sl 5 (.one (.int .u8))) (.one (.sl 5 (.one (.int .u8)))))⟩),
  (28, ⟨.sl 3, 1, 24, some (.one (.sl 3 (.one (.int .i64))))⟩),
  (30, ⟨.st [(0, 1), (1, 2), (3, 1), (4, 1)], 5, 104, some (.cons (.sl 95 (.cons (.sl 126 (.cons (.int .i64) (.cons (.int .i64) (.cons (.int .i64) (.one (.sl 4 (.one .bool))))))) (.one (.sl 73 (.cons (.int .i64) (.one (.int .i64))))))) (.cons (.sl 5 (.one (.int .u8))) (.cons (.sl 5 (.one (.int .u8))) (.cons (.bool) (.one (.sl 3 (.one (.int .i64))))))))⟩),
  (31, ⟨.sl 41, 1, 24, some (.one (.sl 41 (.cons (.int .i64) (.cons (.int .i64) (.cons (.int .i64) (.one (.sl 77 (.cons (.int .i64) (.cons (.int .i64) (.one (.int .i64)))))))))))⟩),
  (32, ⟨.sl 33, 1, 24, some (.one (.sl 33 (.one (.int .i64))))⟩),
  (33, ⟨.int .i64, 1, 8, some (.one (.int .i64))⟩),
  (39, ⟨.sl 77, 1, 24, some (.one (.sl 77 (.cons (.int .i64) (.cons (.int .i64) (.one (.int .i64))))))⟩),
  (41, ⟨.st [(0, 1), (1, 1), (2, 1), (3, 1)], 4, 48, some (.cons (.int .i64) (.cons (.int .i64) (.cons (.int .i64) (.one (.sl 77 (.cons (.int .i64) (.cons (.int .i64) (.one (.int .i64)))))))))⟩),
  (48, ⟨.sl 52, 1, 24, some (.one (.sl 52 (.cons (.int .i64) (.cons (.int .i64) (.cons (.int .i64) (.one (.sl 77 (.cons (.int .i64) (.cons (.int .i64) (.one (.int .i64)))))))))))⟩),
  (52, ⟨.st [(0, 1), (1, 1), (2, 1), (3, 1)], 4, 48, some (.cons (.int .i64) (.cons (.int .i64) (.cons (.int .i64) (.one (.sl 77 (.cons (.int .i64) (.cons (.int .i64) (.one (.int .i64)))))))))⟩),
  (65, ⟨.sl 73, 1, 24, some (.one (.sl 73 (.cons (.int .i64) (.one (.int .i64)))))⟩),
  (73, ⟨.st [(0, 1), (1, 1)], 2, 16, some (.cons (.int .i64) (.one (.int .i64)))⟩),
  (77, ⟨.st [(0, 1), (1, 1), (2, 1)], 3, 24, some (.cons (.int .i64) (.cons (.int .i64) (.one (.int .i64))))⟩),
  (93, ⟨.sl 126, 1, 24, some (.one (.sl 126 (.cons (.int .i64) (.cons (.int .i64) (.cons (.int .i64) (.one (.sl 4 (.one .bool))))))))⟩),
  (95, ⟨.st [(0, 1), (1, 1)], 2, 48, some (.cons (.sl 126 (.cons (.int .i64) (.cons (.int .i64) (.cons (.int .i64) (.one (.sl 4 (.one .bool))))))) (.one (.sl 73 (.cons (.int .i64) (.one (.int .i64))))))⟩),
  (124, ⟨.sl 4, 1, 24, some (.one (.sl 4 (.one .bool)))⟩),
  (126, ⟨.st [(0, 1), (1, 1), (2, 1), (3, 1)], 4, 48, some (.cons (.int .i64) (.cons (.int .i64) (.cons (.int .i64) (.one (.sl 4 (.one .bool))))))⟩),
  (130, ⟨.sl 32, 1, 24, some (.one (.sl 32 (.one (.sl 33 (.one (.int .i64))))))⟩),
  (149, ⟨.sl 9, 1, 24, some (.one (.sl 9 (.one .str)))⟩),
  (152, ⟨.sl 25, 1, 24, some (.one (.sl 25 (.one (.sl 5 (.one (.int .u8))))))⟩),
  (162, ⟨.sl 48, 1, 24, some (.one (.sl 48 (.one (.sl 52 (.cons (.int .i64) (.cons (.int .i64) (.cons (.int .i64) (.one (.sl 77 (.cons (.int .i64) (.cons (.int .i64) (.one (.int .i64)))))))))))))⟩),
  (174, ⟨.int .u64, 1, 8, some (.one (.int .u64))⟩),
  (183, ⟨.ifc, 1, 16, none⟩),
  (199, ⟨.int .u32, 1, 4, some (.one (.int .u32))⟩),
  (202, ⟨.int .u64, 1, 8, some (.one (.int .u64))⟩),
  (206, ⟨.sl 65, 1, 24, some (.one (.sl 65 (.one (.sl 73 (.cons (.int .i64) (.one (.int .i64)))))))⟩),
  (213, ⟨.sl 93, 1, 24, some (.one (.sl 93 (.one (.sl 126 (.cons (.int .i64) (.cons (.int .i64) (.cons (.int .i64) (.one (.sl 4 (.one .bool))))))))))⟩)]
def T : TT := tabT tL
theorem tok : TOK Tryz.prog T := tok_of (L := tL) (List.forall_mem_cons.2 ⟨okT2, List.forall_mem_cons.2 ⟨okT3, List.forall_mem_cons.2 ⟨okT4, List.forall_mem_cons.2 ⟨okT5, List.forall_mem_cons.2 ⟨okT9, List.forall_mem_cons.2 ⟨okT22, List.forall_mem_cons.2 ⟨okT24, List.forall_mem_cons.2 ⟨okT25, List.forall_mem_cons.2 ⟨okT27, List.forall_mem_cons.2 ⟨okT28, List.forall_mem_cons.2 ⟨okT30, List.forall_mem_cons.2 ⟨okT31, List.forall_mem_cons.2 ⟨okT32, List.forall_mem_cons.2 ⟨okT33, List.forall_mem_cons.2 ⟨okT39, List.forall_mem_cons.2 ⟨okT41, List.forall_mem_cons.2 ⟨okT48, List.forall_mem_cons.2 ⟨okT52, List.forall_mem_cons.2 ⟨okT65, List.forall_mem_cons.2 ⟨okT73, List.forall_mem_cons.2 ⟨okT77, List.forall_mem_cons.2 ⟨okT93, List.forall_mem_cons.2 ⟨okT95, List.forall_mem_cons.2 ⟨okT124, List.forall_mem_cons.2 ⟨okT126, List.forall_mem_cons.2 ⟨okT130, List.forall_mem_cons.2 ⟨okT149, List.forall_mem_cons.2 ⟨okT152, List.forall_mem_cons.2 ⟨okT162, List.forall_mem_cons.2 ⟨okT174, List.forall_mem_cons.2 ⟨okT183, List.forall_mem_cons.2 ⟨okT199, List.forall_mem_cons.2 ⟨okT202, List.forall_mem_cons.2 ⟨okT206, List.forall_mem_cons.2 ⟨okT213, (by intro q h; cases h)⟩⟩⟩⟩⟩⟩⟩⟩⟩⟩⟩⟩⟩⟩⟩⟩⟩⟩⟩⟩⟩⟩⟩⟩⟩⟩⟩⟩⟩⟩⟩⟩⟩⟩⟩)
theorem fmo : Tryz.prog.follows .mixedOrders = true := by kernel_rfl
end Go.Proofs.Y
namespace Go.Proofs.Y
open Go.Rb Go.Kx
set_option maxRecDepth 100000
end Go.Proofs.Y
namespace Go.Proofs.Y
open Go.Rb Go.Kx
noncomputable def C_note_Check : Code := bodyOf Tryz.f79
noncomputable def G_note_Check : FuncId → Option GS := tabG []
theorem g_note_Check : ΓOK Tryz.prog G_note_Check := ΓOK_nil
def H_note_Check : HT := ⟨tabL [(9, .it [] (dyn [.t 31 (.int .i64)]))], tabH []⟩
abbrev is_note_Check : List IT := [.v (.cons (.int .i64) (.cons (.int .i64) (.cons (.int .i64) (.one (.sl 77 (.cons (.int .i64) (.cons (.int .i64) (.one (.int .i64))))))))) true]
abbrev os_note_Check : List OT := [⟨.one (.int .i64), false, []⟩]
set_option maxRecDepth 100000
noncomputable def F_note_Check : Int × Int × Int × List (Int × Int × Int) → Option Int := fun (a : Int × Int × Int × List (Int × Int × Int)) => ifB (ltI a.1 1) (some 4) (ifB (gtI a.1 4) (some 4) (ifB (eqI a.1 1) (ifB (neI a.2.1 0) (some 4) (ifB (neI a.2.2.1 0) (some 4) (ifB (gtI (lenI a.2.2.2) 10) (some 2) (loopN maxR (fun (x : Int) => ifB (ltI x (lenI a.2.2.2)) (bindO (atI a.2.2.2 x) fun (y : Int × Int × Int) => ifB (ltI y.1 0) (mapO Sum.inr (some 3)) (ifB (geI y.1 4) (mapO Sum.inr (some 3)) (ifB (ltI y.2.1 0) (mapO Sum.inr (some 3)) (ifB (gtI y.2.1 100000) (mapO Sum.inr (some 3)) (ifB (ltI y.2.2 (-1000000)) (mapO Sum.inr (some 3)) (ifB (gtI y.2.2 1000000) (mapO Sum.inr (some 3)) (some (Sum.inl (wadd .i64 x 1))))))))) (mapO Sum.inr (some 0))) 0)))) (ifB (gtI (lenI a.2.2.2) 0) (some 4) (ifB (eqI a.1 4) (ifB (neI a.2.1 0) (some 4) (ifB (ltI a.2.1 0) (some 3) (ifB (geI a.2.1 4) (some 3) (ifB (ltI a.2.2.1 0) (some 3) (ifB (gtI a.2.2.1 100001) (some 3) (some 0)))))) (ifB (ltI a.2.1 0) (some 3) (ifB (geI a.2.1 4) (some 3) (ifB (ltI a.2.2.1 0) (some 3) (ifB (gtI a.2.2.1 100001) (some 3) (some 0)))))))))
theorem F_note_Check_eq (x : PI is_note_Check) : F_note_Check x = fnE T G_note_Check H_note_Check C_note_Check (resOf Tryz.f79) is_note_Check os_note_Check x := by kernel_rfl
noncomputable abbrev R_note_Check : GS := mkSpec false is_note_Check os_note_Check fun x => F_note_Check x
theorem R_note_Check_ok : GSOK Tryz.prog 79 R_note_Check := spec_ok tok g_note_Check fmo (Ht := H_note_Check) (fn := Tryz.f79) (Tryz.func79) (c := C_note_Check) (by kernel_rfl) (by kernel_rfl) (by kernel_rfl) (by decide +kernel) (by decide) F_note_Check_eq
end Go.Proofs.Y
namespace Go.Proofs.Y
open Go.Rb Go.Kx
set_option maxRecDepth 100000
end Go.Proofs.Y
namespace Go.Proofs.Y
open Go.Rb Go.Kx
set_option maxRecDepth 100000
end Go.Proofs.Y
namespace Go.Proofs.Y
open Go.Rb Go.Kx
set_option maxRecDepth 100000
end Go.Proofs.Y
namespace Go.Proofs.Y
open Go.Rb Go.Kx
noncomputable def C_cloneRw : Code := bodyOf Tryz.f137
noncomputable def G_cloneRw : FuncId → Option GS := tabG []
theorem g_cloneRw : ΓOK Tryz.prog G_cloneRw := ΓOK_nil
def H_cloneRw : HT := ⟨tabL [], tabH []⟩
abbrev is_cloneRw : List IT := [.v (.one (.sl 95 (.cons (.sl 126 (.cons (.int .i64) (.cons (.int .i64) (.cons (.int .i64) (.one (.sl 4 (.one .bool))))))) (.one (.sl 73 (.cons (.int .i64) (.one (.int .i64)))))))) false]
abbrev os_cloneRw : List OT := [⟨.one (.sl 95 (.cons (.sl 126 (.cons (.int .i64) (.cons (.int .i64) (.cons (.int .i64) (.one (.sl 4 (.one .bool))))))) (.one (.sl 73 (.cons (.int .i64) (.one (.int .i64))))))), false, [true]⟩]
set_option maxRecDepth 100000
noncomputable def F_cloneRw : List (List (Int × Int × Int × List Bool) × List (Int × Int)) → Option (List (List (Int × Int × Int × List Bool) × List (Int × Int))) := fun (a : List (List (Int × Int × Int × List Bool) × List (Int × Int))) => ifB (isE a) (ambO (some []) (ifB (roomA 48 [] a) (some (cat [] a)) none)) (ifB (roomA 48 [] a) (some (cat [] a)) none)
theorem F_cloneRw_eq (x : PI is_cloneRw) : F_cloneRw x = fnE T G_cloneRw H_cloneRw C_cloneRw (resOf Tryz.f137) is_cloneRw os_cloneRw x := by kernel_rfl
noncomputable abbrev R_cloneRw : GS := mkSpec false is_cloneRw os_cloneRw fun x => F_cloneRw x
theorem R_cloneRw_ok : GSOK Tryz.prog 137 R_cloneRw := spec_ok tok g_cloneRw fmo (Ht := H_cloneRw) (fn := Tryz.f137) (Tryz.func137) (c := C_cloneRw) (by kernel_rfl) (by kernel_rfl) (by kernel_rfl) (by decide +kernel) (by decide) F_cloneRw_eq
end Go.Proofs.Y
namespace Go.Proofs.Y
open Go.Rb Go.Kx
noncomputable def C_cloneP : Code := bodyOf Tryz.f139
noncomputable def G_cloneP : FuncId → Option GS := tabG []
theorem g_cloneP : ΓOK Tryz.prog G_cloneP := ΓOK_nil
def H_cloneP : HT := ⟨tabL [], tabH []⟩
abbrev is_cloneP : List IT := [.v (.one (.sl 73 (.cons (.int .i64) (.one (.int .i64))))) false]
abbrev os_cloneP : List OT := [⟨.one (.sl 73 (.cons (.int .i64) (.one (.int .i64)))), false, [true]⟩]
set_option maxRecDepth 100000
noncomputable def F_cloneP : List (Int × Int) → Option (List (Int × Int)) := fun (a : List (Int × Int)) => ifB (isE a) (ambO (some []) (ifB (roomA 16 [] a) (some (cat [] a)) none)) (ifB (roomA 16 [] a) (some (cat [] a)) none)
theorem F_cloneP_eq (x : PI is_cloneP) : F_cloneP x = fnE T G_cloneP H_cloneP C_cloneP (resOf Tryz.f139) is_cloneP os_cloneP x := by kernel_rfl
noncomputable abbrev R_cloneP : GS := mkSpec false is_cloneP os_cloneP fun x => F_cloneP x
theorem R_cloneP_ok : GSOK Tryz.prog 139 R_cloneP := spec_ok tok g_cloneP fmo (Ht := H_cloneP) (fn := Tryz.f139) (Tryz.func139) (c := C_cloneP) (by kernel_rfl) (by kernel_rfl) (by kernel_rfl) (by decide +kernel) (by decide) F_cloneP_eq
end Go.Proofs.Y
namespace Go.Proofs.Y
open Go.Rb Go.Kx
set_option maxRecDepth 100000
end Go.Proofs.Y
namespace Go.Proofs.Y
open Go.Rb Go.Kx
set_option maxRecDepth 100000
end Go.Proofs.Y
namespace Go.Proofs.Y
open Go.Rb Go.Kx
set_option maxRecDepth 100000
end Go.Proofs.Y
namespace Go.Proofs.Y
open Go.Rb Go.Kx
set_option maxRecDepth 100000
end Go.Proofs.Y
namespace Go.Proofs.Y
open Go.Rb Go.Kx
set_option maxRecDepth 100000
end Go.Proofs.Y
namespace Go.Proofs.Y
open Go.Rb Go.Kx
set_option maxRecDepth 100000
end Go.Proofs.Y
namespace Go.Proofs.Y
open Go.Rb Go.Kx
noncomputable def C_cloneB : Code := bodyOf Tryz.f162
noncomputable def G_cloneB : FuncId → Option GS := tabG []
theorem g_cloneB : ΓOK Tryz.prog G_cloneB := ΓOK_nil
def H_cloneB : HT := ⟨tabL [], tabH []⟩
abbrev is_cloneB : List IT := [.v (.one (.sl 4 (.one .bool))) false]
abbrev os_cloneB : List OT := [⟨.one (.sl 4 (.one .bool)), false, [true]⟩]
set_option maxRecDepth 100000
noncomputable def F_cloneB : List Bool → Option (List Bool) := fun (a : List Bool) => ifB (isE a) (ambO (some []) (ifB (roomA 1 [] a) (some (cat [] a)) none)) (ifB (roomA 1 [] a) (some (cat [] a)) none)
theorem F_cloneB_eq (x : PI is_cloneB) : F_cloneB x = fnE T G_cloneB H_cloneB C_cloneB (resOf Tryz.f162) is_cloneB os_cloneB x := by kernel_rfl
noncomputable abbrev R_cloneB : GS := mkSpec false is_cloneB os_cloneB fun x => F_cloneB x
theorem R_cloneB_ok : GSOK Tryz.prog 162 R_cloneB := spec_ok tok g_cloneB fmo (Ht := H_cloneB) (fn := Tryz.f162) (Tryz.func162) (c := C_cloneB) (by kernel_rfl) (by kernel_rfl) (by kernel_rfl) (by decide +kernel) (by decide) F_cloneB_eq
end Go.Proofs.Y
namespace Go.Proofs.Y
open Go.Rb Go.Kx
set_option maxRecDepth 100000
end Go.Proofs.Y
namespace Go.Proofs.Y
open Go.Rb Go.Kx
set_option maxRecDepth 100000
end Go.Proofs.Y
namespace Go.Proofs.Y
open Go.Rb Go.Kx
set_option maxRecDepth 100000
end Go.Proofs.Y
namespace Go.Proofs.Y
open Go.Rb Go.Kx
noncomputable def C_cloneBk : Code := bodyOf Tryz.f138
noncomputable def G_cloneBk : FuncId → Option GS := tabG []
theorem g_cloneBk : ΓOK Tryz.prog G_cloneBk := ΓOK_nil
def H_cloneBk : HT := ⟨tabL [], tabH []⟩
abbrev is_cloneBk : List IT := [.v (.one (.sl 126 (.cons (.int .i64) (.cons (.int .i64) (.cons (.int .i64) (.one (.sl 4 (.one .bool)))))))) false]
abbrev os_cloneBk : List OT := [⟨.one (.sl 126 (.cons (.int .i64) (.cons (.int .i64) (.cons (.int .i64) (.one (.sl 4 (.one .bool))))))), false, [true]⟩]
set_option maxRecDepth 100000
noncomputable def F_cloneBk : List (Int × Int × Int × List Bool) → Option (List (Int × Int × Int × List Bool)) := fun (a : List (Int × Int × Int × List Bool)) => ifB (isE a) (ambO (some []) (ifB (roomA 48 [] a) (some (cat [] a)) none)) (ifB (roomA 48 [] a) (some (cat [] a)) none)
theorem F_cloneBk_eq (x : PI is_cloneBk) : F_cloneBk x = fnE T G_cloneBk H_cloneBk C_cloneBk (resOf Tryz.f138) is_cloneBk os_cloneBk x := by kernel_rfl
noncomputable abbrev R_cloneBk : GS := mkSpec false is_cloneBk os_cloneBk fun x => F_cloneBk x
theorem R_cloneBk_ok : GSOK Tryz.prog 138 R_cloneBk := spec_ok tok g_cloneBk fmo (Ht := H_cloneBk) (fn := Tryz.f138) (Tryz.func138) (c := C_cloneBk) (by kernel_rfl) (by kernel_rfl) (by kernel_rfl) (by decide +kernel) (by decide) F_cloneBk_eq
end Go.Proofs.Y
namespace Go.Proofs.Y
open Go.Rb Go.Kx
set_option maxRecDepth 100000
end Go.Proofs.Y
namespace Go.Proofs.Y
open Go.Rb Go.Kx
set_option maxRecDepth 100000
end Go.Proofs.Y
namespace Go.Proofs.Y
open Go.Rb Go.Kx
end Go.Proofs.Y
namespace Go.Proofs.Y
open Go.Rb Go.Kx
set_option maxRecDepth 100000
end Go.Proofs.Y
namespace Go.Proofs.Y
open Go.Rb Go.Kx
set_option maxRecDepth 100000
end Go.Proofs.Y
namespace Go.Proofs.Y
open Go.Rb Go.Kx
set_option maxRecDepth 100000
end Go.Proofs.Y
namespace Go.Proofs.Y
open Go.Rb Go.Kx
set_option maxRecDepth 100000
end Go.Proofs.Y
namespace Go.Proofs.Y
open Go.Rb Go.Kx
set_option maxRecDepth 100000
end Go.Proofs.Y
namespace Go.Proofs.Y
open Go.Rb Go.Kx
noncomputable def C_bits_Read : Code := bodyOf Tryz.f197
noncomputable def G_bits_Read : FuncId → Option GS := tabG []
theorem g_bits_Read : ΓOK Tryz.prog G_bits_Read := ΓOK_nil
def H_bits_Read : HT := ⟨tabL [(7, .it [] (dyn [.t 6 (.int .i64), .t 23 (.int .i64)]))], tabH []⟩
abbrev is_bits_Read : List IT := [.v (.one (.sl 4 (.one .bool))) false, .v (.one (.int .i64)) false]
abbrev os_bits_Read : List OT := [⟨.one (.int .i64), false, []⟩, ⟨.one (.int .i64), false, []⟩]
set_option maxRecDepth 100000
noncomputable def F_bits_Read : List Bool → Int → Option (Int × Int) := fun (a : List Bool) (b : Int) => ifB (ltI b 0) (some (0, 3)) (ifB (gtI b 40) (some (0, 3)) (ifB (ltI (lenI a) b) (some (0, 8)) (ifB (in1 a b) (loopN maxR (fun (x : Int × Int) => ifB (ltI x.2 (lenI (takeI a b))) (bindO (atI (takeI a b) x.2) fun (y : Bool) => ifB y (some (Sum.inl (wadd .i64 (wmul .i64 x.1 2) 1, wadd .i64 x.2 1))) (some (Sum.inl (wmul .i64 x.1 2, wadd .i64 x.2 1)))) (mapO Sum.inr (some (x.1, 0)))) (0, 0)) none)))
theorem F_bits_Read_eq (x : PI is_bits_Read) : F_bits_Read (x.1) (x.2) = fnE T G_bits_Read H_bits_Read C_bits_Read (resOf Tryz.f197) is_bits_Read os_bits_Read x := by kernel_rfl
noncomputable abbrev R_bits_Read : GS := mkSpec false is_bits_Read os_bits_Read fun x => F_bits_Read (x.1) (x.2)
theorem R_bits_Read_ok : GSOK Tryz.prog 197 R_bits_Read := spec_ok tok g_bits_Read fmo (Ht := H_bits_Read) (fn := Tryz.f197) (Tryz.func197) (c := C_bits_Read) (by kernel_rfl) (by kernel_rfl) (by kernel_rfl) (by decide +kernel) (by decide) F_bits_Read_eq
end Go.Proofs.Y
namespace Go.Proofs.Y
open Go.Rb Go.Kx
noncomputable def C_zig_Read : Code := bodyOf Tryz.f174
noncomputable def G_zig_Read : FuncId → Option GS := tabG [(197, R_bits_Read)]
theorem g_zig_Read : ΓOK Tryz.prog G_zig_Read := ΓOK_cons (R_bits_Read_ok) (ΓOK_nil)
def H_zig_Read : HT := ⟨tabL [(3, .it [] (dyn [.t 5 (.int .i64), .t 6 (.int .i64), .t 10 (.int .i64)]))], tabH []⟩
abbrev is_zig_Read : List IT := [.v (.one (.sl 4 (.one .bool))) false]
abbrev os_zig_Read : List OT := [⟨.one (.int .i64), false, []⟩, ⟨.one (.int .i64), false, []⟩, ⟨.one (.int .i64), false, []⟩]
set_option maxRecDepth 100000
noncomputable def F_zig_Read : List Bool → Option (Int × Int × Int) := fun (a : List Bool) => loopN maxR (fun (x : Int × Int × Int) => ifB (ltI x.2.2 8) (ifB (in1 a (minI (lenI a) (wmul .i64 4 x.2.2))) (bindO (F_bits_Read (dropI a (minI (lenI a) (wmul .i64 4 x.2.2))) 4) fun (y : Int × Int) => ifB (neI y.2 0) (mapO Sum.inr (some (0, 0, y.2))) (ifB (eqI y.1 0) (ifB (gtI x.2.2 0) (mapO Sum.inr (some (0, 0, 4))) (ifB (gtI (wadd .i64 x.1 (wmul .i64 (wrem y.1 8) x.2.1)) 8000000) (mapO Sum.inr (some (0, 0, 3))) (ifB (ltI y.1 8) (ifB (eqI (wrem (wadd .i64 x.1 (wmul .i64 (wrem y.1 8) x.2.1)) 2) 1) (mapO Sum.inr (some (wquo .i64 (wneg .i64 (wadd .i64 (wadd .i64 x.1 (wmul .i64 (wrem y.1 8) x.2.1)) 1)) 2, wadd .i64 (wmul .i64 4 x.2.2) 4, 0))) (mapO Sum.inr (some (wquo .i64 (wadd .i64 x.1 (wmul .i64 (wrem y.1 8) x.2.1)) 2, wadd .i64 (wmul .i64 4 x.2.2) 4, 0)))) (some (Sum.inl (wadd .i64 x.1 (wmul .i64 (wrem y.1 8) x.2.1), wmul .i64 x.2.1 8, wadd .i64 x.2.2 1)))))) (ifB (gtI (wadd .i64 x.1 (wmul .i64 (wrem y.1 8) x.2.1)) 8000000) (mapO Sum.inr (some (0, 0, 3))) (ifB (ltI y.1 8) (ifB (eqI (wrem (wadd .i64 x.1 (wmul .i64 (wrem y.1 8) x.2.1)) 2) 1) (mapO Sum.inr (some (wquo .i64 (wneg .i64 (wadd .i64 (wadd .i64 x.1 (wmul .i64 (wrem y.1 8) x.2.1)) 1)) 2, wadd .i64 (wmul .i64 4 x.2.2) 4, 0))) (mapO Sum.inr (some (wquo .i64 (wadd .i64 x.1 (wmul .i64 (wrem y.1 8) x.2.1)) 2, wadd .i64 (wmul .i64 4 x.2.2) 4, 0)))) (some (Sum.inl (wadd .i64 x.1 (wmul .i64 (wrem y.1 8) x.2.1), wmul .i64 x.2.1 8, wadd .i64 x.2.2 1))))))) none) (mapO Sum.inr (some (0, 0, 3)))) (0, 1, 0)
theorem F_zig_Read_eq (x : PI is_zig_Read) : F_zig_Read x = fnE T G_zig_Read H_zig_Read C_zig_Read (resOf Tryz.f174) is_zig_Read os_zig_Read x := by kernel_rfl
noncomputable abbrev R_zig_Read : GS := mkSpec false is_zig_Read os_zig_Read fun x => F_zig_Read x
theorem R_zig_Read_ok : GSOK Tryz.prog 174 R_zig_Read := spec_ok tok g_zig_Read fmo (Ht := H_zig_Read) (fn := Tryz.f174) (Tryz.func174) (c := C_zig_Read) (by kernel_rfl) (by kernel_rfl) (by kernel_rfl) (by decide +kernel) (by decide) F_zig_Read_eq
end Go.Proofs.Y
namespace Go.Proofs.Y
open Go.Rb Go.Kx
noncomputable def C_line_Check : Code := bodyOf Tryz.f50
noncomputable def G_line_Check : FuncId → Option GS := tabG []
theorem g_line_Check : ΓOK Tryz.prog G_line_Check := ΓOK_nil
def H_line_Check : HT := ⟨tabL [(4, .it [] (dyn [.t 10 (.int .i64)]))], tabH []⟩
abbrev is_line_Check : List IT := [.v (.one (.sl 73 (.cons (.int .i64) (.one (.int .i64))))) false]
abbrev os_line_Check : List OT := [⟨.one (.int .i64), false, []⟩]
set_option maxRecDepth 100000
noncomputable def F_line_Check : List (Int × Int) → Option Int := fun (a : List (Int × Int)) => ifB (gtI (lenI a) 40) (some 2) (loopN maxR (fun (x : Int) => ifB (ltI x (lenI a)) (bindO (atI a x) fun (y : Int × Int) => ifB (ltI y.1 0) (mapO Sum.inr (some 3)) (ifB (gtI y.1 100000) (mapO Sum.inr (some 3)) (ifB (ltI y.2 (-1000000)) (mapO Sum.inr (some 3)) (ifB (gtI y.2 1000000) (mapO Sum.inr (some 3)) (ifB (gtI x 0) (bindO (atI a (wsub .i64 x 1)) fun (y_1 : Int × Int) => ifB (geI y_1.1 y.1) (mapO Sum.inr (some 7)) (some (Sum.inl (wadd .i64 x 1)))) (some (Sum.inl (wadd .i64 x 1)))))))) (mapO Sum.inr (some 0))) 0)
theorem F_line_Check_eq (x : PI is_line_Check) : F_line_Check x = fnE T G_line_Check H_line_Check C_line_Check (resOf Tryz.f50) is_line_Check os_line_Check x := by kernel_rfl
noncomputable abbrev R_line_Check : GS := mkSpec false is_line_Check os_line_Check fun x => F_line_Check x
theorem R_line_Check_ok : GSOK Tryz.prog 50 R_line_Check := spec_ok tok g_line_Check fmo (Ht := H_line_Check) (fn := Tryz.f50) (Tryz.func50) (c := C_line_Check) (by kernel_rfl) (by kernel_rfl) (by kernel_rfl) (by decide +kernel) (by decide) F_line_Check_eq
noncomputable abbrev B_line_Check : GS := mkSpec true is_line_Check os_line_Check fun x => F_line_Check x
theorem B_line_Check_ok : GSOK Tryz.prog 50 B_line_Check := spec_ok tok g_line_Check fmo (Ht := H_line_Check) (fn := Tryz.f50) (Tryz.func50) (c := C_line_Check) (by kernel_rfl) (by kernel_rfl) (by kernel_rfl) (by decide +kernel) (by decide) F_line_Check_eq
end Go.Proofs.Y
namespace Go.Proofs.Y
open Go.Rb Go.Kx
noncomputable def C_line_Unpack : Code := bodyOf Tryz.f153
noncomputable def G_line_Unpack : FuncId → Option GS := tabG [(174, R_zig_Read), (50, R_line_Check)]
theorem g_line_Unpack : ΓOK Tryz.prog G_line_Unpack := ΓOK_cons (R_zig_Read_ok) (ΓOK_cons (R_line_Check_ok) (ΓOK_nil))
def H_line_Unpack : HT := ⟨tabL [(7, .it [] (dyn [.t 0 (.sl 4 (.one .bool)), .a 6 73 (.cons (.int .i64) (.one (.int .i64))), .t 8 (.int .i64), .t 23 (.int .i64), .c 7 0 (.int .i64), .c 7 1 (.int .i64)]))], tabH []⟩
abbrev is_line_Unpack : List IT := [.v (.one (.sl 4 (.one .bool))) false, .v (.one (.int .i64)) false]
abbrev os_line_Unpack : List OT := [⟨.one (.sl 73 (.cons (.int .i64) (.one (.int .i64)))), false, []⟩, ⟨.one (.int .i64), false, []⟩]
set_option maxRecDepth 100000
noncomputable def F_line_Unpack : List Bool → Int → Option (List (Int × Int) × Int) := fun (a : List Bool) (b : Int) => ifB (ltI b 0) (some ([], 2)) (ifB (gtI b 40) (some ([], 2)) (loopN maxR (fun (x : List Bool × Int × Int × Int × Int × List (Int × Int)) => ifB (ltI x.2.2.1 b) (bindO (F_zig_Read x.1) fun (y : Int × Int × Int) => ifB (neI y.2.2 0) (mapO Sum.inr (some ([], y.2.2))) (ifB (in1 x.1 y.2.1) (bindO (F_zig_Read (dropI x.1 y.2.1)) fun (y_1 : Int × Int × Int) => ifB (neI y_1.2.2 0) (mapO Sum.inr (some ([], y_1.2.2))) (ifB (in1 x.1 (wadd .i64 y.2.1 y_1.2.1)) (ifB (ifB (in2 x.2.2.2.2.2 (maxI 0 (wsub .i64 (lenI x.2.2.2.2.2) 1)) (lenI x.2.2.2.2.2)) (eqI (lenI x.2.2.2.2.2) (lenI x.2.2.2.2.2)) false) (ifB (ifB (inN x.2.2.2.2.2 (natI (maxI 0 (wsub .i64 (lenI x.2.2.2.2.2) 1))) (subI (maxI 0 (wsub .i64 (lenI x.2.2.2.2.2) 1)) (lenI x.2.2.2.2.2))) (roomA 16 (subN x.2.2.2.2.2 (natI (maxI 0 (wsub .i64 (lenI x.2.2.2.2.2) 1))) (subI (maxI 0 (wsub .i64 (lenI x.2.2.2.2.2) 1)) (lenI x.2.2.2.2.2))) [(wadd .i64 (wadd .i64 x.2.2.2.1 x.2.1) y.1, wadd .i64 x.2.2.2.2.1 y_1.1)]) false) (ifB (fits (subI (maxI 0 (wsub .i64 (lenI x.2.2.2.2.2) 1)) (lenI x.2.2.2.2.2)) [(wadd .i64 (wadd .i64 x.2.2.2.1 x.2.1) y.1, wadd .i64 x.2.2.2.2.1 y_1.1)] (capN (lenN x.2.2.2.2.2) (natI (maxI 0 (wsub .i64 (lenI x.2.2.2.2.2) 1))))) none (bindO (F_line_Check (cat (subN x.2.2.2.2.2 (natI (maxI 0 (wsub .i64 (lenI x.2.2.2.2.2) 1))) (subI (maxI 0 (wsub .i64 (lenI x.2.2.2.2.2) 1)) (lenI x.2.2.2.2.2))) [(wadd .i64 (wadd .i64 x.2.2.2.1 x.2.1) y.1, wadd .i64 x.2.2.2.2.1 y_1.1)])) fun (y_2 : Int) => ifB (neI y_2 0) (mapO Sum.inr (some ([], y_2))) (ifB (roomA 16 x.2.2.2.2.2 [(wadd .i64 (wadd .i64 x.2.2.2.1 x.2.1) y.1, wadd .i64 x.2.2.2.2.1 y_1.1)]) (some (Sum.inl (dropI x.1 (wadd .i64 y.2.1 y_1.2.1), wsub .i64 (wadd .i64 (wadd .i64 x.2.2.2.1 x.2.1) y.1) x.2.2.2.1, wadd .i64 x.2.2.1 1, wadd .i64 (wadd .i64 x.2.2.2.1 x.2.1) y.1, wadd .i64 x.2.2.2.2.1 y_1.1, cat x.2.2.2.2.2 [(wadd .i64 (wadd .i64 x.2.2.2.1 x.2.1) y.1, wadd .i64 x.2.2.2.2.1 y_1.1)]))) none))) none) none) none)) none)) (mapO Sum.inr (ifB (gtI (lenI x.1) 0) (some ([], 8)) (some (x.2.2.2.2.2, 0))))) (a, 0, 0, 0, 0, [])))
theorem F_line_Unpack_eq (x : PI is_line_Unpack) : F_line_Unpack (x.1) (x.2) = fnE T G_line_Unpack H_line_Unpack C_line_Unpack (resOf Tryz.f153) is_line_Unpack os_line_Unpack x := by kernel_rfl
noncomputable abbrev R_line_Unpack : GS := mkSpec false is_line_Unpack os_line_Unpack fun x => F_line_Unpack (x.1) (x.2)
theorem R_line_Unpack_ok : GSOK Tryz.prog 153 R_line_Unpack := spec_ok tok g_line_Unpack fmo (Ht := H_line_Unpack) (fn := Tryz.f153) (Tryz.func153) (c := C_line_Unpack) (by kernel_rfl) (by kernel_rfl) (by kernel_rfl) (by decide +kernel) (by decide) F_line_Unpack_eq
end Go.Proofs.Y
namespace Go.Proofs.Y
open Go.Rb Go.Kx
noncomputable def C_block_Points : Code := bodyOf Tryz.f126
noncomputable def G_block_Points : FuncId → Option GS := tabG [(153, R_line_Unpack)]
theorem g_block_Points : ΓOK Tryz.prog G_block_Points := ΓOK_cons (R_line_Unpack_ok) (ΓOK_nil)
def H_block_Points : HT := ⟨tabL [], tabH []⟩
abbrev is_block_Points : List IT := [.v (.cons (.int .i64) (.cons (.int .i64) (.cons (.int .i64) (.one (.sl 4 (.one .bool)))))) true]
abbrev os_block_Points : List OT := [⟨.one (.sl 73 (.cons (.int .i64) (.one (.int .i64)))), false, []⟩, ⟨.one (.int .i64), false, []⟩]
set_option maxRecDepth 100000
noncomputable def F_block_Points : Int × Int × Int × List Bool → Option (List (Int × Int) × Int) := fun (a : Int × Int × Int × List Bool) => bindO (F_line_Unpack a.2.2.2 a.1) fun (y : List (Int × Int) × Int) => ifB (neI y.2 0) (some ([], y.2)) (ifB (eqI (lenI y.1) 0) (some ([], 4)) (bindO (atI y.1 0) fun (y_1 : Int × Int) => ifB (neI y_1.1 a.2.1) (some ([], 4)) (bindO (atI y.1 (wsub .i64 (lenI y.1) 1)) fun (y_2 : Int × Int) => ifB (neI y_2.1 a.2.2.1) (some ([], 4)) (some (y.1, 0)))))
theorem F_block_Points_eq (x : PI is_block_Points) : F_block_Points x = fnE T G_block_Points H_block_Points C_block_Points (resOf Tryz.f126) is_block_Points os_block_Points x := by kernel_rfl
noncomputable abbrev R_block_Points : GS := mkSpec false is_block_Points os_block_Points fun x => F_block_Points x
theorem R_block_Points_ok : GSOK Tryz.prog 126 R_block_Points := spec_ok tok g_block_Points fmo (Ht := H_block_Points) (fn := Tryz.f126) (Tryz.func126) (c := C_block_Points) (by kernel_rfl) (by kernel_rfl) (by kernel_rfl) (by decide +kernel) (by decide) F_block_Points_eq
end Go.Proofs.Y
namespace Go.Proofs.Y
open Go.Rb Go.Kx
noncomputable def C_shelf_all : Code := bodyOf Tryz.f97
noncomputable def G_shelf_all : FuncId → Option GS := tabG [(126, R_block_Points), (50, B_line_Check)]
theorem g_shelf_all : ΓOK Tryz.prog G_shelf_all := ΓOK_cons (R_block_Points_ok) (ΓOK_cons (B_line_Check_ok) (ΓOK_nil))
def H_shelf_all : HT := ⟨tabL [(5, .it [] (dyn [.a 4 73 (.cons (.int .i64) (.one (.int .i64))), .t 16 (.int .i64)]))], tabH []⟩
abbrev is_shelf_all : List IT := [.v (.cons (.sl 126 (.cons (.int .i64) (.cons (.int .i64) (.cons (.int .i64) (.one (.sl 4 (.one .bool))))))) (.one (.sl 73 (.cons (.int .i64) (.one (.int .i64)))))) true]
abbrev os_shelf_all : List OT := [⟨.one (.sl 73 (.cons (.int .i64) (.one (.int .i64)))), false, [true]⟩, ⟨.one (.int .i64), false, []⟩]
set_option maxRecDepth 100000
noncomputable def F_shelf_all : List (Int × Int × Int × List Bool) × List (Int × Int) → Option (List (Int × Int) × Int) := fun (a : List (Int × Int × Int × List Bool) × List (Int × Int)) => ifB (gtI (lenI a.1) 8) (some ([], 2)) (loopN maxR (fun (x : Int × List (Int × Int)) => ifB (ltI x.1 (lenI a.1)) (bindO (atI a.1 x.1) fun (y : Int × Int × Int × List Bool) => bindO (F_block_Points (y.1, y.2.1, y.2.2.1, y.2.2.2)) fun (y : List (Int × Int) × Int) => ifB (neI y.2 0) (mapO Sum.inr (some ([], y.2))) (ifB (roomA 16 x.2 y.1) (some (Sum.inl (wadd .i64 x.1 1, cat x.2 y.1))) none)) (mapO Sum.inr (ifB (roomA 16 x.2 a.2) (bindO (F_line_Check (cat x.2 a.2)) fun (y : Int) => some (cat x.2 a.2, y)) none))) (0, []))
theorem F_shelf_all_eq (x : PI is_shelf_all) : F_shelf_all x = fnE T G_shelf_all H_shelf_all C_shelf_all (resOf Tryz.f97) is_shelf_all os_shelf_all x := by kernel_rfl
noncomputable abbrev R_shelf_all : GS := mkSpec false is_shelf_all os_shelf_all fun x => F_shelf_all x
theorem R_shelf_all_ok : GSOK Tryz.prog 97 R_shelf_all := spec_ok tok g_shelf_all fmo (Ht := H_shelf_all) (fn := Tryz.f97) (Tryz.func97) (c := C_shelf_all) (by kernel_rfl) (by kernel_rfl) (by kernel_rfl) (by decide +kernel) (by decide) F_shelf_all_eq
noncomputable abbrev B_shelf_all : GS := mkSpec true is_shelf_all os_shelf_all fun x => F_shelf_all x
theorem B_shelf_all_ok : GSOK Tryz.prog 97 B_shelf_all := spec_ok tok g_shelf_all fmo (Ht := H_shelf_all) (fn := Tryz.f97) (Tryz.func97) (c := C_shelf_all) (by kernel_rfl) (by kernel_rfl) (by kernel_rfl) (by decide +kernel) (by decide) F_shelf_all_eq
end Go.Proofs.Y
namespace Go.Proofs.Y
open Go.Rb Go.Kx
noncomputable def C_shelf_Check : Code := bodyOf Tryz.f78
noncomputable def G_shelf_Check : FuncId → Option GS := tabG [(97, R_shelf_all)]
theorem g_shelf_Check : ΓOK Tryz.prog G_shelf_Check := ΓOK_cons (R_shelf_all_ok) (ΓOK_nil)
def H_shelf_Check : HT := ⟨tabL [(4, .it [] (dyn [.t 14 (.int .i64)]))], tabH []⟩
abbrev is_shelf_Check : List IT := [.v (.one (.sl 95 (.cons (.sl 126 (.cons (.int .i64) (.cons (.int .i64) (.cons (.int .i64) (.one (.sl 4 (.one .bool))))))) (.one (.sl 73 (.cons (.int .i64) (.one (.int .i64)))))))) true]
abbrev os_shelf_Check : List OT := [⟨.one (.int .i64), false, []⟩]
set_option maxRecDepth 100000
noncomputable def F_shelf_Check : List (List (Int × Int × Int × List Bool) × List (Int × Int)) → Option Int := fun (a : List (List (Int × Int × Int × List Bool) × List (Int × Int))) => ifB (neI (lenI a) 4) (some 4) (loopN maxR (fun (x : Int) => ifB (ltI x (lenI a)) (bindO (atI a x) fun (y : List (Int × Int × Int × List Bool) × List (Int × Int)) => bindO (F_shelf_all (y.1, y.2)) fun (y : List (Int × Int) × Int) => ifB (neI y.2 0) (mapO Sum.inr (some y.2)) (some (Sum.inl (wadd .i64 x 1)))) (mapO Sum.inr (some 0))) 0)
theorem F_shelf_Check_eq (x : PI is_shelf_Check) : F_shelf_Check x = fnE T G_shelf_Check H_shelf_Check C_shelf_Check (resOf Tryz.f78) is_shelf_Check os_shelf_Check x := by kernel_rfl
noncomputable abbrev R_shelf_Check : GS := mkSpec false is_shelf_Check os_shelf_Check fun x => F_shelf_Check x
theorem R_shelf_Check_ok : GSOK Tryz.prog 78 R_shelf_Check := spec_ok tok g_shelf_Check fmo (Ht := H_shelf_Check) (fn := Tryz.f78) (Tryz.func78) (c := C_shelf_Check) (by kernel_rfl) (by kernel_rfl) (by kernel_rfl) (by decide +kernel) (by decide) F_shelf_Check_eq
end Go.Proofs.Y
namespace Go.Proofs.Y
open Go.Rb Go.Kx
noncomputable def C_block_Copy : Code := bodyOf Tryz.f140
noncomputable def G_block_Copy : FuncId → Option GS := tabG [(162, R_cloneB)]
theorem g_block_Copy : ΓOK Tryz.prog G_block_Copy := ΓOK_cons (R_cloneB_ok) (ΓOK_nil)
def H_block_Copy : HT := ⟨tabL [], tabH []⟩
abbrev is_block_Copy : List IT := [.v (.cons (.int .i64) (.cons (.int .i64) (.cons (.int .i64) (.one (.sl 4 (.one .bool)))))) true]
abbrev os_block_Copy : List OT := [⟨.cons (.int .i64) (.cons (.int .i64) (.cons (.int .i64) (.one (.sl 4 (.one .bool))))), true, []⟩]
set_option maxRecDepth 100000
noncomputable def F_block_Copy : Int × Int × Int × List Bool → Option (Int × Int × Int × List Bool) := fun (a : Int × Int × Int × List Bool) => bindO (F_cloneB a.2.2.2) fun (y : List Bool) => some (a.1, a.2.1, a.2.2.1, y)
theorem F_block_Copy_eq (x : PI is_block_Copy) : F_block_Copy x = fnE T G_block_Copy H_block_Copy C_block_Copy (resOf Tryz.f140) is_block_Copy os_block_Copy x := by kernel_rfl
noncomputable abbrev R_block_Copy : GS := mkSpec false is_block_Copy os_block_Copy fun x => F_block_Copy x
theorem R_block_Copy_ok : GSOK Tryz.prog 140 R_block_Copy := spec_ok tok g_block_Copy fmo (Ht := H_block_Copy) (fn := Tryz.f140) (Tryz.func140) (c := C_block_Copy) (by kernel_rfl) (by kernel_rfl) (by kernel_rfl) (by decide +kernel) (by decide) F_block_Copy_eq
end Go.Proofs.Y
namespace Go.Proofs.Y
open Go.Rb Go.Kx
noncomputable def C_shelf_Copy : Code := bodyOf Tryz.f107
noncomputable def G_shelf_Copy : FuncId → Option GS := tabG [(137, R_cloneRw), (138, R_cloneBk), (139, R_cloneP), (140, R_block_Copy)]
theorem g_shelf_Copy : ΓOK Tryz.prog G_shelf_Copy := ΓOK_cons (R_cloneRw_ok) (ΓOK_cons (R_cloneBk_ok) (ΓOK_cons (R_cloneP_ok) (ΓOK_cons (R_block_Copy_ok) (ΓOK_nil))))
def H_shelf_Copy : HT := ⟨tabL [(3, .unroll 5), (7, .it [] (dyn [.t 33 (.int .i64), .b 29 0 126 (.cons (.int .i64) (.cons (.int .i64) (.cons (.int .i64) (.one (.sl 4 (.one .bool))))))]))], tabH [(2, [.expl 1 0])]⟩
noncomputable def I_shelf_Copy : GS := inl T G_shelf_Copy H_shelf_Copy C_shelf_Copy (resOf Tryz.f107) (Tryz.f107.ntmps)
theorem I_shelf_Copy_ok : GSOK Tryz.prog 107 I_shelf_Copy := inl_ok tok g_shelf_Copy fmo (Ht := H_shelf_Copy) (fn := Tryz.f107) (Tryz.func107) (c := C_shelf_Copy) (by kernel_rfl) (by kernel_rfl) (by kernel_rfl)
end Go.Proofs.Y
namespace Go.Proofs.Y
open Go.Rb Go.Kx
noncomputable def C_shelf_Put : Code := bodyOf Tryz.f80
noncomputable def G_shelf_Put : FuncId → Option GS := tabG [(78, R_shelf_Check), (107, I_shelf_Copy), (97, B_shelf_all)]
theorem g_shelf_Put : ΓOK Tryz.prog G_shelf_Put := ΓOK_cons (R_shelf_Check_ok) (ΓOK_cons (I_shelf_Copy_ok) (ΓOK_cons (B_shelf_all_ok) (ΓOK_nil)))
def H_shelf_Put : HT := ⟨tabL [(8, .it [] (dyn [.t 26 (.int .i64), .q 2 0 1 73 (.cons (.int .i64) (.one (.int .i64))), .q 2 0 3 73 (.cons (.int .i64) (.one (.int .i64))), .q 2 0 5 73 (.cons (.int .i64) (.one (.int .i64))), .q 2 0 7 73 (.cons (.int .i64) (.one (.int .i64)))]))], tabH [(18, [.frzq 2 0 0, .frzq 2 0 1, .frzq 2 0 2, .frzq 2 0 3, .frzq 2 0 4, .frzq 2 0 5, .frzq 2 0 6, .frzq 2 0 7, .pack 2 0 (.cons (.sl 126 (.cons (.int .i64) (.cons (.int .i64) (.cons (.int .i64) (.one (.sl 4 (.one .bool))))))) (.one (.sl 73 (.cons (.int .i64) (.one (.int .i64))))))])]⟩
abbrev is_shelf_Put : List IT := [.v (.one (.sl 95 (.cons (.sl 126 (.cons (.int .i64) (.cons (.int .i64) (.cons (.int .i64) (.one (.sl 4 (.one .bool))))))) (.one (.sl 73 (.cons (.int .i64) (.one (.int .i64)))))))) true, .v (.one (.sl 77 (.cons (.int .i64) (.cons (.int .i64) (.one (.int .i64)))))) false]
abbrev os_shelf_Put : List OT := [⟨.one (.sl 95 (.cons (.sl 126 (.cons (.int .i64) (.cons (.int .i64) (.cons (.int .i64) (.one (.sl 4 (.one .bool))))))) (.one (.sl 73 (.cons (.int .i64) (.one (.int .i64))))))), true, []⟩, ⟨.one (.int .i64), false, []⟩]
set_option maxRecDepth 100000
noncomputable def F_shelf_Put : List (List (Int × Int × Int × List Bool) × List (Int × Int)) → List (Int × Int × Int) → Option (List (List (Int × Int × Int × List Bool) × List (Int × Int)) × Int) := fun (a : List (List (Int × Int × Int × List Bool) × List (Int × Int))) (b : List (Int × Int × Int)) => bindO (F_shelf_Check a) fun (y : Int) => ifB (neI y 0) (some ([], y)) (ifB (gtI (lenI b) 10) (some ([], 2)) (bindO (F_cloneRw a) fun (y : List (List (Int × Int × Int × List Bool) × List (Int × Int))) => bindO (four y) fun (y : (List (Int × Int × Int × List Bool) × List (Int × Int)) × (List (Int × Int × Int × List Bool) × List (Int × Int)) × (List (Int × Int × Int × List Bool) × List (Int × Int)) × List (Int × Int × Int × List Bool) × List (Int × Int)) => bindO (F_cloneBk y.1.1) fun (y_1 : List (Int × Int × Int × List Bool)) => bindO (F_cloneP y.1.2) fun (y_2 : List (Int × Int)) => loopN maxR (fun (x : Int × List (Int × Int × Int × List Bool)) => ifB (ltI x.1 (lenI y.1.1)) (bindO (atI y.1.1 x.1) fun (y : Int × Int × Int × List Bool) => bindO (F_block_Copy (y.1, y.2.1, y.2.2.1, y.2.2.2)) fun (y : Int × Int × Int × List Bool) => ifB (ltL x.1 x.2) (bindO (atN x.2 (natI x.1)) fun (y_3 : Int × Int × Int × List Bool) => some (Sum.inl (wadd .i64 x.1 1, setN x.2 (natI x.1) (y.1, y.2.1, y.2.2.1, y.2.2.2)))) none) (mapO Sum.inr (bindO (F_cloneBk y.2.1.1) fun (y_3 : List (Int × Int × Int × List Bool)) => bindO (F_cloneP y.2.1.2) fun (y_4 : List (Int × Int)) => loopN maxR (fun (x_1 : Int × List (Int × Int × Int × List Bool)) => ifB (ltI x_1.1 (lenI y.2.1.1)) (bindO (atI y.2.1.1 x_1.1) fun (y : Int × Int × Int × List Bool) => bindO (F_block_Copy (y.1, y.2.1, y.2.2.1, y.2.2.2)) fun (y : Int × Int × Int × List Bool) => ifB (ltL x_1.1 x_1.2) (bindO (atN x_1.2 (natI x_1.1)) fun (y_5 : Int × Int × Int × List Bool) => some (Sum.inl (wadd .i64 x_1.1 1, setN x_1.2 (natI x_1.1) (y.1, y.2.1, y.2.2.1, y.2.2.2)))) none) (mapO Sum.inr (bindO (F_cloneBk y.2.2.1.1) fun (y_5 : List (Int × Int × Int × List Bool)) => bindO (F_cloneP y.2.2.1.2) fun (y_6 : List (Int × Int)) => loopN maxR (fun (x_2 : Int × List (Int × Int × Int × List Bool)) => ifB (ltI x_2.1 (lenI y.2.2.1.1)) (bindO (atI y.2.2.1.1 x_2.1) fun (y : Int × Int × Int × List Bool) => bindO (F_block_Copy (y.1, y.2.1, y.2.2.1, y.2.2.2)) fun (y : Int × Int × Int × List Bool) => ifB (ltL x_2.1 x_2.2) (bindO (atN x_2.2 (natI x_2.1)) fun (y_7 : Int × Int × Int × List Bool) => some (Sum.inl (wadd .i64 x_2.1 1, setN x_2.2 (natI x_2.1) (y.1, y.2.1, y.2.2.1, y.2.2.2)))) none) (mapO Sum.inr (bindO (F_cloneBk y.2.2.2.1) fun (y_7 : List (Int × Int × Int × List Bool)) => bindO (F_cloneP y.2.2.2.2) fun (y_8 : List (Int × Int)) => loopN maxR (fun (x_3 : Int × List (Int × Int × Int × List Bool)) => ifB (ltI x_3.1 (lenI y.2.2.2.1)) (bindO (atI y.2.2.2.1 x_3.1) fun (y : Int × Int × Int × List Bool) => bindO (F_block_Copy (y.1, y.2.1, y.2.2.1, y.2.2.2)) fun (y : Int × Int × Int × List Bool) => ifB (ltL x_3.1 x_3.2) (bindO (atN x_3.2 (natI x_3.1)) fun (y_9 : Int × Int × Int × List Bool) => some (Sum.inl (wadd .i64 x_3.1 1, setN x_3.2 (natI x_3.1) (y.1, y.2.1, y.2.2.1, y.2.2.2)))) none) (mapO Sum.inr (loopN maxR (fun (x_4 : Int × List (Int × Int) × List (Int × Int) × List (Int × Int) × List (Int × Int)) => ifB (ltI x_4.1 (lenI b)) (bindO (atI b x_4.1) fun (y : Int × Int × Int) => ifB (ltI y.1 0) (mapO Sum.inr (some ([], 5))) (ifB (geI y.1 4) (mapO Sum.inr (some ([], 5))) (ifB (eqI y.1 0) (ifB (roomA 16 x_4.2.1 [(y.2.1, y.2.2)]) (bindO (F_shelf_all (x.2, cat x_4.2.1 [(y.2.1, y.2.2)])) fun (y_9 : List (Int × Int) × Int) => ifB (neI y_9.2 0) (mapO Sum.inr (some ([], y_9.2))) (some (Sum.inl (wadd .i64 x_4.1 1, cat x_4.2.1 [(y.2.1, y.2.2)], x_4.2.2.1, x_4.2.2.2.1, x_4.2.2.2.2)))) none) (ifB (eqI y.1 1) (ifB (roomA 16 x_4.2.2.1 [(y.2.1, y.2.2)]) (bindO (F_shelf_all (x_1.2, cat x_4.2.2.1 [(y.2.1, y.2.2)])) fun (y_9 : List (Int × Int) × Int) => ifB (neI y_9.2 0) (mapO Sum.inr (some ([], y_9.2))) (some (Sum.inl (wadd .i64 x_4.1 1, x_4.2.1, cat x_4.2.2.1 [(y.2.1, y.2.2)], x_4.2.2.2.1, x_4.2.2.2.2)))) none) (ifB (eqI y.1 2) (ifB (roomA 16 x_4.2.2.2.1 [(y.2.1, y.2.2)]) (bindO (F_shelf_all (x_2.2, cat x_4.2.2.2.1 [(y.2.1, y.2.2)])) fun (y_9 : List (Int × Int) × Int) => ifB (neI y_9.2 0) (mapO Sum.inr (some ([], y_9.2))) (some (Sum.inl (wadd .i64 x_4.1 1, x_4.2.1, x_4.2.2.1, cat x_4.2.2.2.1 [(y.2.1, y.2.2)], x_4.2.2.2.2)))) none) (ifB (eqI y.1 3) (ifB (roomA 16 x_4.2.2.2.2 [(y.2.1, y.2.2)]) (bindO (F_shelf_all (x_3.2, cat x_4.2.2.2.2 [(y.2.1, y.2.2)])) fun (y_9 : List (Int × Int) × Int) => ifB (neI y_9.2 0) (mapO Sum.inr (some ([], y_9.2))) (some (Sum.inl (wadd .i64 x_4.1 1, x_4.2.1, x_4.2.2.1, x_4.2.2.2.1, cat x_4.2.2.2.2 [(y.2.1, y.2.2)])))) none) none)))))) (mapO Sum.inr (some ([(x.2, x_4.2.1), (x_1.2, x_4.2.2.1), (x_2.2, x_4.2.2.2.1), (x_3.2, x_4.2.2.2.2)], 0)))) (0, y_2, y_4, y_6, y_8)))) (0, y_7)))) (0, y_5)))) (0, y_3)))) (0, y_1)))
theorem F_shelf_Put_eq (x : PI is_shelf_Put) : F_shelf_Put (x.1) (x.2) = fnE T G_shelf_Put H_shelf_Put C_shelf_Put (resOf Tryz.f80) is_shelf_Put os_shelf_Put x := by kernel_rfl
noncomputable abbrev R_shelf_Put : GS := mkSpec false is_shelf_Put os_shelf_Put fun x => F_shelf_Put (x.1) (x.2)
theorem R_shelf_Put_ok : GSOK Tryz.prog 80 R_shelf_Put := spec_ok tok g_shelf_Put fmo (Ht := H_shelf_Put) (fn := Tryz.f80) (Tryz.func80) (c := C_shelf_Put) (by kernel_rfl) (by kernel_rfl) (by kernel_rfl) (by decide +kernel) (by decide) F_shelf_Put_eq
end Go.Proofs.Y
namespace Go.Proofs.Y
open Go.Rb Go.Kx
noncomputable def C_zig_fold : Code := bodyOf Tryz.f183
noncomputable def G_zig_fold : FuncId → Option GS := tabG []
theorem g_zig_fold : ΓOK Tryz.prog G_zig_fold := ΓOK_nil
def H_zig_fold : HT := ⟨tabL [], tabH []⟩
abbrev is_zig_fold : List IT := [.v (.one (.int .i64)) false]
abbrev os_zig_fold : List OT := [⟨.one (.int .i64), false, []⟩]
set_option maxRecDepth 100000
noncomputable def F_zig_fold : Int → Option Int := fun (a : Int) => ifB (ltI a 0) (some (wsub .i64 (wmul .i64 (-2) a) 1)) (some (wmul .i64 2 a))
theorem F_zig_fold_eq (x : PI is_zig_fold) : F_zig_fold x = fnE T G_zig_fold H_zig_fold C_zig_fold (resOf Tryz.f183) is_zig_fold os_zig_fold x := by kernel_rfl
noncomputable abbrev R_zig_fold : GS := mkSpec false is_zig_fold os_zig_fold fun x => F_zig_fold x
theorem R_zig_fold_ok : GSOK Tryz.prog 183 R_zig_fold := spec_ok tok g_zig_fold fmo (Ht := H_zig_fold) (fn := Tryz.f183) (Tryz.func183) (c := C_zig_fold) (by kernel_rfl) (by kernel_rfl) (by kernel_rfl) (by decide +kernel) (by decide) F_zig_fold_eq
end Go.Proofs.Y
namespace Go.Proofs.Y
open Go.Rb Go.Kx
noncomputable def C_bits_Put : Code := bodyOf Tryz.f184
noncomputable def G_bits_Put : FuncId → Option GS := tabG [(162, R_cloneB)]
theorem g_bits_Put : ΓOK Tryz.prog G_bits_Put := ΓOK_cons (R_cloneB_ok) (ΓOK_nil)
def H_bits_Put : HT := ⟨tabL [(5, .it [] (dyn [.a 0 4 (.one .bool), .t 8 (.int .i64)]))], tabH []⟩
abbrev is_bits_Put : List IT := [.v (.one (.sl 4 (.one .bool))) false, .v (.one (.int .i64)) false, .v (.one (.int .i64)) false]
abbrev os_bits_Put : List OT := [⟨.one (.sl 4 (.one .bool)), false, []⟩, ⟨.one (.int .i64), false, []⟩]
set_option maxRecDepth 100000
noncomputable def F_bits_Put : List Bool → Int → Int → Option (List Bool × Int) := fun (a : List Bool) (b c : Int) => ifB (ltI c 0) (some ([], 3)) (ifB (gtI c 40) (some ([], 3)) (ifB (ltI b 0) (some ([], 3)) (ifB (ltI c 0) none (ifB (neI (wshr .i64 b c) 0) (some ([], 3)) (bindO (F_cloneB a) fun (y : List Bool) => loopN maxR (fun (x : Int × List Bool) => ifB (geI x.1 0) (ifB (ltI x.1 0) none (ifB (roomA 1 x.2 [eqI (wand .i64 (wshr .i64 b x.1) 1) 1]) (some (Sum.inl (wsub .i64 x.1 1, cat x.2 [eqI (wand .i64 (wshr .i64 b x.1) 1) 1]))) none)) (mapO Sum.inr (some (x.2, 0)))) (wsub .i64 c 1, y))))))
theorem F_bits_Put_eq (x : PI is_bits_Put) : F_bits_Put (x.1) (x.2.1) (x.2.2) = fnE T G_bits_Put H_bits_Put C_bits_Put (resOf Tryz.f184) is_bits_Put os_bits_Put x := by kernel_rfl
noncomputable abbrev R_bits_Put : GS := mkSpec false is_bits_Put os_bits_Put fun x => F_bits_Put (x.1) (x.2.1) (x.2.2)
theorem R_bits_Put_ok : GSOK Tryz.prog 184 R_bits_Put := spec_ok tok g_bits_Put fmo (Ht := H_bits_Put) (fn := Tryz.f184) (Tryz.func184) (c := C_bits_Put) (by kernel_rfl) (by kernel_rfl) (by kernel_rfl) (by decide +kernel) (by decide) F_bits_Put_eq
end Go.Proofs.Y
namespace Go.Proofs.Y
open Go.Rb Go.Kx
noncomputable def C_zig_Put : Code := bodyOf Tryz.f168
noncomputable def G_zig_Put : FuncId → Option GS := tabG [(183, R_zig_fold), (184, R_bits_Put)]
theorem g_zig_Put : ΓOK Tryz.prog G_zig_Put := ΓOK_cons (R_zig_fold_ok) (ΓOK_cons (R_bits_Put_ok) (ΓOK_nil))
def H_zig_Put : HT := ⟨tabL [(4, .it [] (dyn [.t 0 (.sl 4 (.one .bool)), .t 6 (.int .i64)]))], tabH []⟩
abbrev is_zig_Put : List IT := [.v (.one (.sl 4 (.one .bool))) false, .v (.one (.int .i64)) false]
abbrev os_zig_Put : List OT := [⟨.one (.sl 4 (.one .bool)), false, []⟩, ⟨.one (.int .i64), false, []⟩]
set_option maxRecDepth 100000
noncomputable def F_zig_Put : List Bool → Int → Option (List Bool × Int) := fun (a : List Bool) (b : Int) => ifB (ltI b (-4000000)) (some ([], 3)) (ifB (gtI b 4000000) (some ([], 3)) (bindO (F_zig_fold b) fun (y : Int) => loopN maxR (fun (x : List Bool × Int) => ifB (geI x.2 8) (bindO (F_bits_Put x.1 (wadd .i64 8 (wrem x.2 8)) 4) fun (y : List Bool × Int) => some (Sum.inl (y.1, wquo .i64 x.2 8))) (bindO (F_bits_Put x.1 (wadd .i64 0 (wrem x.2 8)) 4) fun (y : List Bool × Int) => mapO Sum.inr (some (y.1, 0)))) (a, y)))
theorem F_zig_Put_eq (x : PI is_zig_Put) : F_zig_Put (x.1) (x.2) = fnE T G_zig_Put H_zig_Put C_zig_Put (resOf Tryz.f168) is_zig_Put os_zig_Put x := by kernel_rfl
noncomputable abbrev R_zig_Put : GS := mkSpec false is_zig_Put os_zig_Put fun x => F_zig_Put (x.1) (x.2)
theorem R_zig_Put_ok : GSOK Tryz.prog 168 R_zig_Put := spec_ok tok g_zig_Put fmo (Ht := H_zig_Put) (fn := Tryz.f168) (Tryz.func168) (c := C_zig_Put) (by kernel_rfl) (by kernel_rfl) (by kernel_rfl) (by decide +kernel) (by decide) F_zig_Put_eq
end Go.Proofs.Y
namespace Go.Proofs.Y
open Go.Rb Go.Kx
noncomputable def C_line_Pack : Code := bodyOf Tryz.f145
noncomputable def G_line_Pack : FuncId → Option GS := tabG [(50, R_line_Check), (168, R_zig_Put)]
theorem g_line_Pack : ΓOK Tryz.prog G_line_Pack := ΓOK_cons (R_line_Check_ok) (ΓOK_cons (R_zig_Put_ok) (ΓOK_nil))
def H_line_Pack : HT := ⟨tabL [(8, .it [] (dyn [.t 5 (.sl 4 (.one .bool)), .t 7 (.int .i64), .t 17 (.int .i64), .c 6 0 (.int .i64), .c 6 1 (.int .i64)]))], tabH []⟩
abbrev is_line_Pack : List IT := [.v (.one (.sl 73 (.cons (.int .i64) (.one (.int .i64))))) false]
abbrev os_line_Pack : List OT := [⟨.one (.sl 4 (.one .bool)), false, []⟩, ⟨.one (.int .i64), false, []⟩]
set_option maxRecDepth 100000
noncomputable def F_line_Pack : List (Int × Int) → Option (List Bool × Int) := fun (a : List (Int × Int)) => bindO (F_line_Check a) fun (y : Int) => ifB (neI y 0) (some ([], y)) (loopN maxR (fun (x : List Bool × Int × Int × Int × Int) => ifB (ltI x.2.2.1 (lenI a)) (bindO (atI a x.2.2.1) fun (y : Int × Int) => bindO (F_zig_Put x.1 (wsub .i64 (wsub .i64 y.1 x.2.2.2.1) x.2.1)) fun (y_1 : List Bool × Int) => bindO (F_zig_Put y_1.1 (wsub .i64 y.2 x.2.2.2.2)) fun (y_2 : List Bool × Int) => some (Sum.inl (y_2.1, wsub .i64 y.1 x.2.2.2.1, wadd .i64 x.2.2.1 1, y.1, y.2))) (mapO Sum.inr (some (x.1, 0)))) ([], 0, 0, 0, 0))
theorem F_line_Pack_eq (x : PI is_line_Pack) : F_line_Pack x = fnE T G_line_Pack H_line_Pack C_line_Pack (resOf Tryz.f145) is_line_Pack os_line_Pack x := by kernel_rfl
noncomputable abbrev R_line_Pack : GS := mkSpec false is_line_Pack os_line_Pack fun x => F_line_Pack x
theorem R_line_Pack_ok : GSOK Tryz.prog 145 R_line_Pack := spec_ok tok g_line_Pack fmo (Ht := H_line_Pack) (fn := Tryz.f145) (Tryz.func145) (c := C_line_Pack) (by kernel_rfl) (by kernel_rfl) (by kernel_rfl) (by decide +kernel) (by decide) F_line_Pack_eq
end Go.Proofs.Y
namespace Go.Proofs.Y
open Go.Rb Go.Kx
noncomputable def C_block_Make : Code := bodyOf Tryz.f114
noncomputable def G_block_Make : FuncId → Option GS := tabG [(145, R_line_Pack)]
theorem g_block_Make : ΓOK Tryz.prog G_block_Make := ΓOK_cons (R_line_Pack_ok) (ΓOK_nil)
def H_block_Make : HT := ⟨tabL [], tabH []⟩
abbrev is_block_Make : List IT := [.v (.one (.sl 73 (.cons (.int .i64) (.one (.int .i64))))) false]
abbrev os_block_Make : List OT := [⟨.cons (.int .i64) (.cons (.int .i64) (.cons (.int .i64) (.one (.sl 4 (.one .bool))))), true, []⟩, ⟨.one (.int .i64), false, []⟩]
set_option maxRecDepth 100000
noncomputable def F_block_Make : List (Int × Int) → Option ((Int × Int × Int × List Bool) × Int) := fun (a : List (Int × Int)) => bindO (F_line_Pack a) fun (y : List Bool × Int) => ifB (neI y.2 0) (some ((0, 0, 0, []), y.2)) (ifB (eqI (lenI a) 0) (some ((0, 0, 0, []), 4)) (bindO (atI a 0) fun (y_1 : Int × Int) => bindO (atI a (wsub .i64 (lenI a) 1)) fun (y_2 : Int × Int) => some ((lenI a, y_1.1, y_2.1, y.1), 0)))
theorem F_block_Make_eq (x : PI is_block_Make) : F_block_Make x = fnE T G_block_Make H_block_Make C_block_Make (resOf Tryz.f114) is_block_Make os_block_Make x := by kernel_rfl
noncomputable abbrev R_block_Make : GS := mkSpec false is_block_Make os_block_Make fun x => F_block_Make x
theorem R_block_Make_ok : GSOK Tryz.prog 114 R_block_Make := spec_ok tok g_block_Make fmo (Ht := H_block_Make) (fn := Tryz.f114) (Tryz.func114) (c := C_block_Make) (by kernel_rfl) (by kernel_rfl) (by kernel_rfl) (by decide +kernel) (by decide) F_block_Make_eq
end Go.Proofs.Y
namespace Go.Proofs.Y
open Go.Rb Go.Kx
noncomputable def C_shelf_Seal : Code := bodyOf Tryz.f81
noncomputable def G_shelf_Seal : FuncId → Option GS := tabG [(78, R_shelf_Check), (107, I_shelf_Copy), (114, R_block_Make)]
theorem g_shelf_Seal : ΓOK Tryz.prog G_shelf_Seal := ΓOK_cons (R_shelf_Check_ok) (ΓOK_cons (I_shelf_Copy_ok) (ΓOK_cons (R_block_Make_ok) (ΓOK_nil)))
def H_shelf_Seal : HT := ⟨tabL [], tabH [(16, [.frzq 3 0 0, .frzq 3 0 1, .frzq 3 0 2, .frzq 3 0 3, .frzq 3 0 4, .frzq 3 0 5, .frzq 3 0 6, .frzq 3 0 7, .pack 3 0 (.cons (.sl 126 (.cons (.int .i64) (.cons (.int .i64) (.cons (.int .i64) (.one (.sl 4 (.one .bool))))))) (.one (.sl 73 (.cons (.int .i64) (.one (.int .i64))))))])]⟩
abbrev is_shelf_Seal : List IT := [.v (.one (.sl 95 (.cons (.sl 126 (.cons (.int .i64) (.cons (.int .i64) (.cons (.int .i64) (.one (.sl 4 (.one .bool))))))) (.one (.sl 73 (.cons (.int .i64) (.one (.int .i64)))))))) true, .v (.one (.int .i64)) false, .v (.one (.int .i64)) false]
abbrev os_shelf_Seal : List OT := [⟨.one (.sl 95 (.cons (.sl 126 (.cons (.int .i64) (.cons (.int .i64) (.cons (.int .i64) (.one (.sl 4 (.one .bool))))))) (.one (.sl 73 (.cons (.int .i64) (.one (.int .i64))))))), true, []⟩, ⟨.one (.int .i64), false, []⟩]
set_option maxRecDepth 100000
noncomputable def F_shelf_Seal : List (List (Int × Int × Int × List Bool) × List (Int × Int)) → Int → Int → Option (List (List (Int × Int × Int × List Bool) × List (Int × Int)) × Int) := fun (a : List (List (Int × Int × Int × List Bool) × List (Int × Int))) (b c : Int) => bindO (F_shelf_Check a) fun (y : Int) => ifB (neI y 0) (some ([], y)) (ifB (ltI b 0) (some ([], 5)) (ifB (geI b (lenI a)) (some ([], 5)) (bindO (F_cloneRw a) fun (y : List (List (Int × Int × Int × List Bool) × List (Int × Int))) => bindO (four y) fun (y : (List (Int × Int × Int × List Bool) × List (Int × Int)) × (List (Int × Int × Int × List Bool) × List (Int × Int)) × (List (Int × Int × Int × List Bool) × List (Int × Int)) × List (Int × Int × Int × List Bool) × List (Int × Int)) => bindO (F_cloneBk y.1.1) fun (y_1 : List (Int × Int × Int × List Bool)) => bindO (F_cloneP y.1.2) fun (y_2 : List (Int × Int)) => loopN maxR (fun (x : Int × List (Int × Int × Int × List Bool)) => ifB (ltI x.1 (lenI y.1.1)) (bindO (atI y.1.1 x.1) fun (y : Int × Int × Int × List Bool) => bindO (F_block_Copy (y.1, y.2.1, y.2.2.1, y.2.2.2)) fun (y : Int × Int × Int × List Bool) => ifB (ltL x.1 x.2) (bindO (atN x.2 (natI x.1)) fun (y_3 : Int × Int × Int × List Bool) => some (Sum.inl (wadd .i64 x.1 1, setN x.2 (natI x.1) (y.1, y.2.1, y.2.2.1, y.2.2.2)))) none) (mapO Sum.inr (bindO (F_cloneBk y.2.1.1) fun (y_3 : List (Int × Int × Int × List Bool)) => bindO (F_cloneP y.2.1.2) fun (y_4 : List (Int × Int)) => loopN maxR (fun (x_1 : Int × List (Int × Int × Int × List Bool)) => ifB (ltI x_1.1 (lenI y.2.1.1)) (bindO (atI y.2.1.1 x_1.1) fun (y : Int × Int × Int × List Bool) => bindO (F_block_Copy (y.1, y.2.1, y.2.2.1, y.2.2.2)) fun (y : Int × Int × Int × List Bool) => ifB (ltL x_1.1 x_1.2) (bindO (atN x_1.2 (natI x_1.1)) fun (y_5 : Int × Int × Int × List Bool) => some (Sum.inl (wadd .i64 x_1.1 1, setN x_1.2 (natI x_1.1) (y.1, y.2.1, y.2.2.1, y.2.2.2)))) none) (mapO Sum.inr (bindO (F_cloneBk y.2.2.1.1) fun (y_5 : List (Int × Int × Int × List Bool)) => bindO (F_cloneP y.2.2.1.2) fun (y_6 : List (Int × Int)) => loopN maxR (fun (x_2 : Int × List (Int × Int × Int × List Bool)) => ifB (ltI x_2.1 (lenI y.2.2.1.1)) (bindO (atI y.2.2.1.1 x_2.1) fun (y : Int × Int × Int × List Bool) => bindO (F_block_Copy (y.1, y.2.1, y.2.2.1, y.2.2.2)) fun (y : Int × Int × Int × List Bool) => ifB (ltL x_2.1 x_2.2) (bindO (atN x_2.2 (natI x_2.1)) fun (y_7 : Int × Int × Int × List Bool) => some (Sum.inl (wadd .i64 x_2.1 1, setN x_2.2 (natI x_2.1) (y.1, y.2.1, y.2.2.1, y.2.2.2)))) none) (mapO Sum.inr (bindO (F_cloneBk y.2.2.2.1) fun (y_7 : List (Int × Int × Int × List Bool)) => bindO (F_cloneP y.2.2.2.2) fun (y_8 : List (Int × Int)) => loopN maxR (fun (x_3 : Int × List (Int × Int × Int × List Bool)) => ifB (ltI x_3.1 (lenI y.2.2.2.1)) (bindO (atI y.2.2.2.1 x_3.1) fun (y : Int × Int × Int × List Bool) => bindO (F_block_Copy (y.1, y.2.1, y.2.2.1, y.2.2.2)) fun (y : Int × Int × Int × List Bool) => ifB (ltL x_3.1 x_3.2) (bindO (atN x_3.2 (natI x_3.1)) fun (y_9 : Int × Int × Int × List Bool) => some (Sum.inl (wadd .i64 x_3.1 1, setN x_3.2 (natI x_3.1) (y.1, y.2.1, y.2.2.1, y.2.2.2)))) none) (mapO Sum.inr (ifB (eqI b 0) (ifB (ltI c 1) (some ([], 3)) (ifB (gtI c (lenI y_2)) (some ([], 3)) (ifB (eqI (lenI x.2) 8) (some ([], 2)) (ifB (in1 y_2 c) (ifB (inN y_2 0 (natI c)) (bindO (F_block_Make (subN y_2 0 (natI c))) fun (y : (Int × Int × Int × List Bool) × Int) => ifB (neI y.2 0) (some ([], y.2)) (ifB (roomA 48 x.2 [(y.1.1, y.1.2.1, y.1.2.2.1, y.1.2.2.2)]) (ifB (in1 y_2 c) (some ([(cat x.2 [(y.1.1, y.1.2.1, y.1.2.2.1, y.1.2.2.2)], dropI y_2 c), (x_1.2, y_4), (x_2.2, y_6), (x_3.2, y_8)], 0)) none) none)) none) none)))) (ifB (eqI b 1) (ifB (ltI c 1) (some ([], 3)) (ifB (gtI c (lenI y_4)) (some ([], 3)) (ifB (eqI (lenI x_1.2) 8) (some ([], 2)) (ifB (in1 y_4 c) (ifB (inN y_4 0 (natI c)) (bindO (F_block_Make (subN y_4 0 (natI c))) fun (y : (Int × Int × Int × List Bool) × Int) => ifB (neI y.2 0) (some ([], y.2)) (ifB (roomA 48 x_1.2 [(y.1.1, y.1.2.1, y.1.2.2.1, y.1.2.2.2)]) (ifB (in1 y_4 c) (some ([(x.2, y_2), (cat x_1.2 [(y.1.1, y.1.2.1, y.1.2.2.1, y.1.2.2.2)], dropI y_4 c), (x_2.2, y_6), (x_3.2, y_8)], 0)) none) none)) none) none)))) (ifB (eqI b 2) (ifB (ltI c 1) (some ([], 3)) (ifB (gtI c (lenI y_6)) (some ([], 3)) (ifB (eqI (lenI x_2.2) 8) (some ([], 2)) (ifB (in1 y_6 c) (ifB (inN y_6 0 (natI c)) (bindO (F_block_Make (subN y_6 0 (natI c))) fun (y : (Int × Int × Int × List Bool) × Int) => ifB (neI y.2 0) (some ([], y.2)) (ifB (roomA 48 x_2.2 [(y.1.1, y.1.2.1, y.1.2.2.1, y.1.2.2.2)]) (ifB (in1 y_6 c) (some ([(x.2, y_2), (x_1.2, y_4), (cat x_2.2 [(y.1.1, y.1.2.1, y.1.2.2.1, y.1.2.2.2)], dropI y_6 c), (x_3.2, y_8)], 0)) none) none)) none) none)))) (ifB (eqI b 3) (ifB (ltI c 1) (some ([], 3)) (ifB (gtI c (lenI y_8)) (some ([], 3)) (ifB (eqI (lenI x_3.2) 8) (some ([], 2)) (ifB (in1 y_8 c) (ifB (inN y_8 0 (natI c)) (bindO (F_block_Make (subN y_8 0 (natI c))) fun (y : (Int × Int × Int × List Bool) × Int) => ifB (neI y.2 0) (some ([], y.2)) (ifB (roomA 48 x_3.2 [(y.1.1, y.1.2.1, y.1.2.2.1, y.1.2.2.2)]) (ifB (in1 y_8 c) (some ([(x.2, y_2), (x_1.2, y_4), (x_2.2, y_6), (cat x_3.2 [(y.1.1, y.1.2.1, y.1.2.2.1, y.1.2.2.2)], dropI y_8 c)], 0)) none) none)) none) none)))) none)))))) (0, y_7)))) (0, y_5)))) (0, y_3)))) (0, y_1))))
theorem F_shelf_Seal_eq (x : PI is_shelf_Seal) : F_shelf_Seal (x.1) (x.2.1) (x.2.2) = fnE T G_shelf_Seal H_shelf_Seal C_shelf_Seal (resOf Tryz.f81) is_shelf_Seal os_shelf_Seal x := by kernel_rfl
noncomputable abbrev R_shelf_Seal : GS := mkSpec false is_shelf_Seal os_shelf_Seal fun x => F_shelf_Seal (x.1) (x.2.1) (x.2.2)
theorem R_shelf_Seal_ok : GSOK Tryz.prog 81 R_shelf_Seal := spec_ok tok g_shelf_Seal fmo (Ht := H_shelf_Seal) (fn := Tryz.f81) (Tryz.func81) (c := C_shelf_Seal) (by kernel_rfl) (by kernel_rfl) (by kernel_rfl) (by decide +kernel) (by decide) F_shelf_Seal_eq
end Go.Proofs.Y
namespace Go.Proofs.Y
open Go.Rb Go.Kx
noncomputable def C_growP : Code := bodyOf Tryz.f169
noncomputable def G_growP : FuncId → Option GS := tabG []
theorem g_growP : ΓOK Tryz.prog G_growP := ΓOK_nil
def H_growP : HT := ⟨tabL [], tabH []⟩
noncomputable def I_growP : GS := inl T G_growP H_growP C_growP (resOf Tryz.f169) (Tryz.f169.ntmps)
theorem I_growP_ok : GSOK Tryz.prog 169 I_growP := inl_ok tok g_growP fmo (Ht := H_growP) (fn := Tryz.f169) (Tryz.func169) (c := C_growP) (by kernel_rfl) (by kernel_rfl) (by kernel_rfl)
end Go.Proofs.Y
namespace Go.Proofs.Y
open Go.Rb Go.Kx
noncomputable def C_concatP : Code := bodyOf Tryz.f146
noncomputable def G_concatP : FuncId → Option GS := tabG [(169, I_growP)]
theorem g_concatP : ΓOK Tryz.prog G_concatP := ΓOK_cons (I_growP_ok) (ΓOK_nil)
def H_concatP : HT := ⟨tabL [(3, .it [] (dyn [.t 3 (.int .i64), .t 11 (.int .i64)])), (11, .it [] (dyn [.a 6 73 (.cons (.int .i64) (.one (.int .i64))), .t 27 (.int .i64)]))], tabH [(10, [.trim 6])]⟩
abbrev is_concatP : List IT := [.v (.one (.sl 65 (.one (.sl 73 (.cons (.int .i64) (.one (.int .i64))))))) false]
abbrev os_concatP : List OT := [⟨.one (.sl 73 (.cons (.int .i64) (.one (.int .i64)))), false, []⟩]
set_option maxRecDepth 100000
noncomputable def F_concatP : List (List (Int × Int)) → Option (List (Int × Int)) := fun (a : List (List (Int × Int))) => loopN maxR (fun (x : Int × Int) => ifB (ltI x.2 (lenI a)) (bindO (atI a x.2) fun (y : List (Int × Int)) => ifB (ltI (wadd .i64 x.1 (lenI y)) 0) none (some (Sum.inl (wadd .i64 x.1 (lenI y), wadd .i64 x.2 1)))) (mapO Sum.inr (ifB (ltI x.1 0) none (ifB (gtI (wsub .i64 x.1 (wsub .i64 0 0)) 0) (ifB (roomZ 16 (wsub .i64 x.1 (wsub .i64 0 0))) (ifB (in1 (repI (wsub .i64 x.1 (wsub .i64 0 0)) (0, 0)) 0) (ifB (inN (repI (wsub .i64 x.1 (wsub .i64 0 0)) (0, 0)) 0 (natI 0)) (loopN maxR (fun (x : Int × List (Int × Int)) => ifB (ltI x.1 (lenI a)) (bindO (atI a x.1) fun (y : List (Int × Int)) => ifB (roomA 16 x.2 y) (some (Sum.inl (wadd .i64 x.1 1, cat x.2 y))) none) (mapO Sum.inr (some x.2))) (0, subN (repI (wsub .i64 x.1 (wsub .i64 0 0)) (0, 0)) 0 (natI 0))) none) none) none) (loopN maxR (fun (x : Int × List (Int × Int)) => ifB (ltI x.1 (lenI a)) (bindO (atI a x.1) fun (y : List (Int × Int)) => ifB (roomA 16 x.2 y) (some (Sum.inl (wadd .i64 x.1 1, cat x.2 y))) none) (mapO Sum.inr (some x.2))) (0, [])))))) (0, 0)
theorem F_concatP_eq (x : PI is_concatP) : F_concatP x = fnE T G_concatP H_concatP C_concatP (resOf Tryz.f146) is_concatP os_concatP x := by kernel_rfl
noncomputable abbrev R_concatP : GS := mkSpec false is_concatP os_concatP fun x => F_concatP x
theorem R_concatP_ok : GSOK Tryz.prog 146 R_concatP := spec_ok tok g_concatP fmo (Ht := H_concatP) (fn := Tryz.f146) (Tryz.func146) (c := C_concatP) (by kernel_rfl) (by kernel_rfl) (by kernel_rfl) (by decide +kernel) (by decide) F_concatP_eq
end Go.Proofs.Y
namespace Go.Proofs.Y
open Go.Rb Go.Kx
noncomputable def C_block_Merge : Code := bodyOf Tryz.f115
noncomputable def G_block_Merge : FuncId → Option GS := tabG [(126, R_block_Points), (146, R_concatP), (114, R_block_Make)]
theorem g_block_Merge : ΓOK Tryz.prog G_block_Merge := ΓOK_cons (R_block_Points_ok) (ΓOK_cons (R_concatP_ok) (ΓOK_cons (R_block_Make_ok) (ΓOK_nil)))
def H_block_Merge : HT := ⟨tabL [], tabH []⟩
abbrev is_block_Merge : List IT := [.v (.cons (.int .i64) (.cons (.int .i64) (.cons (.int .i64) (.one (.sl 4 (.one .bool)))))) true, .v (.cons (.int .i64) (.cons (.int .i64) (.cons (.int .i64) (.one (.sl 4 (.one .bool)))))) true]
abbrev os_block_Merge : List OT := [⟨.cons (.int .i64) (.cons (.int .i64) (.cons (.int .i64) (.one (.sl 4 (.one .bool))))), true, []⟩, ⟨.one (.int .i64), false, []⟩]
set_option maxRecDepth 100000
noncomputable def F_block_Merge : Int × Int × Int × List Bool → Int × Int × Int × List Bool → Option ((Int × Int × Int × List Bool) × Int) := fun (a b : Int × Int × Int × List Bool) => bindO (F_block_Points (a.1, a.2.1, a.2.2.1, a.2.2.2)) fun (y : List (Int × Int) × Int) => ifB (neI y.2 0) (some ((0, 0, 0, []), y.2)) (bindO (F_block_Points (b.1, b.2.1, b.2.2.1, b.2.2.2)) fun (y_1 : List (Int × Int) × Int) => ifB (neI y_1.2 0) (some ((0, 0, 0, []), y_1.2)) (bindO (F_concatP [y.1, y_1.1]) fun (y : List (Int × Int)) => bindO (F_block_Make y) fun (y : (Int × Int × Int × List Bool) × Int) => some ((y.1.1, y.1.2.1, y.1.2.2.1, y.1.2.2.2), y.2)))
theorem F_block_Merge_eq (x : PI is_block_Merge) : F_block_Merge (x.1) (x.2) = fnE T G_block_Merge H_block_Merge C_block_Merge (resOf Tryz.f115) is_block_Merge os_block_Merge x := by kernel_rfl
noncomputable abbrev R_block_Merge : GS := mkSpec false is_block_Merge os_block_Merge fun x => F_block_Merge (x.1) (x.2)
theorem R_block_Merge_ok : GSOK Tryz.prog 115 R_block_Merge := spec_ok tok g_block_Merge fmo (Ht := H_block_Merge) (fn := Tryz.f115) (Tryz.func115) (c := C_block_Merge) (by kernel_rfl) (by kernel_rfl) (by kernel_rfl) (by decide +kernel) (by decide) F_block_Merge_eq
end Go.Proofs.Y
namespace Go.Proofs.Y
open Go.Rb Go.Kx
noncomputable def C_deleteB : Code := bodyOf Tryz.f116
noncomputable def G_deleteB : FuncId → Option GS := tabG []
theorem g_deleteB : ΓOK Tryz.prog G_deleteB := ΓOK_nil
def H_deleteB : HT := ⟨tabL [], tabH []⟩
abbrev ws_deleteB : List WA := [.d (.int .i64), .d (.int .i64)]
abbrev os_deleteB : List OT := [⟨.one (.sl 126 (.cons (.int .i64) (.cons (.int .i64) (.cons (.int .i64) (.one (.sl 4 (.one .bool))))))), false, []⟩]
set_option maxRecDepth 100000
noncomputable def F_deleteB : List (Int × Int × Int × List Bool) → Int → Int → Option (List (Int × Int × Int × List Bool)) := fun (a : List (Int × Int × Int × List Bool)) (b c : Int) => ifB (ifB (in2 a b c) (eqI (lenI a) (lenI a)) false) (ifB (eqI b c) (some a) (ifB (in1 a b) (ifB (in1 a c) (ifB (inN a (addN 0 (natI c)) (subNI (lenN a) c)) (ifB (inN a (addN 0 (natI b)) (lenN (subN a (addN 0 (natI c)) (subNI (lenN a) c)))) (ifB (in2C (addN (natI b) (lenN (subN a (addN 0 (natI c)) (subNI (lenN a) c)))) (capN (lenN (overN a (addN 0 (natI b)) (subN a (addN 0 (natI c)) (subNI (lenN a) c)))) 0) (intN (addN (natI b) (lenN (subN a (addN 0 (natI c)) (subNI (lenN a) c))))) (lenI a)) (ifB (inN (overN a (addN 0 (natI b)) (subN a (addN 0 (natI c)) (subNI (lenN a) c))) (addN 0 (natI (intN (addN (natI b) (lenN (subN a (addN 0 (natI c)) (subNI (lenN a) c))))))) (subI (intN (addN (natI b) (lenN (subN a (addN 0 (natI c)) (subNI (lenN a) c))))) (lenI a))) (ifB (inN (overN (overN a (addN 0 (natI b)) (subN a (addN 0 (natI c)) (subNI (lenN a) c))) (addN 0 (natI (intN (addN (natI b) (lenN (subN a (addN 0 (natI c)) (subNI (lenN a) c))))))) (repN (subI (intN (addN (natI b) (lenN (subN a (addN 0 (natI c)) (subNI (lenN a) c))))) (lenI a)) (0, 0, 0, []))) 0 (addN (natI b) (lenN (subN a (addN 0 (natI c)) (subNI (lenN a) c))))) (some (subN (overN (overN a (addN 0 (natI b)) (subN a (addN 0 (natI c)) (subNI (lenN a) c))) (addN 0 (natI (intN (addN (natI b) (lenN (subN a (addN 0 (natI c)) (subNI (lenN a) c))))))) (repN (subI (intN (addN (natI b) (lenN (subN a (addN 0 (natI c)) (subNI (lenN a) c))))) (lenI a)) (0, 0, 0, []))) 0 (addN (natI b) (lenN (subN a (addN 0 (natI c)) (subNI (lenN a) c)))))) none) none) none) none) none) none) none)) none
theorem F_deleteB_eq (rows : List (DenR (.cons (.int .i64) (.cons (.int .i64) (.cons (.int .i64) (.one (.sl 4 (.one .bool)))))))) (x : PW ws_deleteB) : F_deleteB rows (x.1) (x.2.1) = fnM T G_deleteB H_deleteB C_deleteB (resOf Tryz.f116) 126 (.cons (.int .i64) (.cons (.int .i64) (.cons (.int .i64) (.one (.sl 4 (.one .bool)))))) ws_deleteB os_deleteB rows x := by kernel_rfl
noncomputable abbrev R_deleteB : GS := mkMove 126 (.cons (.int .i64) (.cons (.int .i64) (.cons (.int .i64) (.one (.sl 4 (.one .bool)))))) ws_deleteB os_deleteB fun rows x => F_deleteB rows (x.1) (x.2.1)
theorem R_deleteB_ok : GSOK Tryz.prog 116 R_deleteB := move_ok tok g_deleteB fmo (Ht := H_deleteB) (fn := Tryz.f116) (Tryz.func116) (c := C_deleteB) (by kernel_rfl) (by kernel_rfl) (by kernel_rfl) (by decide +kernel) (by decide) F_deleteB_eq
end Go.Proofs.Y
