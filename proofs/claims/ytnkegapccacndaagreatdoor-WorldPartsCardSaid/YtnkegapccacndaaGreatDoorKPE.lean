/-
  What is proved, part by part: what a law is handed is no larger than memory. a world that a law is handed is no larger than memory; its bytes are bytes. what the rows list of package-level variables is what the library's functions ask. Conditions: none.
-/
import Derived.Test.YtnkegapccacndaaGreatDoorKED
import Derived.Test.YtnkegapccacndaaGreatDoorKPA
import Derived.Test.YtnkegapccacndaaGreatDoorProg
import Derived.KernelRfl
import Derived.Test.YtnkegapccacndaaGreatDoorKPD
import Derived.Test.YtnkegapccacndaaGreatDoorRows
set_option linter.unusedVariables false
set_option linter.unusedSimpArgs false
set_option linter.unnecessarySimpa false
set_option maxRecDepth 4000
namespace Go.Proofs.Y
open Go.Rb Go.Kx
theorem by77 : Tryz.prog.bytesOf 77 = 24 := by kernel_rfl
theorem reach_eq : reachBytes = 140737488351232 := by decide +kernel
abbrev entR : RT := .cons (.int .i64) (.cons (.int .i64) (.one (.int .i64)))
abbrev recR : RT := .cons (.int .i64) (.cons (.int .i64) (.cons (.int .i64) (.one (.sl 77 entR))))
theorem op_rec (r : DenR recR) (h : BdR Tryz.prog recR r) : (r : Rc).2.2.2.length < 4611686018427387904 := by
  obtain ⟨_, _, _, h, _⟩ := h
  rw [by77, reach_eq] at h
  show List.length r.2.2.2 < _
  omega
end Go.Proofs.Y
namespace Go.Proofs.Y
open Go.Rb Go.Kx
theorem by5 : Tryz.prog.bytesOf 5 = 1 := by kernel_rfl
theorem by3 : Tryz.prog.bytesOf 3 = 8 := by kernel_rfl
abbrev wPtR : RT := .cons (.int .i64) (.one (.int .i64))
abbrev wBkR : RT := .cons (.int .i64) (.cons (.int .i64) (.cons (.int .i64) (.one (.sl 4 (.one .bool)))))
abbrev wRowR : RT := .cons (.sl 126 wBkR) (.one (.sl 73 wPtR))
abbrev worldR : RT := .cons (.sl 95 wRowR) (.cons (.sl 5 (.one (.int .u8))) (.cons (.sl 5 (.one (.int .u8))) (.cons .bool (.one (.sl 3 (.one (.int .i64)))))))
theorem by41 : Tryz.prog.bytesOf 41 = 48 := by kernel_rfl
theorem op_haps (l : Den (.sl 41 recR)) (h : Bd Tryz.prog (.sl 41 recR) l) : List.length (show List Hp from l) < 4611686018427387904 ∧ ∀ r ∈ (show List Hp from l), r.2.2.2.length < 4611686018427387904 := by
  obtain ⟨h1, h2⟩ := h
  rw [by41, reach_eq] at h1
  refine ⟨?_, fun r hr => op_rec r (h2 r hr)⟩
  show List.length l < _; omega
theorem byte_back {n : Int} (h : (Lit.int .u8 n).wf = true) : ((UInt8.ofNat n.toNat).toNat : Int) = n := by
  have e1 : IntKind.u8.min = 0 := rfl
  have e2 : IntKind.u8.max = 255 := rfl
  simp [Lit.wf, e1, e2] at h
  rw [UInt8.toNat_ofNat']; omega
theorem bytB_strB : ∀ {l : List Int}, (∀ n ∈ l, (Lit.int .u8 n).wf = true) → bytB (strB l) = l
  | [], _ => rfl
  | n :: l, h => by
    have ih := bytB_strB fun m hm => h m (List.mem_cons_of_mem n hm)
    have h0 := byte_back (h n (by simp))
    unfold bytB strB at ih ⊢
    rw [List.map_cons, List.map_cons, ih, h0]
theorem strB_len (l : List Int) : (strB l).length = l.length := by unfold strB; rw [List.length_map]
theorem op_world0 (s : Shf) (a b : List Int) (up : Bool) (rd : List Int) (h1 : a.length ≤ 140737488351232) (h1' : ∀ n ∈ a, (Lit.int .u8 n).wf = true) (h2 : b.length ≤ 140737488351232) (h2' : ∀ n ∈ b, (Lit.int .u8 n).wf = true) (h3 : rd.length * 8 ≤ 140737488351232) :
    ∃ w : Wd, ((s, a, b, up, rd) : Wv) = wvd w ∧ w.2.1.1.length < 4611686018427387904 ∧ w.2.1.2.length < 4611686018427387904 ∧ w.2.2.2.length < 4611686018427387904 := by
  have ea := bytB_strB h1'
  have eb := bytB_strB h2'
  have la := strB_len a
  have lb := strB_len b
  refine ⟨(s, (strB a, strB b), up, rd), ?_, ?_, ?_, ?_⟩
  · show (s, a, b, up, rd) = (s, bytB (strB a), bytB (strB b), up, rd)
    rw [ea, eb]
  · show (strB a).length < _
    omega
  · show (strB b).length < _
    omega
  · show rd.length < _
    omega
theorem op_world (x : DenR worldR) (h : BdR Tryz.prog worldR x) : ∃ w : Wd, (show Wv from x) = wvd w ∧ w.2.1.1.length < 4611686018427387904 ∧ w.2.1.2.length < 4611686018427387904 ∧ w.2.2.2.length < 4611686018427387904 := by
  obtain ⟨_, ⟨h1, h1'⟩, ⟨h2, h2'⟩, _, h3, _⟩ := h
  rw [by5, reach_eq, Nat.mul_one] at h1 h2
  rw [by3, reach_eq] at h3
  exact op_world0 x.1 x.2.1 x.2.2.1 x.2.2.2.1 x.2.2.2.2 h1 (fun n hn => h1' n hn) h2 (fun n hn => h2' n hn) h3
end Go.Proofs.Y
namespace Go.Proofs.YtnkegapccacndaaGreatDoor
open Go.Rb Go.Kx Go.RowKit
abbrev laidL : List (String × DataW Unit) := Rows.storePartsRow.laid
theorem row249 (u : TypeId) (h : Tryz.prog.typeName? 3 u = some "*errors.errorString") : u = 249 :=
  typeName_ptr_named (nm := "errors.errorString") (by kernel_rfl) (by kernel_rfl) (by decide) u h
theorem cells251 : Tryz.prog.cellsOf 251 = 1 := by kernel_rfl
theorem cells9 : Tryz.prog.cellsOf 9 = 1 := by kernel_rfl
theorem glob_of {W : World} (h : laidMetH Tryz.prog laidL W) (hsh : W.ShapedOpen Tryz.prog) : Glob Tryz.prog W ∧ NG Tryz.prog ≤ W.heap.size := by
  rw [MakeChecks.laidMetH_plain _ _ _ (by kernel_rfl)] at h
  have h3 : laidMet Tryz.prog (("internal/strconv.uint64pow10", Lib.tabData .u64 Lib.pow10Tab) :: laidL.drop 3) W := h.tail.tail
  have h5 := h.tail.tail.tail.tail
  have h6 := h5.tail
  refine ⟨⟨?_, ?_, ?_, ?_⟩, ng_le hsh (by kernel_rfl) (by kernel_rfl)⟩
  · exact Lib.tabIs_of_head (g := 1) (t := 238) (e := 202) (n := 20) (by kernel_rfl) (by kernel_rfl) Tryz.underlying238 Tryz.underlying202 (by kernel_rfl) (by kernel_rfl) h3
  · obtain ⟨a, s, hv, _⟩ := laid_sentinel (g := 2) (ti := 183) h6 (by kernel_rfl) (by kernel_rfl) Tryz.underlying183 row249 Tryz.underlying249 Tryz.underlying251 rfl rfl Tryz.underlying9 cells251 cells9
    exact ⟨_, _, hv⟩
  · obtain ⟨a, s, hv, _⟩ := laid_sentinel (g := 3) (ti := 183) h5 (by kernel_rfl) (by kernel_rfl) Tryz.underlying183 row249 Tryz.underlying249 Tryz.underlying251 rfl rfl Tryz.underlying9 cells251 cells9
    exact ⟨_, _, hv⟩
  · exact glob_int (g := 0) (t := 3) (zero := #[.int .i64 0]) hsh (by kernel_rfl) (by kernel_rfl) (by kernel_rfl) (by kernel_rfl) (by kernel_rfl) Tryz.underlying3
theorem own : ownKnob Tryz.prog.godebug = none := by kernel_rfl
theorem laid_fits (os : Os) : (World.holding Tryz.prog os ⟨#[], #[], []⟩).layFits Tryz.prog laidL [] = true := by kernel_rfl
theorem laid_ifaces (os : Os) : (World.holding Tryz.prog os ⟨#[], #[], []⟩).layIfaces Tryz.prog laidL (World.laidAll Tryz.prog os laidL) = true := by kernel_rfl
theorem laid_met (os : Os) (args : Array Value) : laidMetH Tryz.prog laidL ((World.laidAll Tryz.prog os laidL).forCall (fun _ _ => 0) ⟨#[], args, []⟩).memory := by
  rw [MakeChecks.laidMetH_plain _ _ _ (by kernel_rfl)]
  exact laidMet_laidAll _ (laid_fits os) (laid_ifaces os)
end Go.Proofs.YtnkegapccacndaaGreatDoor
