/-
  What is proved, part by part: what rainbooklaw.DiskKeeps comes to. what a disk keeps: the law's function is always true, in plain words. parts of other chapters that this one leans on. numbers as bits, as plain functions. numbers as bits, further plain facts. numbers as bits: what is put is taken. small numbers in groups of four bits, as plain functions. what is put in groups of four bits is taken, and no two ways write one number. when points rise, as a plain function. points in bits, as plain functions. what rainbookref.in comes to. what rainbookref.CheckPoint comes to. what rainbookref.CheckRec comes to. parts of other chapters that this one leans on. strconv.ParseInt of Go's library is known by its answer. strconv.FormatInt of Go's library is known by its answer. what rainbookref.RecRead comes to. a text read as a record by the document's function: it is what the program's function reads. strings.genSplit of Go's library is known by its answer. what strings.SplitAfter comes to. strings.HasSuffix of Go's library is known by its answer. what rainbookref.linesOf comes to. what rainbookref.CheckDisk comes to. what rainbookref.Recovered comes to. a disk's text as lines, by the document's function: what the program's function says; disks and worlds checked, recovered by the document. parts of other chapters that this one leans on. what rainbookref.RecText$1 comes to. strings joined: the laying of that function of Go's library over the program. strings.Join of Go's library is known by its answer. what rainbookref.RecText comes to. a record as a text, by the document's function: what the program's function prints. what rainbookref.SameRec comes to. what rainbooklaw.NoteSays comes to. records are checked, printed, read as the document says: the law's body is true, in plain words. what a law is handed is no larger than memory. what the rows list of package-level variables is what the library's functions ask. Conditions: none.
-/
import Derived.Test.YtnkegapccacndaaDoorKPA
import Derived.Lib.ParseIntBTie
import Derived.Test.YtnkegapccacndaaDoorKED
import Derived.Test.YtnkegapccacndaaDoorProg
import Derived.KernelRfl
import Derived.Test.YtnkegapccacndaaDoorRows
set_option linter.unusedVariables false
set_option linter.unusedSimpArgs false
set_option linter.unnecessarySimpa false
set_option maxRecDepth 4000
namespace Go.Proofs.Y
open Go.Rb Go.Kx
set_option maxRecDepth 100000
end Go.Proofs.Y
namespace Go.Proofs.Y
open Go.Rb Go.Kx
theorem small_rec {r : Rc} (h : chkRec r = 0) : r.2.2.2.length < 4611686018427387904 := by
  obtain ⟨k1, k2, k3, k4⟩ := chkRec_kind h
  by_cases hk : r.1 = 1
  · have := (k3 hk).2.2.1; omega
  · rw [(k4 hk).1]; decide
end Go.Proofs.Y
namespace Go.Proofs.Y
open Go.Rb Go.Kx
theorem bind_of {α β : Type} {o : Option α} {a : α} (h : o = some a) (f : α → Option β) : bindO o f = f a := by rw [h]; rfl
end Go.Proofs.Y
namespace Go.Rb
def putOk (n w : Int) : Prop := 0 ≤ w ∧ w ≤ 40 ∧ 0 ≤ n ∧ n < 2 ^ w.toNat
instance (n w : Int) : Decidable (putOk n w) := by unfold putOk; infer_instance
def val (l : List Bool) : Int := l.foldl (fun n b => 2 * n + (if b then 1 else 0)) 0
end Go.Rb
namespace Go.Rb
end Go.Rb
namespace Go.Rb
/-! ### Numbers one after the other -/
end Go.Rb
namespace Go.Rb
/-! ### Reading -/
section
variable {f k : Nat} {n sc : Int} {l : List Bool}
end
/-! ### The document's way -/
/-! A group as the document takes it apart. -/
end Go.Rb
namespace Go.Rb
end Go.Rb
namespace Go.Rb
def PtIn (p : Pt) : Prop := 0 ≤ p.1 ∧ p.1 ≤ 100000 ∧ -1000000 ≤ p.2 ∧ p.2 ≤ 1000000
theorem getD_mem {α : Type} [Inhabited α] {l : List α} {i : Nat} (h : i < l.length) : l.getD i default ∈ l := by
  have : l.getD i default = l[i] := by simp [List.getD, List.getElem?_eq_getElem h]
  rw [this]; exact List.getElem_mem h
end Go.Rb
namespace Go.Rb
abbrev badP (p : Pt) : Prop := p.1 < 0 ∨ p.1 > 100000 ∨ p.2 < -1000000 ∨ p.2 > 1000000
def chkP (p : Pt) : Int := if badP p then 3 else 0
theorem chkP_or (p : Pt) : (badP p ∧ chkP p = 3) ∨ (PtIn p ∧ chkP p = 0) := by
  unfold chkP
  by_cases h : badP p
  · left; exact ⟨h, if_pos h⟩
  · right; exact ⟨by unfold badP at h; unfold PtIn; omega, if_neg h⟩
/-! ### Unpacking -/
section
variable {f k : Nat} {last : Pt} {step : Int} {acc : List Pt} {b : List Bool}
end
end Go.Rb
namespace Go.Proofs.Y
open Go.Rb Go.Kx
noncomputable def C_rainbookref_in : Code := bodyOf Tryd.f54
noncomputable def G_rainbookref_in : FuncId → Option GS := tabG []
theorem g_rainbookref_in : ΓOK Tryd.prog G_rainbookref_in := ΓOK_nil
def H_rainbookref_in : HT := ⟨tabL [], tabH []⟩
abbrev is_rainbookref_in : List IT := [.v (.one (.int .i64)) false, .v (.one (.int .i64)) false, .v (.one (.int .i64)) false]
abbrev os_rainbookref_in : List OT := [⟨.one .bool, false, []⟩]
set_option maxRecDepth 100000
noncomputable def F_rainbookref_in : Int → Int → Int → Option Bool := fun (a b c : Int) => ifB (leI b a) (some (leI a c)) (some false)
theorem F_rainbookref_in_eq (x : PI is_rainbookref_in) : F_rainbookref_in (x.1) (x.2.1) (x.2.2) = fnE T G_rainbookref_in H_rainbookref_in C_rainbookref_in (resOf Tryd.f54) is_rainbookref_in os_rainbookref_in x := by kernel_rfl
noncomputable abbrev R_rainbookref_in : GS := mkSpec false is_rainbookref_in os_rainbookref_in fun x => F_rainbookref_in (x.1) (x.2.1) (x.2.2)
theorem R_rainbookref_in_ok : GSOK Tryd.prog 54 R_rainbookref_in := spec_ok tok g_rainbookref_in fmo (Ht := H_rainbookref_in) (fn := Tryd.f54) (Tryd.func54) (c := C_rainbookref_in) (by kernel_rfl) (by kernel_rfl) (by kernel_rfl) (by decide +kernel) (by decide) F_rainbookref_in_eq
end Go.Proofs.Y
namespace Go.Proofs.Y
open Go.Rb Go.Kx
noncomputable def C_rainbookref_CheckPoint : Code := bodyOf Tryd.f55
noncomputable def G_rainbookref_CheckPoint : FuncId → Option GS := tabG [(54, R_rainbookref_in)]
theorem g_rainbookref_CheckPoint : ΓOK Tryd.prog G_rainbookref_CheckPoint := ΓOK_cons (R_rainbookref_in_ok) (ΓOK_nil)
def H_rainbookref_CheckPoint : HT := ⟨tabL [], tabH []⟩
abbrev is_rainbookref_CheckPoint : List IT := [.v (.cons (.int .i64) (.one (.int .i64))) true]
abbrev os_rainbookref_CheckPoint : List OT := [⟨.one (.int .i64), false, []⟩]
set_option maxRecDepth 100000
noncomputable def F_rainbookref_CheckPoint : Int × Int → Option Int := fun (a : Int × Int) => bindO (F_rainbookref_in a.1 0 100000) fun (y : Bool) => ifB (notB y) (some 3) (bindO (F_rainbookref_in a.2 (-1000000) 1000000) fun (y : Bool) => ifB (notB y) (some 3) (some 0))
theorem F_rainbookref_CheckPoint_eq (x : PI is_rainbookref_CheckPoint) : F_rainbookref_CheckPoint x = fnE T G_rainbookref_CheckPoint H_rainbookref_CheckPoint C_rainbookref_CheckPoint (resOf Tryd.f55) is_rainbookref_CheckPoint os_rainbookref_CheckPoint x := by kernel_rfl
noncomputable abbrev R_rainbookref_CheckPoint : GS := mkSpec false is_rainbookref_CheckPoint os_rainbookref_CheckPoint fun x => F_rainbookref_CheckPoint x
theorem R_rainbookref_CheckPoint_ok : GSOK Tryd.prog 55 R_rainbookref_CheckPoint := spec_ok tok g_rainbookref_CheckPoint fmo (Ht := H_rainbookref_CheckPoint) (fn := Tryd.f55) (Tryd.func55) (c := C_rainbookref_CheckPoint) (by kernel_rfl) (by kernel_rfl) (by kernel_rfl) (by decide +kernel) (by decide) F_rainbookref_CheckPoint_eq
end Go.Proofs.Y
namespace Go.Proofs.Y
open Go.Rb Go.Kx
noncomputable def C_rainbookref_CheckRec : Code := bodyOf Tryd.f38
noncomputable def G_rainbookref_CheckRec : FuncId → Option GS := tabG [(54, R_rainbookref_in), (55, R_rainbookref_CheckPoint)]
theorem g_rainbookref_CheckRec : ΓOK Tryd.prog G_rainbookref_CheckRec := ΓOK_cons (R_rainbookref_in_ok) (ΓOK_cons (R_rainbookref_CheckPoint_ok) (ΓOK_nil))
def H_rainbookref_CheckRec : HT := ⟨tabL [(11, .it [] (dyn [.t 59 (.int .i64)]))], tabH []⟩
abbrev is_rainbookref_CheckRec : List IT := [.v (.cons (.int .i64) (.cons (.int .i64) (.cons (.int .i64) (.one (.sl 56 (.cons (.int .i64) (.cons (.int .i64) (.one (.int .i64))))))))) true]
abbrev os_rainbookref_CheckRec : List OT := [⟨.one (.int .i64), false, []⟩]
set_option maxRecDepth 100000
noncomputable def F_rainbookref_CheckRec : Int × Int × Int × List (Int × Int × Int) → Option Int := fun (a : Int × Int × Int × List (Int × Int × Int)) => bindO (F_rainbookref_in a.1 1 4) fun (y : Bool) => ifB (notB y) (some 4) (ifB (eqI a.1 1) (ifB (neI a.2.1 0) (some 4) (ifB (neI a.2.2.1 0) (some 4) (ifB (neI a.1 1) (ifB (gtI (lenI a.2.2.2) 0) (some 4) (ifB (eqI a.1 4) (ifB (neI a.2.1 0) (some 4) (ifB (gtI (lenI a.2.2.2) 10) (some 2) (bindO (F_rainbookref_in a.2.1 0 3) fun (y : Bool) => ifB (notB y) (some 3) (bindO (F_rainbookref_in a.2.2.1 0 100001) fun (y : Bool) => ifB (notB y) (some 3) (loopN maxR (fun (x : Int) => ifB (ltI x (lenI a.2.2.2)) (bindO (atI a.2.2.2 x) fun (y : Int × Int × Int) => bindO (F_rainbookref_in y.1 0 3) fun (y_1 : Bool) => ifB (notB y_1) (mapO Sum.inr (some 3)) (bindO (F_rainbookref_CheckPoint (y.2.1, y.2.2)) fun (y : Int) => ifB (neI y 0) (mapO Sum.inr (some 3)) (some (Sum.inl (wadd .i64 x 1))))) (mapO Sum.inr (some 0))) 0))))) (ifB (gtI (lenI a.2.2.2) 10) (some 2) (bindO (F_rainbookref_in a.2.1 0 3) fun (y : Bool) => ifB (notB y) (some 3) (bindO (F_rainbookref_in a.2.2.1 0 100001) fun (y : Bool) => ifB (notB y) (some 3) (loopN maxR (fun (x : Int) => ifB (ltI x (lenI a.2.2.2)) (bindO (atI a.2.2.2 x) fun (y : Int × Int × Int) => bindO (F_rainbookref_in y.1 0 3) fun (y_1 : Bool) => ifB (notB y_1) (mapO Sum.inr (some 3)) (bindO (F_rainbookref_CheckPoint (y.2.1, y.2.2)) fun (y : Int) => ifB (neI y 0) (mapO Sum.inr (some 3)) (some (Sum.inl (wadd .i64 x 1))))) (mapO Sum.inr (some 0))) 0)))))) (ifB (eqI a.1 4) (ifB (neI a.2.1 0) (some 4) (ifB (gtI (lenI a.2.2.2) 10) (some 2) (bindO (F_rainbookref_in a.2.1 0 3) fun (y : Bool) => ifB (notB y) (some 3) (bindO (F_rainbookref_in a.2.2.1 0 100001) fun (y : Bool) => ifB (notB y) (some 3) (loopN maxR (fun (x : Int) => ifB (ltI x (lenI a.2.2.2)) (bindO (atI a.2.2.2 x) fun (y : Int × Int × Int) => bindO (F_rainbookref_in y.1 0 3) fun (y_1 : Bool) => ifB (notB y_1) (mapO Sum.inr (some 3)) (bindO (F_rainbookref_CheckPoint (y.2.1, y.2.2)) fun (y : Int) => ifB (neI y 0) (mapO Sum.inr (some 3)) (some (Sum.inl (wadd .i64 x 1))))) (mapO Sum.inr (some 0))) 0))))) (ifB (gtI (lenI a.2.2.2) 10) (some 2) (bindO (F_rainbookref_in a.2.1 0 3) fun (y : Bool) => ifB (notB y) (some 3) (bindO (F_rainbookref_in a.2.2.1 0 100001) fun (y : Bool) => ifB (notB y) (some 3) (loopN maxR (fun (x : Int) => ifB (ltI x (lenI a.2.2.2)) (bindO (atI a.2.2.2 x) fun (y : Int × Int × Int) => bindO (F_rainbookref_in y.1 0 3) fun (y_1 : Bool) => ifB (notB y_1) (mapO Sum.inr (some 3)) (bindO (F_rainbookref_CheckPoint (y.2.1, y.2.2)) fun (y : Int) => ifB (neI y 0) (mapO Sum.inr (some 3)) (some (Sum.inl (wadd .i64 x 1))))) (mapO Sum.inr (some 0))) 0)))))))) (ifB (neI a.1 1) (ifB (gtI (lenI a.2.2.2) 0) (some 4) (ifB (eqI a.1 4) (ifB (neI a.2.1 0) (some 4) (ifB (gtI (lenI a.2.2.2) 10) (some 2) (bindO (F_rainbookref_in a.2.1 0 3) fun (y : Bool) => ifB (notB y) (some 3) (bindO (F_rainbookref_in a.2.2.1 0 100001) fun (y : Bool) => ifB (notB y) (some 3) (loopN maxR (fun (x : Int) => ifB (ltI x (lenI a.2.2.2)) (bindO (atI a.2.2.2 x) fun (y : Int × Int × Int) => bindO (F_rainbookref_in y.1 0 3) fun (y_1 : Bool) => ifB (notB y_1) (mapO Sum.inr (some 3)) (bindO (F_rainbookref_CheckPoint (y.2.1, y.2.2)) fun (y : Int) => ifB (neI y 0) (mapO Sum.inr (some 3)) (some (Sum.inl (wadd .i64 x 1))))) (mapO Sum.inr (some 0))) 0))))) (ifB (gtI (lenI a.2.2.2) 10) (some 2) (bindO (F_rainbookref_in a.2.1 0 3) fun (y : Bool) => ifB (notB y) (some 3) (bindO (F_rainbookref_in a.2.2.1 0 100001) fun (y : Bool) => ifB (notB y) (some 3) (loopN maxR (fun (x : Int) => ifB (ltI x (lenI a.2.2.2)) (bindO (atI a.2.2.2 x) fun (y : Int × Int × Int) => bindO (F_rainbookref_in y.1 0 3) fun (y_1 : Bool) => ifB (notB y_1) (mapO Sum.inr (some 3)) (bindO (F_rainbookref_CheckPoint (y.2.1, y.2.2)) fun (y : Int) => ifB (neI y 0) (mapO Sum.inr (some 3)) (some (Sum.inl (wadd .i64 x 1))))) (mapO Sum.inr (some 0))) 0)))))) (ifB (eqI a.1 4) (ifB (neI a.2.1 0) (some 4) (ifB (gtI (lenI a.2.2.2) 10) (some 2) (bindO (F_rainbookref_in a.2.1 0 3) fun (y : Bool) => ifB (notB y) (some 3) (bindO (F_rainbookref_in a.2.2.1 0 100001) fun (y : Bool) => ifB (notB y) (some 3) (loopN maxR (fun (x : Int) => ifB (ltI x (lenI a.2.2.2)) (bindO (atI a.2.2.2 x) fun (y : Int × Int × Int) => bindO (F_rainbookref_in y.1 0 3) fun (y_1 : Bool) => ifB (notB y_1) (mapO Sum.inr (some 3)) (bindO (F_rainbookref_CheckPoint (y.2.1, y.2.2)) fun (y : Int) => ifB (neI y 0) (mapO Sum.inr (some 3)) (some (Sum.inl (wadd .i64 x 1))))) (mapO Sum.inr (some 0))) 0))))) (ifB (gtI (lenI a.2.2.2) 10) (some 2) (bindO (F_rainbookref_in a.2.1 0 3) fun (y : Bool) => ifB (notB y) (some 3) (bindO (F_rainbookref_in a.2.2.1 0 100001) fun (y : Bool) => ifB (notB y) (some 3) (loopN maxR (fun (x : Int) => ifB (ltI x (lenI a.2.2.2)) (bindO (atI a.2.2.2 x) fun (y : Int × Int × Int) => bindO (F_rainbookref_in y.1 0 3) fun (y_1 : Bool) => ifB (notB y_1) (mapO Sum.inr (some 3)) (bindO (F_rainbookref_CheckPoint (y.2.1, y.2.2)) fun (y : Int) => ifB (neI y 0) (mapO Sum.inr (some 3)) (some (Sum.inl (wadd .i64 x 1))))) (mapO Sum.inr (some 0))) 0)))))))
theorem F_rainbookref_CheckRec_eq (x : PI is_rainbookref_CheckRec) : F_rainbookref_CheckRec x = fnE T G_rainbookref_CheckRec H_rainbookref_CheckRec C_rainbookref_CheckRec (resOf Tryd.f38) is_rainbookref_CheckRec os_rainbookref_CheckRec x := by kernel_rfl
noncomputable abbrev R_rainbookref_CheckRec : GS := mkSpec false is_rainbookref_CheckRec os_rainbookref_CheckRec fun x => F_rainbookref_CheckRec x
theorem R_rainbookref_CheckRec_ok : GSOK Tryd.prog 38 R_rainbookref_CheckRec := spec_ok tok g_rainbookref_CheckRec fmo (Ht := H_rainbookref_CheckRec) (fn := Tryd.f38) (Tryd.func38) (c := C_rainbookref_CheckRec) (by kernel_rfl) (by kernel_rfl) (by kernel_rfl) (by decide +kernel) (by decide) F_rainbookref_CheckRec_eq
end Go.Proofs.Y
namespace Go.Proofs.Y
open Go.Rb Go.Kx
theorem in_eq (a b c : Int) : F_rainbookref_in a b c = some (decide (b ≤ a ∧ a ≤ c)) := by
  unfold F_rainbookref_in
  rw [ifB_leI]
  split
  · simp [leI, *]
  · simp [*]
theorem chkPoint_eq (p : Pt) : F_rainbookref_CheckPoint p = some (chkP p) := by
  unfold F_rainbookref_CheckPoint chkP badP
  rw [in_eq, in_eq, bindO_some, bindO_some, ifB_not, ifB_not, ifB_dec, ifB_dec]
  by_cases h : p.1 < 0 ∨ p.1 > 100000 ∨ p.2 < -1000000 ∨ p.2 > 1000000
  · rw [if_pos h]
    split
    · rw [if_neg (by omega)]
    · rfl
  · rw [if_neg h, if_pos (by omega), if_pos (by omega)]
theorem checkRec_eq (r : Rc) (hl : r.2.2.2.length < 4611686018427387904) : F_rainbookref_CheckRec r = some (chkRec r) := by
  unfold F_rainbookref_CheckRec chkRec
  have hloop : loopN maxR (fun (x : Int) => ifB (ltI x (lenI (Prod.snd (Prod.snd (Prod.snd r))))) (bindO (atI (Prod.snd (Prod.snd (Prod.snd r))) x) fun (y : Int × Int × Int) =>
      bindO (F_rainbookref_in (Prod.fst y) 0 3) fun (y_1 : Bool) => ifB (notB y_1) (mapO Sum.inr (some 3)) (bindO (F_rainbookref_CheckPoint (Prod.fst (Prod.snd y), Prod.snd (Prod.snd y))) fun (y : Int) => ifB (neI y 0) (mapO Sum.inr (some 3)) (some (Sum.inl (wadd IntKind.i64 x 1)))))
      (mapO Sum.inr (some 0))) 0 = some (entE r.2.2.2) := by
    generalize r.2.2.2 = l at *
    refine loop_range l (fun j (_ : Unit) => (j : Int)) (G := fun rest _ => some (entE rest)) (P := fun _ _ => True) ?_ ?_ (s0 := ()) trivial (by omega)
    · rintro j _ hj _ k hk
      have hat := atI_nat hj
      generalize l.getD j default = x at *
      simp only [stepK_ifB, stepK_bind, stepK_map, stepK_inl, in_eq, chkPoint_eq, bindO_some]
      rw [ifB_ltI, lenI_eq, if_pos (by omega), hat, bindO_some, ifB_not, ifB_dec, ifB_neI, wadd_nat (by omega), hk () trivial, entE]
      rcases chkP_or ((x.2.1, x.2.2) : Pt) with ⟨hb, hp⟩ | ⟨hb, hp⟩
      · rw [hp, if_neg (show ¬ (3 : Int) = 0 by decide)]
        have : badEnt x := by unfold badP at hb; unfold badEnt; simp only at hb; omega
        rw [if_pos this]; split <;> rfl
      · rw [hp, if_pos rfl]
        unfold PtIn at hb
        simp only at hb
        by_cases h : 0 ≤ x.1 ∧ x.1 ≤ 3
        · rw [if_pos h, if_neg (by unfold badEnt; omega)]
        · rw [if_neg h, if_pos (by unfold badEnt; omega)]
    · rintro _ _ k
      simp only [stepK_ifB, stepK_map]
      rw [ifB_ltI, lenI_eq, if_neg (by omega)]; rfl
  rw [hloop]
  simp only [in_eq, bindO_some, ifB_ltI, ifB_gtI, ifB_eqI, ifB_neI, ifB_geI, lenI_eq, ifB_not, ifB_dec]
  have hnil : ∀ l : List Ent, l.length = 0 → entE l = 0 := fun l h => by rw [List.eq_nil_of_length_eq_zero h]; rfl
  clear hloop
  obtain ⟨a, b, c, l⟩ := r
  simp only at hl ⊢
  by_cases k : 1 ≤ a ∧ a ≤ 4
  · rw [if_pos k, if_neg (show ¬ (a < 1 ∨ 4 < a) by omega)]
    by_cases k1 : a = 1
    · subst k1
      by_cases z1 : b = 0
      · by_cases z2 : c = 0
        · subst z1; subst z2
          by_cases h10 : 10 < l.length
          · have : (10 : Int) < l.length := by omega
            simp [this, h10]
          · have : ¬ (10 : Int) < l.length := by omega
            simp [this, h10]
        · simp [z1, z2]
      · simp [z1]
    · have h10 : 0 < l.length ∨ l.length = 0 := by omega
      rcases h10 with h0 | h0
      · have : (0 : Int) < l.length := by omega
        simp only [if_neg k1, if_pos this, if_pos (show 0 < l.length ∨ (a = 4 ∧ ¬ b = 0) from .inl h0)]
      · have e0 : ¬ (0 : Int) < l.length := by omega
        have e1 : ¬ (10 : Int) < l.length := by omega
        simp only [if_neg k1, if_neg e0, if_neg e1, hnil l h0]
        by_cases k4 : a = 4
        · by_cases z : b = 0
          · rw [if_pos k4, if_pos z, if_neg (show ¬ (0 < l.length ∨ (a = 4 ∧ ¬ b = 0)) by omega)]
            by_cases g : 0 ≤ c ∧ c ≤ 100001
            · rw [if_pos (show 0 ≤ b ∧ b ≤ 3 by omega), if_pos g, if_neg (by omega)]
            · rw [if_pos (show 0 ≤ b ∧ b ≤ 3 by omega), if_neg g, if_pos (by omega)]
          · rw [if_pos k4, if_neg z, if_pos (.inr ⟨k4, z⟩)]
        · rw [if_neg k4, if_neg (show ¬ (0 < l.length ∨ (a = 4 ∧ ¬ b = 0)) by omega)]
          by_cases g0 : 0 ≤ b ∧ b ≤ 3
          · by_cases g : 0 ≤ c ∧ c ≤ 100001
            · rw [if_pos g0, if_pos g, if_neg (by omega)]
            · rw [if_pos g0, if_neg g, if_pos (by omega)]
          · rw [if_neg g0, if_pos (by omega)]
  · rw [if_neg k, if_pos (show a < 1 ∨ 4 < a by omega)]
end Go.Proofs.Y
namespace Go.Proofs.Y
open Go.Rb Go.Kx
noncomputable abbrev R_parseInt : GS := .r (libS [.v (.one .str) false, .v (.one (.int .i64)) false, .v (.one (.int .i64)) false] (fun x => parseO (x.1) (x.2.1) (x.2.2)) gErr)
theorem R_parseInt_ok : GSOK Tryd.prog 42 R_parseInt := parse_gs
end Go.Proofs.Y
namespace Go.Proofs.Y
open Go.Rb Go.Kx
noncomputable abbrev R_fmtInt : GS := .r (libS [.v (.one (.int .i64)) false, .v (.one (.int .i64)) false] (fun x => fmtO (x.1) (x.2)) gStr)
theorem R_fmtInt_ok : GSOK Tryd.prog 43 R_fmtInt := fmt_gs
end Go.Proofs.Y
namespace Go.Proofs.Y
open Go.Rb Go.Kx
noncomputable def C_rainbookref_RecRead : Code := bodyOf Tryd.f14
noncomputable def G_rainbookref_RecRead : FuncId → Option GS := tabG [(41, R_cut), (42, R_parseInt), (43, R_fmtInt), (38, R_rainbookref_CheckRec)]
theorem g_rainbookref_RecRead : ΓOK Tryd.prog G_rainbookref_RecRead := ΓOK_cons (R_cut_ok) (ΓOK_cons (R_parseInt_ok) (ΓOK_cons (R_fmtInt_ok) (ΓOK_cons (R_rainbookref_CheckRec_ok) (ΓOK_nil))))
def H_rainbookref_RecRead : HT := ⟨tabL [(3, .it [] (dyn [.t 5 (.str), .t 6 (.bool), .a 7 3 (.one (.int .i64)), .c 2 0 (.int .i64), .c 2 1 (.int .i64), .c 2 2 (.int .i64), .c 2 3 (.sl 56 (.cons (.int .i64) (.cons (.int .i64) (.one (.int .i64)))))])), (14, .it [] (dyn [.t 7 (.sl 3 (.one (.int .i64))), .b 11 3 56 (.cons (.int .i64) (.cons (.int .i64) (.one (.int .i64))))]))], tabH [(12, [.frz 7])]⟩
abbrev is_rainbookref_RecRead : List IT := [.v (.one .str) false]
abbrev os_rainbookref_RecRead : List OT := [⟨.cons (.int .i64) (.cons (.int .i64) (.cons (.int .i64) (.one (.sl 56 (.cons (.int .i64) (.cons (.int .i64) (.one (.int .i64)))))))), true, []⟩, ⟨.one (.int .i64), false, []⟩]
set_option maxRecDepth 100000
noncomputable def F_rainbookref_RecRead : List UInt8 → Option ((Int × Int × Int × List (Int × Int × Int)) × Int) := fun (a : List UInt8) => bindO (cutO a [32]) fun (y : List UInt8 × List UInt8 × Bool) => loopN maxR (fun (x : List UInt8 × Bool × Int × Int × Int × List (Int × Int × Int) × List Int) => ifB x.2.1 (bindO (cutO x.1 [32]) fun (y : List UInt8 × List UInt8 × Bool) => bindO (parseO y.1 10 64) fun (y_1 : Int × Bool) => ifB y_1.2 (mapO Sum.inr (some ((0, 0, 0, []), 1))) (bindO (fmtO y_1.1 10) fun (y_2 : List UInt8) => ifB (notB (eqS y_2 y.1)) (mapO Sum.inr (some ((0, 0, 0, []), 1))) (ifB (roomA 8 x.2.2.2.2.2.2 [y_1.1]) (some (Sum.inl (y.2.1, y.2.2, x.2.2.1, x.2.2.2.1, x.2.2.2.2.1, x.2.2.2.2.2.1, cat x.2.2.2.2.2.2 [y_1.1]))) none))) (mapO Sum.inr (ifB (eqS y.1 [98, 97, 116, 99, 104]) (ifB (eqI (wrem (lenI x.2.2.2.2.2.2) 3) 0) (loopN maxR (fun (x : List Int × List (Int × Int × Int)) => ifB (gtI (lenI x.1) 0) (bindO (atI x.1 0) fun (y : Int) => bindO (atI x.1 1) fun (y_1 : Int) => bindO (atI x.1 2) fun (y_2 : Int) => ifB (roomA 24 x.2 [(y, y_1, y_2)]) (ifB (in1 x.1 3) (some (Sum.inl (dropI x.1 3, cat x.2 [(y, y_1, y_2)]))) none) none) (mapO Sum.inr (bindO (F_rainbookref_CheckRec (1, 0, 0, x.2)) fun (y : Int) => ifB (neI y 0) (some ((0, 0, 0, []), y)) (some ((1, 0, 0, x.2), 0))))) (x.2.2.2.2.2.2, [])) (ifB (eqS y.1 [115, 101, 97, 108]) (ifB (eqI (lenI x.2.2.2.2.2.2) 2) (bindO (atI x.2.2.2.2.2.2 0) fun (y : Int) => bindO (atI x.2.2.2.2.2.2 1) fun (y_1 : Int) => bindO (F_rainbookref_CheckRec (2, y, y_1, [])) fun (y_2 : Int) => ifB (neI y_2 0) (some ((0, 0, 0, []), y_2)) (some ((2, y, y_1, []), 0))) (ifB (eqS y.1 [109, 101, 114, 103, 101]) (ifB (eqI (lenI x.2.2.2.2.2.2) 2) (bindO (atI x.2.2.2.2.2.2 0) fun (y : Int) => bindO (atI x.2.2.2.2.2.2 1) fun (y_1 : Int) => bindO (F_rainbookref_CheckRec (3, y, y_1, [])) fun (y_2 : Int) => ifB (neI y_2 0) (some ((0, 0, 0, []), y_2)) (some ((3, y, y_1, []), 0))) (ifB (eqS y.1 [100, 114, 111, 112]) (ifB (eqI (lenI x.2.2.2.2.2.2) 1) (bindO (atI x.2.2.2.2.2.2 0) fun (y : Int) => bindO (F_rainbookref_CheckRec (4, 0, y, [])) fun (y_1 : Int) => ifB (neI y_1 0) (some ((0, 0, 0, []), y_1)) (some ((4, 0, y, []), 0))) (some ((0, 0, 0, []), 1))) (some ((0, 0, 0, []), 1)))) (ifB (eqS y.1 [100, 114, 111, 112]) (ifB (eqI (lenI x.2.2.2.2.2.2) 1) (bindO (atI x.2.2.2.2.2.2 0) fun (y : Int) => bindO (F_rainbookref_CheckRec (4, 0, y, [])) fun (y_1 : Int) => ifB (neI y_1 0) (some ((0, 0, 0, []), y_1)) (some ((4, 0, y, []), 0))) (some ((0, 0, 0, []), 1))) (some ((0, 0, 0, []), 1))))) (ifB (eqS y.1 [109, 101, 114, 103, 101]) (ifB (eqI (lenI x.2.2.2.2.2.2) 2) (bindO (atI x.2.2.2.2.2.2 0) fun (y : Int) => bindO (atI x.2.2.2.2.2.2 1) fun (y_1 : Int) => bindO (F_rainbookref_CheckRec (3, y, y_1, [])) fun (y_2 : Int) => ifB (neI y_2 0) (some ((0, 0, 0, []), y_2)) (some ((3, y, y_1, []), 0))) (ifB (eqS y.1 [100, 114, 111, 112]) (ifB (eqI (lenI x.2.2.2.2.2.2) 1) (bindO (atI x.2.2.2.2.2.2 0) fun (y : Int) => bindO (F_rainbookref_CheckRec (4, 0, y, [])) fun (y_1 : Int) => ifB (neI y_1 0) (some ((0, 0, 0, []), y_1)) (some ((4, 0, y, []), 0))) (some ((0, 0, 0, []), 1))) (some ((0, 0, 0, []), 1)))) (ifB (eqS y.1 [100, 114, 111, 112]) (ifB (eqI (lenI x.2.2.2.2.2.2) 1) (bindO (atI x.2.2.2.2.2.2 0) fun (y : Int) => bindO (F_rainbookref_CheckRec (4, 0, y, [])) fun (y_1 : Int) => ifB (neI y_1 0) (some ((0, 0, 0, []), y_1)) (some ((4, 0, y, []), 0))) (some ((0, 0, 0, []), 1))) (some ((0, 0, 0, []), 1)))))) (ifB (eqS y.1 [115, 101, 97, 108]) (ifB (eqI (lenI x.2.2.2.2.2.2) 2) (bindO (atI x.2.2.2.2.2.2 0) fun (y : Int) => bindO (atI x.2.2.2.2.2.2 1) fun (y_1 : Int) => bindO (F_rainbookref_CheckRec (2, y, y_1, [])) fun (y_2 : Int) => ifB (neI y_2 0) (some ((0, 0, 0, []), y_2)) (some ((2, y, y_1, []), 0))) (ifB (eqS y.1 [109, 101, 114, 103, 101]) (ifB (eqI (lenI x.2.2.2.2.2.2) 2) (bindO (atI x.2.2.2.2.2.2 0) fun (y : Int) => bindO (atI x.2.2.2.2.2.2 1) fun (y_1 : Int) => bindO (F_rainbookref_CheckRec (3, y, y_1, [])) fun (y_2 : Int) => ifB (neI y_2 0) (some ((0, 0, 0, []), y_2)) (some ((3, y, y_1, []), 0))) (ifB (eqS y.1 [100, 114, 111, 112]) (ifB (eqI (lenI x.2.2.2.2.2.2) 1) (bindO (atI x.2.2.2.2.2.2 0) fun (y : Int) => bindO (F_rainbookref_CheckRec (4, 0, y, [])) fun (y_1 : Int) => ifB (neI y_1 0) (some ((0, 0, 0, []), y_1)) (some ((4, 0, y, []), 0))) (some ((0, 0, 0, []), 1))) (some ((0, 0, 0, []), 1)))) (ifB (eqS y.1 [100, 114, 111, 112]) (ifB (eqI (lenI x.2.2.2.2.2.2) 1) (bindO (atI x.2.2.2.2.2.2 0) fun (y : Int) => bindO (F_rainbookref_CheckRec (4, 0, y, [])) fun (y_1 : Int) => ifB (neI y_1 0) (some ((0, 0, 0, []), y_1)) (some ((4, 0, y, []), 0))) (some ((0, 0, 0, []), 1))) (some ((0, 0, 0, []), 1))))) (ifB (eqS y.1 [109, 101, 114, 103, 101]) (ifB (eqI (lenI x.2.2.2.2.2.2) 2) (bindO (atI x.2.2.2.2.2.2 0) fun (y : Int) => bindO (atI x.2.2.2.2.2.2 1) fun (y_1 : Int) => bindO (F_rainbookref_CheckRec (3, y, y_1, [])) fun (y_2 : Int) => ifB (neI y_2 0) (some ((0, 0, 0, []), y_2)) (some ((3, y, y_1, []), 0))) (ifB (eqS y.1 [100, 114, 111, 112]) (ifB (eqI (lenI x.2.2.2.2.2.2) 1) (bindO (atI x.2.2.2.2.2.2 0) fun (y : Int) => bindO (F_rainbookref_CheckRec (4, 0, y, [])) fun (y_1 : Int) => ifB (neI y_1 0) (some ((0, 0, 0, []), y_1)) (some ((4, 0, y, []), 0))) (some ((0, 0, 0, []), 1))) (some ((0, 0, 0, []), 1)))) (ifB (eqS y.1 [100, 114, 111, 112]) (ifB (eqI (lenI x.2.2.2.2.2.2) 1) (bindO (atI x.2.2.2.2.2.2 0) fun (y : Int) => bindO (F_rainbookref_CheckRec (4, 0, y, [])) fun (y_1 : Int) => ifB (neI y_1 0) (some ((0, 0, 0, []), y_1)) (some ((4, 0, y, []), 0))) (some ((0, 0, 0, []), 1))) (some ((0, 0, 0, []), 1)))))))) (y.2.1, y.2.2, 0, 0, 0, [], [])
theorem F_rainbookref_RecRead_eq (x : PI is_rainbookref_RecRead) : F_rainbookref_RecRead x = fnE T G_rainbookref_RecRead H_rainbookref_RecRead C_rainbookref_RecRead (resOf Tryd.f14) is_rainbookref_RecRead os_rainbookref_RecRead x := by kernel_rfl
noncomputable abbrev R_rainbookref_RecRead : GS := mkSpec false is_rainbookref_RecRead os_rainbookref_RecRead fun x => F_rainbookref_RecRead x
theorem R_rainbookref_RecRead_ok : GSOK Tryd.prog 14 R_rainbookref_RecRead := spec_ok tok g_rainbookref_RecRead fmo (Ht := H_rainbookref_RecRead) (fn := Tryd.f14) (Tryd.func14) (c := C_rainbookref_RecRead) (by kernel_rfl) (by kernel_rfl) (by kernel_rfl) (by decide +kernel) (by decide) F_rainbookref_RecRead_eq
end Go.Proofs.Y
namespace Go.Proofs.Y
open Go.Rb Go.Kx
noncomputable def rrK (k a b : Int) : Option (Rc × Int) := bindO (F_rainbookref_CheckRec (k, a, b, [])) fun (e : Int) => ifB (neI e 0) (some ((0, 0, 0, []), e)) (some ((k, a, b, []), 0))
noncomputable def rrD (w : List UInt8) (ns : List Int) : Option (Rc × Int) := ifB (eqS w [100, 114, 111, 112]) (ifB (eqI (lenI ns) 1) (bindO (atI ns 0) fun (y : Int) => rrK 4 0 y) (some ((0, 0, 0, []), 1))) (some ((0, 0, 0, []), 1))
noncomputable def rrM (w : List UInt8) (ns : List Int) : Option (Rc × Int) := ifB (eqS w [109, 101, 114, 103, 101]) (ifB (eqI (lenI ns) 2) (bindO (atI ns 0) fun (y : Int) => bindO (atI ns 1) fun (z : Int) => rrK 3 y z) (rrD w ns)) (rrD w ns)
noncomputable def rrS (w : List UInt8) (ns : List Int) : Option (Rc × Int) := ifB (eqS w [115, 101, 97, 108]) (ifB (eqI (lenI ns) 2) (bindO (atI ns 0) fun (y : Int) => bindO (atI ns 1) fun (z : Int) => rrK 2 y z) (rrM w ns)) (rrM w ns)
noncomputable def rrL (ns : List Int) : Option (Rc × Int) := loopN maxR (fun (x : List Int × List Ent) => ifB (gtI (lenI x.1) 0) (bindO (atI x.1 0) fun (y : Int) => bindO (atI x.1 1) fun (z : Int) => bindO (atI x.1 2) fun (v : Int) =>
    ifB (roomA 24 x.2 [(y, z, v)]) (ifB (in1 x.1 3) (some (Sum.inl (dropI x.1 3, cat x.2 [(y, z, v)]))) none) none)
  (mapO Sum.inr (bindO (F_rainbookref_CheckRec (1, 0, 0, x.2)) fun (e : Int) => ifB (neI e 0) (some ((0, 0, 0, []), e)) (some ((1, 0, 0, x.2), 0))))) (ns, [])
noncomputable def rrB (w : List UInt8) (ns : List Int) : Option (Rc × Int) := ifB (eqS w [98, 97, 116, 99, 104]) (ifB (eqI (wrem (lenI ns) 3) 0) (rrL ns) (rrS w ns)) (rrS w ns)
theorem recRead_form (a : List UInt8) : F_rainbookref_RecRead a = bindO (cutO a [32]) fun (y : List UInt8 × List UInt8 × Bool) =>
    loopN maxR (fun (x : List UInt8 × Bool × Int × Int × Int × List Ent × List Int) => ifB x.2.1
      (bindO (cutO x.1 [32]) fun (y : List UInt8 × List UInt8 × Bool) => bindO (parseO y.1 10 64) fun (v : Int × Bool) => ifB v.2 (mapO Sum.inr (some ((0, 0, 0, []), 1)))
        (bindO (fmtO v.1 10) fun (t : List UInt8) => ifB (notB (eqS t y.1)) (mapO Sum.inr (some ((0, 0, 0, []), 1))) (ifB (roomA 8 x.2.2.2.2.2.2 [v.1]) (some (Sum.inl (y.2.1, y.2.2, x.2.2.1, x.2.2.2.1, x.2.2.2.2.1, x.2.2.2.2.2.1, cat x.2.2.2.2.2.2 [v.1]))) none)))
      (mapO Sum.inr (rrB y.1 x.2.2.2.2.2.2))) (y.2.1, y.2.2, 0, 0, 0, [], []) := by kernel_rfl
theorem rrK_eq (k a b : Int) : rrK k a b = some (if chkRec (k, a, b, []) = 0 then ((k, a, b, []), 0) else (noRec, chkRec (k, a, b, []))) := by
  unfold rrK
  rw [checkRec_eq (k, a, b, []) (by simp), bindO_some, ifB_neI]
  split <;> rfl
theorem rrL_eq (ns : List Int) (h3 : ns.length % 3 = 0) (hl : ns.length ≤ 100000) : rrL ns = some (if chkRec (1, 0, 0, trip ns) = 0 then ((1, 0, 0, trip ns), 0) else (noRec, chkRec (1, 0, 0, trip ns))) := by
  unfold rrL
  have key := loop_ind (f := fun (x : List Int × List Ent) => ifB (gtI (lenI x.1) 0) (bindO (atI x.1 0) fun (y : Int) => bindO (atI x.1 1) fun (z : Int) => bindO (atI x.1 2) fun (v : Int) =>
      ifB (roomA 24 x.2 [(y, z, v)]) (ifB (in1 x.1 3) (some (Sum.inl (dropI x.1 3, cat x.2 [(y, z, v)]))) none) none)
    (mapO Sum.inr (bindO (F_rainbookref_CheckRec (1, 0, 0, x.2)) fun (e : Int) => ifB (neI e 0) (some (((0, 0, 0, []) : Rc), e)) (some ((1, 0, 0, x.2), 0)))))
    (G := fun x => some (if chkRec (1, 0, 0, x.2 ++ trip x.1) = 0 then ((1, 0, 0, x.2 ++ trip x.1), 0) else (noRec, chkRec (1, 0, 0, x.2 ++ trip x.1)))) (P := fun x => x.1.length % 3 = 0 ∧ x.1.length + x.2.length ≤ 100000) (μ := fun x => x.1.length) ?_ maxR (ns, []) ⟨h3, by simpa using hl⟩ (by unfold maxR; simp only; omega)
  · simpa using key
  · rintro ⟨l, acc⟩ ⟨p1, p2⟩ k hk
    simp only at p1 p2 hk ⊢
    rw [stepK_ifB, ifB_gtI, lenI_eq]
    match l, p1, p2, hk with
    | [], p1, p2, hk =>
      rw [if_neg (by simp), stepK_map, checkRec_eq (1, 0, 0, acc) (by simp at p2 ⊢; omega), bindO_some, ifB_neI]
      simp only [trip, List.append_nil]
      split <;> rfl
    | [_], p1, _, _ => simp at p1
    | [_, _], p1, _, _ => simp at p1
    | a :: b :: c :: l, p1, p2, hk =>
      simp only [List.length_cons] at p1 p2 hk
      rw [if_pos (by simp only [List.length_cons]; omega)]
      show stepK (bindO (some a) fun (y : Int) => bindO (some b) fun (z : Int) => bindO (some c) _) k = _
      rw [bindO_some, bindO_some, bindO_some, stepK_ifB, ifB_roomA, if_pos (by simp only [List.length_cons, List.length_nil]; omega), stepK_ifB, ifB_in1, if_pos ⟨by omega, by simp only [List.length_cons]; omega⟩, stepK_inl, dropI_eq, cat_eq]
      have := hk (l, acc ++ [(a, b, c)]) ⟨by simp only; omega, by simp only [List.length_append, List.length_cons, List.length_nil]; omega⟩ (by simp only; omega)
      refine Eq.trans this ?_
      simp only [trip, List.append_assoc, List.singleton_append]
      rfl
theorem eqS_iff (w v : List UInt8) : eqS w v = decide (w = v) := by unfold eqS; by_cases h : w = v <;> simp [h]
theorem rrB_eq (w : List UInt8) (ns : List Int) (hl : ns.length ≤ 100000) : rrB w ns = some (endP (ixW kindW w 0) ns) := by
  unfold rrB rrS rrM rrD
  simp only [eqS_iff, ifB_dec, ifB_eqI, lenI_eq, wrem3, rrK_eq]
  by_cases c1 : w = [98, 97, 116, 99, 104]
  · have n2 : ¬ w = [115, 101, 97, 108] := by rw [c1]; decide
    have n3 : ¬ w = [109, 101, 114, 103, 101] := by rw [c1]; decide
    have n4 : ¬ w = [100, 114, 111, 112] := by rw [c1]; decide
    have e : ixW kindW w 0 = 1 := by rw [c1]; decide
    rw [e, if_pos c1, if_neg n2, if_neg n3, if_neg n4]
    unfold endP recOf
    by_cases c2 : ns.length % 3 = 0
    · rw [if_pos (by omega), rrL_eq ns c2 hl, if_pos rfl, if_pos c2]
    · rw [if_neg (by omega), if_pos rfl, if_neg c2]; rfl
  rw [if_neg c1]
  by_cases c2 : w = [115, 101, 97, 108]
  · have n3 : ¬ w = [109, 101, 114, 103, 101] := by rw [c2]; decide
    have n4 : ¬ w = [100, 114, 111, 112] := by rw [c2]; decide
    have e : ixW kindW w 0 = 2 := by rw [c2]; decide
    rw [e, if_pos c2, if_neg n3, if_neg n4]
    match ns with
    | [a, b] => rfl
    | [] => rfl
    | [_] => rfl
    | _ :: _ :: _ :: _ => rw [if_neg (by simp only [List.length_cons]; omega)]; rfl
  rw [if_neg c2]
  by_cases c3 : w = [109, 101, 114, 103, 101]
  · have n4 : ¬ w = [100, 114, 111, 112] := by rw [c3]; decide
    have e : ixW kindW w 0 = 3 := by rw [c3]; decide
    rw [e, if_pos c3, if_neg n4]
    match ns with
    | [a, b] => rfl
    | [] => rfl
    | [_] => rfl
    | _ :: _ :: _ :: _ => rw [if_neg (by simp only [List.length_cons]; omega)]; rfl
  rw [if_neg c3]
  by_cases c4 : w = [100, 114, 111, 112]
  · have e : ixW kindW w 0 = 4 := by rw [c4]; decide
    rw [e, if_pos c4]
    match ns with
    | [a] => rfl
    | [] => rfl
    | _ :: _ :: _ => rw [if_neg (by simp only [List.length_cons]; omega)]; rfl
  rw [if_neg c4]
  have e : ixW kindW w 0 = 0 ∨ ixW kindW w 0 = -1 := by
    unfold kindW
    by_cases c0 : w = []
    · rw [c0]; exact .inl (by decide)
    · refine .inr ?_
      simp only [ixW, if_neg c0, if_neg c1, if_neg c2, if_neg c3, if_neg c4]
  rcases e with e | e <;> rw [e] <;> rfl
def wordsOf (more : Bool) (s : List UInt8) : List (List UInt8) := if more = true then sp 32 s else []
theorem nums_cons (x : List UInt8) (r : List (List UInt8)) : nums (x :: r) = match Lib.atoiAll x with | .ok v => if Lib.itoa v = x then (nums r).map (v :: ·) else none | _ => none := rfl
theorem cutO_eq {s : List UInt8} (h : s.length ≤ 100000) : cutO s [32] = some (Lib.cut s [32]) := by unfold cutO; rw [if_pos (by omega)]
theorem parseO_eq {s : List UInt8} (h : s.length ≤ 100000) : parseO s 10 64 = some (endO (Lib.atoiAll s) (Lib.atoiSat s)) := by
  unfold parseO
  rw [if_pos ⟨by omega, rfl, rfl⟩, Lib.parseIntB_64, Lib.intSat_64]
theorem recRead_eq (s : List UInt8) (hs : s.length ≤ 60000) : F_rainbookref_RecRead s = some (parseR s) := by
  have hp : parseR s = parseW ((sp 32 s).headD []) (sp 32 s).tail := by unfold parseR; rw [if_neg (by omega)]
  rw [recRead_form, cutO_eq (by omega), bindO_some, hp]
  obtain ⟨w, l, m, e, hl, hh, ht⟩ : ∃ w l m, Lib.cut s [32] = (w, l, m) ∧ l.length ≤ 60000 ∧ (sp 32 s).headD [] = w ∧ (sp 32 s).tail = wordsOf m l := by
    rcases sp_cases 32 s with hn | ⟨w, l, rfl, hn⟩
    · exact ⟨s, [], false, cut_none hn, by simp, by rw [sp_none 32 hn]; rfl, by rw [sp_none 32 hn]; rfl⟩
    · refine ⟨w, l, true, cut_some hn, ?_, by rw [sp_app 32 w l hn]; rfl, by rw [sp_app 32 w l hn]; rfl⟩
      simp only [List.length_append, List.length_cons] at hs; omega
  rw [e, hh, ht]
  simp only
  have key := loop_ind (f := fun (x : List UInt8 × Bool × Int × Int × Int × List Ent × List Int) => ifB x.2.1
      (bindO (cutO x.1 [32]) fun (y : List UInt8 × List UInt8 × Bool) => bindO (parseO y.1 10 64) fun (v : Int × Bool) => ifB v.2 (mapO Sum.inr (some (((0, 0, 0, []) : Rc), (1 : Int))))
        (bindO (fmtO v.1 10) fun (t : List UInt8) => ifB (notB (eqS t y.1)) (mapO Sum.inr (some ((0, 0, 0, []), 1))) (ifB (roomA 8 x.2.2.2.2.2.2 [v.1]) (some (Sum.inl (y.2.1, y.2.2, x.2.2.1, x.2.2.2.1, x.2.2.2.2.1, x.2.2.2.2.2.1, cat x.2.2.2.2.2.2 [v.1]))) none)))
      (mapO Sum.inr (rrB w x.2.2.2.2.2.2)))
    (G := fun x => some (match nums (wordsOf x.2.1 x.1) with | none => (noRec, 1) | some ns => endP (ixW kindW w 0) (x.2.2.2.2.2.2 ++ ns))) (P := fun x => x.1.length + (if x.2.1 = true then 1 else 0) + x.2.2.2.2.2.2.length ≤ 60001) (μ := fun x => if x.2.1 = true then x.1.length + 1 else 0) ?_ maxR (l, m, 0, 0, 0, [], []) (by simp only [List.length_nil]; split <;> omega) (by unfold maxR; simp only; split <;> omega)
  · refine key.trans ?_
    rw [parseW_eq]; rfl
  · rintro ⟨t, more, z1, z2, z3, z4, acc⟩ hp k hk
    simp only at hp hk ⊢
    rw [stepK_ifB]
    cases more with
    | false =>
      rw [if_neg (by decide)] at hp
      rw [ifB_f, stepK_map, rrB_eq w acc (by omega)]
      show some (endP (ixW kindW w 0) acc) = some (endP (ixW kindW w 0) (acc ++ []))
      rw [List.append_nil]
    | true =>
      rw [if_pos rfl] at hp
      rw [ifB_t, cutO_eq (by omega), bindO_some]
      obtain ⟨v, r, m2, e2, hv, hr, hw, hlt⟩ : ∃ v r m2, Lib.cut t [32] = (v, r, m2) ∧ v.length ≤ t.length ∧ r.length ≤ t.length ∧ wordsOf true t = v :: wordsOf m2 r ∧ (m2 = true → r.length < t.length) := by
        rcases sp_cases 32 t with hn | ⟨v, r, rfl, hn⟩
        · exact ⟨t, [], false, cut_none hn, by omega, by simp, by show sp 32 t = _; rw [sp_none 32 hn]; rfl, by simp⟩
        · refine ⟨v, r, true, cut_some hn, by simp, by simp only [List.length_append, List.length_cons]; omega, by show sp 32 _ = _; rw [sp_app 32 v r hn]; rfl, fun _ => by simp only [List.length_append, List.length_cons]; omega⟩
      rw [e2, hw, nums_cons]
      simp only
      rw [parseO_eq (by omega), bindO_some]
      rcases hx : Lib.atoiAll v with n | _ | _
      · have hb := Lib.atoiAll_bounds hx
        have hf : fmtO n 10 = some (Lib.itoa n) := by unfold fmtO; rw [if_pos ⟨rfl, hb.1, hb.2⟩]
        simp only [endO]
        rw [stepK_ifB, ifB_f, hf, bindO_some, stepK_ifB, ifB_not, eqS_iff, ifB_dec]
        by_cases c : Lib.itoa n = v
        · rw [if_pos c, if_pos c, stepK_ifB, ifB_roomA, if_pos (by simp only [List.length_cons, List.length_nil]; omega), stepK_inl, cat_eq]
          refine Eq.trans (hk (r, m2, z1, z2, z3, z4, acc ++ [n]) ?_ ?_) ?_
          · simp only [List.length_append, List.length_cons, List.length_nil]
            cases m2 with
            | true => have := hlt rfl; rw [if_pos rfl]; omega
            | false => rw [if_neg (by decide)]; omega
          · cases m2 with
            | true => have := hlt rfl; simp only [if_true]; omega
            | false => simp
          · simp only
            cases nums (wordsOf m2 r) <;> simp
        · rw [if_neg c, if_neg c]; rfl
      · simp only [endO]; rw [stepK_ifB, ifB_t]; rfl
      · simp only [endO]; rw [stepK_ifB, ifB_t]; rfl
end Go.Proofs.Y
namespace Go.Proofs.Y
open Go.Rb Go.Kx
end Go.Proofs.Y
namespace Go.Proofs.Y
open Go.Rb Go.Kx
set_option maxRecDepth 100000
end Go.Proofs.Y
namespace Go.Proofs.Y
open Go.Rb Go.Kx
end Go.Proofs.Y
namespace Go.Proofs.Y
open Go.Rb Go.Kx
set_option maxRecDepth 100000
end Go.Proofs.Y
namespace Go.Proofs.Y
open Go.Rb Go.Kx
set_option maxRecDepth 100000
end Go.Proofs.Y
namespace Go.Proofs.Y
open Go.Rb Go.Kx
set_option maxRecDepth 100000
end Go.Proofs.Y
namespace Go.Proofs.Y
open Go.Rb Go.Kx
end Go.Proofs.Y
namespace Go.Proofs.Y
open Go.Rb Go.Kx
end Go.Proofs.Y
namespace Go.Proofs.Y
open Go.Rb Go.Kx
noncomputable def C_recSay : Code := bodyOf Tryd.f39
noncomputable def G_recSay : FuncId → Option GS := tabG [(32, R_itoa)]
theorem g_recSay : ΓOK Tryd.prog G_recSay := ΓOK_cons (R_itoa_ok) (ΓOK_nil)
def H_recSay : HT := ⟨tabL [(1, .it [] (dyn [.t 7 (.int .i64), .b 1 0 9 (.one .str)]))], tabH [(0, [.frz 0])]⟩
noncomputable def I_recSay : GS := inl T G_recSay H_recSay C_recSay (resOf Tryd.f39) (Tryd.f39.ntmps)
theorem I_recSay_ok : GSOK Tryd.prog 39 I_recSay := inl_ok tok g_recSay fmo (Ht := H_recSay) (fn := Tryd.f39) (Tryd.func39) (c := C_recSay) (by kernel_rfl) (by kernel_rfl) (by kernel_rfl)
end Go.Proofs.Y
namespace Go.Proofs.Y
open Go.Rb Go.Kx Go.Proofs
def join_ren : Go.Shelf.Ren := ⟨fun | 156 => 40 | 165 => 56 | 166 => 57 | 169 => 58 | 240 => 72 | 241 => 73 | 276 => 86 | 277 => 87 | n => n, fun | 31 => 57 | 9 => 9 | 3 => 3 | 4 => 4 | 0 => 0 | 20 => 20 | 72 => 91 | 76 => 66 | 70 => 89 | 37 => 35 | 75 => 65 | 127 => 103 | 164 => 121 | 5 => 5 | 80 => 93 | n => n, fun | n => n⟩
theorem join_lays : Go.Proofs.Lays.n156 Tryd.prog join_ren := {
  mixed := by kernel_rfl
  f156 := Tryd.func40.trans (congrArg some (by kernel_rfl))
  f165 := Tryd.func56.trans (congrArg some (by kernel_rfl))
  f166 := Tryd.func57.trans (congrArg some (by kernel_rfl))
  f169 := Tryd.func58.trans (congrArg some (by kernel_rfl))
  f240 := Tryd.func72.trans (congrArg some (by kernel_rfl))
  f241 := Tryd.func73.trans (congrArg some (by kernel_rfl))
  f276 := Tryd.func86.trans (congrArg some (by kernel_rfl))
  f277 := Tryd.func87.trans (congrArg some (by kernel_rfl))
  t0 := Tryd.underlying0
  a0 := Tryd.isAgg0
  z0 := Tryd.sizeOf0
  v0 := Tryd.zeroValue0
  t3 := Tryd.underlying3
  a3 := Tryd.isAgg3
  z3 := Tryd.sizeOf3
  v3 := Tryd.zeroValue3
  t4 := Tryd.underlying4
  a4 := Tryd.isAgg4
  z4 := Tryd.sizeOf4
  v4 := Tryd.zeroValue4
  t9 := Tryd.underlying9
  a9 := Tryd.isAgg9
  z9 := Tryd.sizeOf9
  v9 := Tryd.zeroValue9
  t20 := Tryd.underlying20
  a20 := Tryd.isAgg20
  z20 := Tryd.sizeOf20
  v20 := Tryd.zeroValue20
  t31 := Tryd.underlying57
  a31 := Tryd.isAgg57
  z31 := Tryd.sizeOf57
  v31 := Tryd.zeroValue57
  t37 := Tryd.underlying35
  a37 := Tryd.isAgg35
  z37 := Tryd.sizeOf35
  v37 := Tryd.zeroValue35
  t70 := Tryd.underlying89
  a70 := Tryd.isAgg89
  z70 := Tryd.sizeOf89
  v70 := Tryd.zeroValue89
  t72 := Tryd.underlying91
  a72 := Tryd.isAgg91
  z72 := Tryd.sizeOf91
  v72 := Tryd.zeroValue91
  t75 := Tryd.underlying65
  a75 := Tryd.isAgg65
  z75 := Tryd.sizeOf65
  v75 := Tryd.zeroValue65
  t76 := Tryd.underlying66
  a76 := Tryd.isAgg66
  z76 := Tryd.sizeOf66
  v76 := Tryd.zeroValue66
  t127 := Tryd.underlying103
  a127 := Tryd.isAgg103
  z127 := Tryd.sizeOf103
  v127 := Tryd.zeroValue103
  t164 := Tryd.underlying121
  a164 := Tryd.isAgg121
  z164 := Tryd.sizeOf121
  v164 := Tryd.zeroValue121 }
theorem join_extra : Builder.Extra Tryd.prog join_ren := {
  sizeBuilder := by kernel_rfl
  liesBuilder := by kernel_rfl
  t5 := Tryd.underlying5
  a5 := Tryd.isAgg5
  z5 := Tryd.sizeOf5
  v5 := Tryd.zeroValue5
  infoByte := by kernel_rfl
  cellsByte := by kernel_rfl
  sizeByte := by kernel_rfl
  neB5 := by decide }
theorem join_body : HasBody Tryd.prog (join_ren.f 156) := ⟨Tryd.f40, bodyOf Tryd.f40, Tryd.func40, by kernel_rfl, by kernel_rfl⟩
theorem join_gs : GSOK Tryd.prog 40 (.r (libS (isLS 9) (fun x => joinO (x.1) (x.2)) gStr)) := join_spec 9 join_lays join_extra join_body
end Go.Proofs.Y
namespace Go.Proofs.Y
open Go.Rb Go.Kx
noncomputable abbrev R_join : GS := .r (libS [.v (.one (.sl 9 (.one .str))) false, .v (.one .str) false] (fun x => joinO (x.1) (x.2)) gStr)
theorem R_join_ok : GSOK Tryd.prog 40 R_join := join_gs
end Go.Proofs.Y
namespace Go.Proofs.Y
open Go.Rb Go.Kx
noncomputable def C_rainbookref_RecText : Code := bodyOf Tryd.f11
noncomputable def G_rainbookref_RecText : FuncId → Option GS := tabG [(38, R_rainbookref_CheckRec), (39, I_recSay), (40, R_join)]
theorem g_rainbookref_RecText : ΓOK Tryd.prog G_rainbookref_RecText := ΓOK_cons (R_rainbookref_CheckRec_ok) (ΓOK_cons (I_recSay_ok) (ΓOK_cons (R_join_ok) (ΓOK_nil)))
def H_rainbookref_RecText : HT := ⟨tabL [(12, .it [] (dyn [.t 29 (.int .i64), .b 5 0 9 (.one .str)]))], tabH []⟩
abbrev is_rainbookref_RecText : List IT := [.v (.cons (.int .i64) (.cons (.int .i64) (.cons (.int .i64) (.one (.sl 56 (.cons (.int .i64) (.cons (.int .i64) (.one (.int .i64))))))))) true]
abbrev os_rainbookref_RecText : List OT := [⟨.one .str, false, []⟩, ⟨.one (.int .i64), false, []⟩]
set_option maxRecDepth 100000
noncomputable def F_rainbookref_RecText : Int × Int × Int × List (Int × Int × Int) → Option (List UInt8 × Int) := fun (a : Int × Int × Int × List (Int × Int × Int)) => bindO (F_rainbookref_CheckRec (a.1, a.2.1, a.2.2.1, a.2.2.2)) fun (y : Int) => ifB (neI y 0) (some ([], y)) (ifB (eqI a.1 1) (loopN maxR (fun (x : Int × List (List UInt8)) => ifB (ltI x.1 (lenI a.2.2.2)) (bindO (atI a.2.2.2 x.1) fun (y : Int × Int × Int) => loopN maxR (fun (x_1 : Int × List (List UInt8)) => ifB (ltI x_1.1 (lenI [y.1, y.2.1, y.2.2])) (bindO (atI [y.1, y.2.1, y.2.2] x_1.1) fun (y : Int) => bindO (itoaO y) fun (y : List UInt8) => ifB (roomA 16 x_1.2 [y]) (some (Sum.inl (wadd .i64 x_1.1 1, cat x_1.2 [y]))) none) (mapO Sum.inr (some (Sum.inl (wadd .i64 x.1 1, x_1.2))))) (0, x.2)) (mapO Sum.inr (bindO (joinO x.2 [32]) fun (y : List UInt8) => some (y, 0)))) (0, [[98, 97, 116, 99, 104]])) (ifB (eqI a.1 2) (loopN maxR (fun (x : Int × List (List UInt8)) => ifB (ltI x.1 (lenI [a.2.1, a.2.2.1])) (bindO (atI [a.2.1, a.2.2.1] x.1) fun (y : Int) => bindO (itoaO y) fun (y : List UInt8) => ifB (roomA 16 x.2 [y]) (some (Sum.inl (wadd .i64 x.1 1, cat x.2 [y]))) none) (mapO Sum.inr (bindO (joinO x.2 [32]) fun (y : List UInt8) => some (y, 0)))) (0, [ifB (eqI a.1 2) [115, 101, 97, 108] (ifB (eqI a.1 3) [109, 101, 114, 103, 101] [])])) (ifB (eqI a.1 3) (loopN maxR (fun (x : Int × List (List UInt8)) => ifB (ltI x.1 (lenI [a.2.1, a.2.2.1])) (bindO (atI [a.2.1, a.2.2.1] x.1) fun (y : Int) => bindO (itoaO y) fun (y : List UInt8) => ifB (roomA 16 x.2 [y]) (some (Sum.inl (wadd .i64 x.1 1, cat x.2 [y]))) none) (mapO Sum.inr (bindO (joinO x.2 [32]) fun (y : List UInt8) => some (y, 0)))) (0, [ifB (eqI a.1 2) [115, 101, 97, 108] (ifB (eqI a.1 3) [109, 101, 114, 103, 101] [])])) (loopN maxR (fun (x : Int × List (List UInt8)) => ifB (ltI x.1 (lenI [a.2.2.1])) (bindO (atI [a.2.2.1] x.1) fun (y : Int) => bindO (itoaO y) fun (y : List UInt8) => ifB (roomA 16 x.2 [y]) (some (Sum.inl (wadd .i64 x.1 1, cat x.2 [y]))) none) (mapO Sum.inr (bindO (joinO x.2 [32]) fun (y : List UInt8) => some (y, 0)))) (0, [[100, 114, 111, 112]])))))
theorem F_rainbookref_RecText_eq (x : PI is_rainbookref_RecText) : F_rainbookref_RecText x = fnE T G_rainbookref_RecText H_rainbookref_RecText C_rainbookref_RecText (resOf Tryd.f11) is_rainbookref_RecText os_rainbookref_RecText x := by kernel_rfl
noncomputable abbrev R_rainbookref_RecText : GS := mkSpec false is_rainbookref_RecText os_rainbookref_RecText fun x => F_rainbookref_RecText x
theorem R_rainbookref_RecText_ok : GSOK Tryd.prog 11 R_rainbookref_RecText := spec_ok tok g_rainbookref_RecText fmo (Ht := H_rainbookref_RecText) (fn := Tryd.f11) (Tryd.func11) (c := C_rainbookref_RecText) (by kernel_rfl) (by kernel_rfl) (by kernel_rfl) (by decide +kernel) (by decide) F_rainbookref_RecText_eq
end Go.Proofs.Y
namespace Go.Proofs.Y
open Go.Rb Go.Kx
theorem sayLoop {α : Type} (ns : List Int) (hn : ∀ n ∈ ns, inR64 n) (hl : ns.length ≤ 1000) (F : List (List UInt8) → Option α) (s : List (List UInt8)) (hs : s.length ≤ 100000) :
    loopN maxR (fun (x : Int × List (List UInt8)) => ifB (ltI x.1 (lenI ns)) (bindO (atI ns x.1) fun (y : Int) => bindO (itoaO y) fun (t : List UInt8) => ifB (roomA 16 x.2 [t]) (some (Sum.inl (wadd .i64 x.1 1, cat x.2 [t]))) none) (mapO Sum.inr (F x.2))) (0, s) = F (s ++ ns.map Lib.itoa) := by
  refine loop_range ns (fun j (s : List (List UInt8)) => ((j : Int), s)) (G := fun rest s => F (s ++ rest.map Lib.itoa)) (P := fun j s => s.length ≤ 100000 + j) (s0 := s) ?_ ?_ (by simpa using hs) (by omega)
  · rintro j acc hj hp k hk
    have hat := atI_nat hj
    have hm : ns.getD j default ∈ ns := getD_mem hj
    have hb := hn _ hm
    generalize ns.getD j default = n at *
    have hi : itoaO n = some (Lib.itoa n) := by unfold itoaO; exact if_pos hb
    simp only at hp ⊢
    rw [stepK_ifB, ifB_ltI, lenI_eq, if_pos (by omega), hat, bindO_some, hi, bindO_some, stepK_ifB, ifB_roomA, if_pos (by simp only [List.length_cons, List.length_nil]; omega), stepK_inl, wadd_nat (by omega), cat_eq, hk _ (by simp only [List.length_append, List.length_cons, List.length_nil]; omega), List.append_assoc]
    rfl
  · rintro acc hp k
    simp only
    rw [stepK_ifB, stepK_map, ifB_ltI, lenI_eq, if_neg (by omega)]
    simp
theorem join_jn (c : UInt8) (w : List UInt8) (r : List (List UInt8)) : Lib.join (w :: r) [c] = jn c (w :: r) := by
  rw [Lib.join_cons]; rfl
noncomputable def finT (ws : List (List UInt8)) : Option (List UInt8 × Int) := bindO (joinO ws [32]) fun (y : List UInt8) => some (y, 0)
theorem finT_eq {w : List UInt8} {r : List (List UInt8)} (h : (jn 32 (w :: r)).length ≤ 100000) (hl : r.length ≤ 100000) : finT (w :: r) = some (jn 32 (w :: r), 0) := by
  unfold finT joinO
  rw [join_jn, if_pos ⟨by simp only [List.length_cons]; omega, by omega⟩, bindO_some]
noncomputable def rtS (ns : List Int) (w : List UInt8) : Option (List UInt8 × Int) :=
  loopN maxR (fun (x : Int × List (List UInt8)) => ifB (ltI x.1 (lenI ns)) (bindO (atI ns x.1) fun (y : Int) => bindO (itoaO y) fun (t : List UInt8) => ifB (roomA 16 x.2 [t]) (some (Sum.inl (wadd .i64 x.1 1, cat x.2 [t]))) none) (mapO Sum.inr (finT x.2))) (0, [w])
theorem recText_form (a : Rc) : F_rainbookref_RecText a = bindO (F_rainbookref_CheckRec a) fun (e : Int) => ifB (neI e 0) (some ([], e)) (ifB (eqI a.1 1)
    (loopN maxR (fun (x : Int × List (List UInt8)) => ifB (ltI x.1 (lenI a.2.2.2)) (bindO (atI a.2.2.2 x.1) fun (z : Ent) =>
        loopN maxR (fun (v : Int × List (List UInt8)) => ifB (ltI v.1 (lenI [z.1, z.2.1, z.2.2])) (bindO (atI [z.1, z.2.1, z.2.2] v.1) fun (y : Int) => bindO (itoaO y) fun (t : List UInt8) => ifB (roomA 16 v.2 [t]) (some (Sum.inl (wadd .i64 v.1 1, cat v.2 [t]))) none) (mapO Sum.inr (some (Sum.inl (wadd .i64 x.1 1, v.2))))) (0, x.2))
      (mapO Sum.inr (finT x.2))) (0, [[98, 97, 116, 99, 104]]))
    (ifB (eqI a.1 2) (rtS [a.2.1, a.2.2.1] (ifB (eqI a.1 2) [115, 101, 97, 108] (ifB (eqI a.1 3) [109, 101, 114, 103, 101] [])))
      (ifB (eqI a.1 3) (rtS [a.2.1, a.2.2.1] (ifB (eqI a.1 2) [115, 101, 97, 108] (ifB (eqI a.1 3) [109, 101, 114, 103, 101] []))) (rtS [a.2.2.1] [100, 114, 111, 112])))) := by kernel_rfl
theorem rtS_eq {ns : List Int} {w : List UInt8} (hn : ∀ n ∈ ns, inR64 n) (hl : ns.length ≤ 1000) (h : (jn 32 (w :: ns.map Lib.itoa)).length ≤ 100000) : rtS ns w = some (jn 32 (w :: ns.map Lib.itoa), 0) := by
  unfold rtS
  refine (sayLoop ns hn hl finT [w] (by simp)).trans ?_
  exact finT_eq (w := w) (r := ns.map Lib.itoa) h (by rw [List.length_map]; omega)
theorem recText_eq (r : Rc) (hl : r.2.2.2.length < 4611686018427387904) : F_rainbookref_RecText r = some (printR r) := by
  rw [recText_form, checkRec_eq r hl, bindO_some, ifB_neI]
  unfold printR
  by_cases hc : chkRec r = 0
  · rw [if_pos hc, if_pos hc]
    have htl := textR_len hc
    obtain ⟨a1, a2⟩ := args_in hc
    obtain ⟨k1, k2, k3, k4⟩ := chkRec_kind hc
    obtain ⟨k, i, n, l⟩ := r
    simp only at k1 k2 k3 k4 a1 a2 htl hl ⊢
    have hin : ∀ m ∈ rcArgs (k, i, n, l), inR64 m := fun m hm => by have := a2 m hm; unfold inR64; omega
    unfold textR at htl ⊢
    rw [ifB_eqI]
    by_cases c1 : k = 1
    · subst c1
      have e1 : rcArgs (1, i, n, l) = flatE l := rfl
      have e2 : kindW.getD (1 : Int).toNat [] = [98, 97, 116, 99, 104] := rfl
      rw [e1] at hin a1
      rw [e1, e2] at htl ⊢
      rw [if_pos rfl]
      have hl10 := flat_len l
      have key := loop_range l (fun j (s : List (List UInt8)) => ((j : Int), s)) (f := fun (x : Int × List (List UInt8)) => ifB (ltI x.1 (lenI l)) (bindO (atI l x.1) fun (z : Ent) =>
          loopN maxR (fun (v : Int × List (List UInt8)) => ifB (ltI v.1 (lenI [z.1, z.2.1, z.2.2])) (bindO (atI [z.1, z.2.1, z.2.2] v.1) fun (y : Int) => bindO (itoaO y) fun (t : List UInt8) => ifB (roomA 16 v.2 [t]) (some (Sum.inl (wadd .i64 v.1 1, cat v.2 [t]))) none) (mapO Sum.inr (some (Sum.inl (wadd .i64 x.1 1, v.2))))) (0, x.2))
        (mapO Sum.inr (finT x.2))) (G := fun rest s => finT (s ++ (flatE rest).map Lib.itoa)) (P := fun j s => s.length ≤ 1 + 3 * j) (s0 := [[98, 97, 116, 99, 104]]) ?_ ?_ (by simp) (by omega)
      · refine key.trans ?_
        exact finT_eq (w := [98, 97, 116, 99, 104]) (r := (flatE l).map Lib.itoa) (by omega) (by rw [List.length_map]; omega)
      · rintro j acc hj hp kk hk
        have hat := atI_nat hj
        have hm : l.getD j default ∈ l := getD_mem hj
        have hz : ∀ m ∈ [(l.getD j default).1, (l.getD j default).2.1, (l.getD j default).2.2], inR64 m := by
          have hsub : ∀ (l : List Ent) (z : Ent), z ∈ l → ∀ m ∈ [z.1, z.2.1, z.2.2], m ∈ flatE l := by
            intro l z hz
            induction l with
            | nil => cases hz
            | cons x r ih =>
              intro m hm
              rw [flatE]
              rcases List.mem_cons.1 hz with rfl | hz
              · simp only [List.mem_cons, List.not_mem_nil, or_false] at hm
                rcases hm with rfl | rfl | rfl <;> simp
              · have := ih hz m hm; simp [this]
          exact fun m hm' => hin m (hsub l _ hm m hm')
        generalize l.getD j default = z at *
        simp only at hp ⊢
        rw [stepK_ifB, ifB_ltI, lenI_eq, if_pos (by omega), hat, bindO_some]
        have := sayLoop [z.1, z.2.1, z.2.2] hz (by simp) (fun s => (some (Sum.inl (wadd .i64 (j : Int) 1, s)) : Option (Sum (Int × List (List UInt8)) (List UInt8 × Int)))) acc (by omega)
        rw [this, stepK_inl, wadd_nat (by omega), hk _ (by simp only [List.length_append, List.length_map, List.length_cons, List.length_nil]; omega), flatE]
        simp only [List.map_cons, List.map_nil, List.append_assoc, List.cons_append, List.nil_append]
      · rintro acc hp kk
        simp only
        rw [stepK_ifB, stepK_map, ifB_ltI, lenI_eq, if_neg (by omega)]
        simp [flatE]
    · rw [if_neg c1, ifB_eqI]
      have : k = 2 ∨ k = 3 ∨ k = 4 := by omega
      rcases this with rfl | rfl | rfl
      · rw [if_pos rfl]
        exact rtS_eq (w := [115, 101, 97, 108]) hin (by simp) (by exact Nat.le_trans htl (by omega))
      · rw [if_neg (by omega), ifB_eqI, if_pos rfl]
        exact rtS_eq (w := [109, 101, 114, 103, 101]) hin (by simp) (by exact Nat.le_trans htl (by omega))
      · rw [if_neg (by omega), ifB_eqI, if_neg (by omega)]
        exact rtS_eq (w := [100, 114, 111, 112]) hin (by simp) (by exact Nat.le_trans htl (by omega))
  · rw [if_neg hc, if_neg hc]
end Go.Proofs.Y
namespace Go.Proofs.Y
open Go.Rb Go.Kx
noncomputable def C_rainbookref_SameRec : Code := bodyOf Tryd.f13
noncomputable def G_rainbookref_SameRec : FuncId → Option GS := tabG [(34, R_equalE)]
theorem g_rainbookref_SameRec : ΓOK Tryd.prog G_rainbookref_SameRec := ΓOK_cons (R_equalE_ok) (ΓOK_nil)
def H_rainbookref_SameRec : HT := ⟨tabL [], tabH []⟩
abbrev is_rainbookref_SameRec : List IT := [.v (.cons (.int .i64) (.cons (.int .i64) (.cons (.int .i64) (.one (.sl 56 (.cons (.int .i64) (.cons (.int .i64) (.one (.int .i64))))))))) true, .v (.cons (.int .i64) (.cons (.int .i64) (.cons (.int .i64) (.one (.sl 56 (.cons (.int .i64) (.cons (.int .i64) (.one (.int .i64))))))))) true]
abbrev os_rainbookref_SameRec : List OT := [⟨.one .bool, false, []⟩]
set_option maxRecDepth 100000
noncomputable def F_rainbookref_SameRec : Int × Int × Int × List (Int × Int × Int) → Int × Int × Int × List (Int × Int × Int) → Option Bool := fun (a b : Int × Int × Int × List (Int × Int × Int)) => ifB (eqI a.1 b.1) (ifB (eqI a.2.1 b.2.1) (ifB (eqI a.2.2.1 b.2.2.1) (bindO (F_equalE a.2.2.2 b.2.2.2) fun (y : Bool) => some y) (some false)) (some false)) (some false)
theorem F_rainbookref_SameRec_eq (x : PI is_rainbookref_SameRec) : F_rainbookref_SameRec (x.1) (x.2) = fnE T G_rainbookref_SameRec H_rainbookref_SameRec C_rainbookref_SameRec (resOf Tryd.f13) is_rainbookref_SameRec os_rainbookref_SameRec x := by kernel_rfl
noncomputable abbrev R_rainbookref_SameRec : GS := mkSpec false is_rainbookref_SameRec os_rainbookref_SameRec fun x => F_rainbookref_SameRec (x.1) (x.2)
theorem R_rainbookref_SameRec_ok : GSOK Tryd.prog 13 R_rainbookref_SameRec := spec_ok tok g_rainbookref_SameRec fmo (Ht := H_rainbookref_SameRec) (fn := Tryd.f13) (Tryd.func13) (c := C_rainbookref_SameRec) (by kernel_rfl) (by kernel_rfl) (by kernel_rfl) (by decide +kernel) (by decide) F_rainbookref_SameRec_eq
end Go.Proofs.Y
namespace Go.Proofs.Y
open Go.Rb Go.Kx
noncomputable def C_rainbooklaw_NoteSays : Code := bodyOf Tryd.f4
noncomputable def G_rainbooklaw_NoteSays : FuncId → Option GS := tabG [(7, R_note_Print), (10, R_note_Parse), (11, R_rainbookref_RecText), (8, R_rainbooklaw_noted), (12, R_note_Check), (9, R_note_Same), (13, R_rainbookref_SameRec), (14, R_rainbookref_RecRead)]
theorem g_rainbooklaw_NoteSays : ΓOK Tryd.prog G_rainbooklaw_NoteSays := ΓOK_cons (R_note_Print_ok) (ΓOK_cons (R_note_Parse_ok) (ΓOK_cons (R_rainbookref_RecText_ok) (ΓOK_cons (R_rainbooklaw_noted_ok) (ΓOK_cons (R_note_Check_ok) (ΓOK_cons (R_note_Same_ok) (ΓOK_cons (R_rainbookref_SameRec_ok) (ΓOK_cons (R_rainbookref_RecRead_ok) (ΓOK_nil))))))))
def H_rainbooklaw_NoteSays : HT := ⟨tabL [], tabH []⟩
abbrev is_rainbooklaw_NoteSays : List IT := [.v (.cons (.int .i64) (.cons (.int .i64) (.cons (.int .i64) (.one (.sl 56 (.cons (.int .i64) (.cons (.int .i64) (.one (.int .i64))))))))) true, .v (.cons (.int .i64) (.cons (.int .i64) (.cons (.int .i64) (.one (.sl 56 (.cons (.int .i64) (.cons (.int .i64) (.one (.int .i64))))))))) true, .v (.one .str) false]
abbrev os_rainbooklaw_NoteSays : List OT := [⟨.one .bool, false, []⟩]
set_option maxRecDepth 100000
noncomputable def F_rainbooklaw_NoteSays : Int × Int × Int × List (Int × Int × Int) → Int × Int × Int × List (Int × Int × Int) → List UInt8 → Option Bool := fun (a b : Int × Int × Int × List (Int × Int × Int)) (c : List UInt8) => bindO (F_note_Print (a.1, a.2.1, a.2.2.1, a.2.2.2)) fun (y : List UInt8 × Int) => bindO (F_note_Parse c) fun (y_1 : (Int × Int × Int × List (Int × Int × Int)) × Int) => bindO (F_rainbookref_RecText (a.1, a.2.1, a.2.2.1, a.2.2.2)) fun (y_2 : List UInt8 × Int) => bindO F_rainbooklaw_noted fun (y_3 : Bool) => ifB (notB y_3) (some false) (bindO (F_note_Check (a.1, a.2.1, a.2.2.1, a.2.2.2)) fun (y_4 : Int) => ifB (neI y_4 y_2.2) (some false) (ifB (neI y.2 y_2.2) (some false) (ifB (notB (eqS y.1 y_2.1)) (some false) (bindO (F_note_Same (a.1, a.2.1, a.2.2.1, a.2.2.2) (b.1, b.2.1, b.2.2.1, b.2.2.2)) fun (y : Bool) => bindO (F_rainbookref_SameRec (a.1, a.2.1, a.2.2.1, a.2.2.2) (b.1, b.2.1, b.2.2.1, b.2.2.2)) fun (y_5 : Bool) => ifB (notB (eqB y y_5)) (some false) (ifB (gtI (lenI c) 60000) (ifB (eqI y_1.2 2) (bindO (F_rainbookref_SameRec (y_1.1.1, y_1.1.2.1, y_1.1.2.2.1, y_1.1.2.2.2) (0, 0, 0, [])) fun (y : Bool) => some y) (some false)) (bindO (F_rainbookref_RecRead c) fun (y : (Int × Int × Int × List (Int × Int × Int)) × Int) => ifB (eqI y_1.2 y.2) (bindO (F_rainbookref_SameRec (y_1.1.1, y_1.1.2.1, y_1.1.2.2.1, y_1.1.2.2.2) (y.1.1, y.1.2.1, y.1.2.2.1, y.1.2.2.2)) fun (y : Bool) => some y) (some false)))))))
theorem F_rainbooklaw_NoteSays_eq (x : PI is_rainbooklaw_NoteSays) : F_rainbooklaw_NoteSays (x.1) (x.2.1) (x.2.2) = fnE T G_rainbooklaw_NoteSays H_rainbooklaw_NoteSays C_rainbooklaw_NoteSays (resOf Tryd.f4) is_rainbooklaw_NoteSays os_rainbooklaw_NoteSays x := by kernel_rfl
noncomputable abbrev R_rainbooklaw_NoteSays : GS := mkSpec false is_rainbooklaw_NoteSays os_rainbooklaw_NoteSays fun x => F_rainbooklaw_NoteSays (x.1) (x.2.1) (x.2.2)
theorem R_rainbooklaw_NoteSays_ok : GSOK Tryd.prog 4 R_rainbooklaw_NoteSays := spec_ok tok g_rainbooklaw_NoteSays fmo (Ht := H_rainbooklaw_NoteSays) (fn := Tryd.f4) (Tryd.func4) (c := C_rainbooklaw_NoteSays) (by kernel_rfl) (by kernel_rfl) (by kernel_rfl) (by decide +kernel) (by decide) F_rainbooklaw_NoteSays_eq
end Go.Proofs.Y
namespace Go.Proofs.Y
open Go.Rb Go.Kx
theorem sameRec_eq (a b : Rc) (h : a.2.2.2.length < 4611686018427387904) : F_rainbookref_SameRec a b = some (decide (a = b)) := by
  rw [← noteSame_eq a b h]; rfl
theorem parseW_bad {w : List UInt8} {xs : List (List UInt8)} (h : (parseW w xs).2 ≠ 0) : (parseW w xs).1 = noRec := by
  unfold parseW at h ⊢
  split
  · rfl
  · rename_i ns hn
    rw [hn] at h
    simp only at h
    split
    · rfl
    · rename_i r hr
      rw [hr] at h
      simp only at h
      split
      · rename_i hc; rw [if_pos hc] at h; exact absurd rfl h
      · rfl
theorem parseR_small (s : List UInt8) : (parseR s).1.2.2.2.length < 4611686018427387904 := by
  by_cases h : (parseR s).2 = 0
  · exact small_rec (parseR_ok h).1
  · have : (parseR s).1 = noRec := by
      unfold parseR at h ⊢
      split
      · rfl
      · rename_i h2; rw [if_neg h2] at h; exact parseW_bad h
    rw [this]; decide
theorem noteSays_eq (r q : Rc) (s : List UInt8) (hr : r.2.2.2.length < 4611686018427387904) (hq : q.2.2.2.length < 4611686018427387904) : F_rainbooklaw_NoteSays r q s = some true := by
  unfold F_rainbooklaw_NoteSays
  refine (bind_of (print_eq r hr) _).trans ?_
  refine (bind_of (parse_eq s) _).trans ?_
  refine (bind_of (recText_eq r hr) _).trans ?_
  refine (bind_of noted_eq _).trans ?_
  rw [ifB_not, ifB_t]
  refine (bind_of (noteCheck_eq r hr) _).trans ?_
  have e : (printR r).2 = chkRec r := by unfold printR; split <;> simp [*]
  rw [ifB_neI, if_pos e.symm, ifB_neI, if_pos rfl, ifB_not, ifB_eqS, if_pos rfl]
  refine (bind_of (noteSame_eq r q hr) _).trans ?_
  refine (bind_of (sameRec_eq r q hr) _).trans ?_
  have e2 : eqB (decide (r = q)) (decide (r = q)) = true := by cases decide (r = q) <;> rfl
  rw [e2, ifB_not, ifB_t, ifB_gtI, lenI_eq]
  by_cases c : 60000 < s.length
  · have e3 : parseR s = (noRec, 2) := by unfold parseR; rw [if_pos c]
    rw [if_pos (by omega), e3, ifB_eqI, if_pos rfl]
    refine (bind_of (sameRec_eq noRec (0, 0, 0, []) (by decide)) _).trans ?_
    rfl
  · rw [if_neg (by omega), recRead_eq s (by omega), bindO_some, ifB_eqI, if_pos rfl]
    refine (bind_of (sameRec_eq (parseR s).1 (parseR s).1 (parseR_small s)) _).trans ?_
    rw [decide_eq_true rfl]
end Go.Proofs.Y
namespace Go.Proofs.Y
open Go.Rb Go.Kx
theorem by56 : Tryd.prog.bytesOf 56 = 24 := by kernel_rfl
theorem reach_eq : reachBytes = 140737488351232 := by decide +kernel
abbrev entR : RT := .cons (.int .i64) (.cons (.int .i64) (.one (.int .i64)))
abbrev recR : RT := .cons (.int .i64) (.cons (.int .i64) (.cons (.int .i64) (.one (.sl 56 entR))))
theorem op_rec (r : DenR recR) (h : BdR Tryd.prog recR r) : (r : Rc).2.2.2.length < 4611686018427387904 := by
  obtain ⟨_, _, _, h, _⟩ := h
  rw [by56, reach_eq] at h
  show List.length r.2.2.2 < _
  omega
end Go.Proofs.Y
namespace Go.Proofs.YtnkegapccacndaaDoor
open Go.Rb Go.Kx Go.RowKit
abbrev laidL : List (String × DataW Unit) := Rows.noteBackRow.laid
theorem row133 (u : TypeId) (h : Tryd.prog.typeName? 3 u = some "*errors.errorString") : u = 133 :=
  typeName_ptr_named (nm := "errors.errorString") (by kernel_rfl) (by kernel_rfl) (by decide) u h
theorem cells135 : Tryd.prog.cellsOf 135 = 1 := by kernel_rfl
theorem cells9 : Tryd.prog.cellsOf 9 = 1 := by kernel_rfl
theorem glob_of {W : World} (h : laidMetH Tryd.prog laidL W) (hsh : W.ShapedOpen Tryd.prog) : Glob Tryd.prog W ∧ NG Tryd.prog ≤ W.heap.size := by
  rw [MakeChecks.laidMetH_plain _ _ _ (by kernel_rfl)] at h
  have h3 : laidMet Tryd.prog (("internal/strconv.uint64pow10", Lib.tabData .u64 Lib.pow10Tab) :: laidL.drop 3) W := h.tail.tail
  have h5 := h.tail.tail.tail.tail
  have h6 := h5.tail
  refine ⟨⟨?_, ?_, ?_, ?_⟩, ng_le hsh (by kernel_rfl) (by kernel_rfl)⟩
  · exact Lib.tabIs_of_head (g := 3) (t := 128) (e := 104) (n := 20) (by kernel_rfl) (by kernel_rfl) Tryd.underlying128 Tryd.underlying104 (by kernel_rfl) (by kernel_rfl) h3
  · obtain ⟨a, s, hv, _⟩ := laid_sentinel (g := 0) (ti := 65) h6 (by kernel_rfl) (by kernel_rfl) Tryd.underlying65 row133 Tryd.underlying133 Tryd.underlying135 rfl rfl Tryd.underlying9 cells135 cells9
    exact ⟨_, _, hv⟩
  · obtain ⟨a, s, hv, _⟩ := laid_sentinel (g := 1) (ti := 65) h5 (by kernel_rfl) (by kernel_rfl) Tryd.underlying65 row133 Tryd.underlying133 Tryd.underlying135 rfl rfl Tryd.underlying9 cells135 cells9
    exact ⟨_, _, hv⟩
  · exact glob_int (g := 2) (t := 3) (zero := #[.int .i64 0]) hsh (by kernel_rfl) (by kernel_rfl) (by kernel_rfl) (by kernel_rfl) (by kernel_rfl) Tryd.underlying3
theorem own : ownKnob Tryd.prog.godebug = none := by kernel_rfl
theorem laid_fits (os : Os) : (World.holding Tryd.prog os ⟨#[], #[], []⟩).layFits Tryd.prog laidL [] = true := by kernel_rfl
theorem laid_ifaces (os : Os) : (World.holding Tryd.prog os ⟨#[], #[], []⟩).layIfaces Tryd.prog laidL (World.laidAll Tryd.prog os laidL) = true := by kernel_rfl
theorem laid_met (os : Os) (args : Array Value) : laidMetH Tryd.prog laidL ((World.laidAll Tryd.prog os laidL).forCall (fun _ _ => 0) ⟨#[], args, []⟩).memory := by
  rw [MakeChecks.laidMetH_plain _ _ _ (by kernel_rfl)]
  exact laidMet_laidAll _ (laid_fits os) (laid_ifaces os)
end Go.Proofs.YtnkegapccacndaaDoor
