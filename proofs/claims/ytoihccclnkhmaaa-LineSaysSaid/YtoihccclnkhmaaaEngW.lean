/-
  What is proved: arguments that a row reads are plain data, of their types. Conditions: none.
-/
import Derived.Test.YtoihccclnkhmaaaEngV
import Derived.Deep.Slices
import Derived.ChangeStays
import Derived.ChangeSame
import Derived.SizedLaws
set_option linter.unusedVariables false
set_option linter.unusedSimpArgs false
set_option maxRecDepth 4000
namespace Go.Rb
open Go.ChangeShapes Go.WideShapes Go.Deep

/-- Data of a type. -/
inductive Ty (P : Program) : TypeId → List C → Prop where
  | bool {t : TypeId} (b : Bool) (h : P.underlying t = some .bool) : Ty P t [.bool b]
  | int {t : TypeId} {k : IntKind} (n : Int) (h : P.underlying t = some (.int k)) (hw : (Lit.int k n).wf = true) : Ty P t [.int k n]
  | str {t : TypeId} (s : ByteArray) (h : P.underlying t = some .string) (hs : s.size ≤ maxLen) : Ty P t [.str s]
  | sl {t e : TypeId} (rows : List (List C)) (h : P.underlying t = some (.slice e)) (hn : rows.length * P.bytesOf e ≤ reachBytes) (hr : ∀ r ∈ rows, Ty P e r) : Ty P t [.sl e rows]
  | struct {t : TypeId} {fs : Array Field} (cs : List C) (h : P.underlying t = some (.struct fs)) (hl : cs.length = P.cellsOf t)
      (hf : ∀ f ∈ fs.toList, Ty P f.type ((cs.drop f.offset).take (P.cellsOf f.type))) : Ty P t cs

def tot (P : Program) : List Field → Nat
  | [] => 0
  | f :: fs => P.cellsOf f.type + tot P fs

def tiles (P : Program) : Nat → List Field → Bool
  | _, [] => true
  | o, f :: fs => f.offset == o && tiles P (o + P.cellsOf f.type) fs

/-- A type of plain data. -/
def dataT (P : Program) : Nat → TypeId → Bool
  | 0, _ => false
  | d + 1, t => match P.underlying t with
    | some .bool | some (.int _) | some .string => true
    | some (.slice e) => (P.cellsOf e != 0) && dataT P d e
    | some (.struct fs) => tiles P 0 fs.toList && (tot P fs.toList == P.cellsOf t) && fs.toList.all (fun f => dataT P d f.type)
    | _ => false

/-- Cells that read as data. -/
def RdL (P : Program) (w : World) (S : Nat → Nat → Prop) (vs : List Value) (cs : List C) : Prop := ∀ (i : Nat) (v : Value) (c : C), vs[i]? = some v → cs[i]? = some c → Rd P w S v c

theorem fields_ty {P : Program} {w : World} {S : Nat → Nat → Prop} {vs : List Value} : ∀ (fs : List Field) (o : Nat), tiles P o fs = true → o + tot P fs ≤ vs.length →
    (∀ f ∈ fs, ∃ cf, cf.length = ((vs.drop f.offset).take (P.cellsOf f.type)).length ∧ RdL P w S ((vs.drop f.offset).take (P.cellsOf f.type)) cf ∧ Ty P f.type cf) →
    ∃ cs, cs.length = tot P fs ∧ RdL P w S (vs.drop o) cs ∧ ∀ f ∈ fs, o ≤ f.offset ∧ Ty P f.type ((cs.drop (f.offset - o)).take (P.cellsOf f.type))
  | [], o, _, _, _ => ⟨[], rfl, by intro i v c _ h; simp at h, by simp⟩
  | f :: fs, o, ht, hl, h => by
    simp only [tiles, Bool.and_eq_true, beq_iff_eq] at ht
    obtain ⟨ho, ht⟩ := ht
    simp only [tot] at hl
    obtain ⟨cf, h1, h2, h3⟩ := h f List.mem_cons_self
    obtain ⟨cs, g1, g2, g3⟩ := fields_ty fs (o + P.cellsOf f.type) ht (by omega) (fun f hf => h f (List.mem_cons_of_mem _ hf))
    rw [ho] at h1 h2
    have hcf : cf.length = P.cellsOf f.type := by rw [h1]; simp; omega
    refine ⟨cf ++ cs, by simp [tot, hcf, g1], ?_, ?_⟩
    · intro i v c hv hc
      by_cases hi : i < cf.length
      · rw [List.getElem?_append_left hi] at hc
        refine h2 i v c ?_ hc
        rw [List.getElem?_take, if_pos (by omega)]
        exact hv
      · rw [List.getElem?_append_right (by omega)] at hc
        refine g2 (i - cf.length) v c ?_ hc
        rw [List.getElem?_drop] at hv ⊢
        rw [← hv]
        congr 1
        omega
    · intro g hg
      rcases List.mem_cons.1 hg with rfl | hg
      · refine ⟨by omega, ?_⟩
        rw [ho, Nat.sub_self, List.drop_zero, ← hcf, List.take_left]
        exact h3
      · obtain ⟨k1, k2⟩ := g3 g hg
        refine ⟨by omega, ?_⟩
        have : g.offset - o = cf.length + (g.offset - (o + P.cellsOf f.type)) := by omega
        rw [this, List.drop_append]
        rw [List.drop_of_length_le (by omega), List.nil_append]
        have e : cf.length + (g.offset - (o + P.cellsOf f.type)) - cf.length = g.offset - (o + P.cellsOf f.type) := by omega
        rw [e]
        exact k2

theorem weightsAll_mem {H : Type} {P : Program} {e : TypeId} : ∀ {ds : List (DataW H)} {d : DataW H}, d ∈ ds → ∀ n ∈ d.weights P e, n ∈ DataW.weightsAll P e ds
  | [], _, h, _, _ => by cases h
  | d0 :: ds, d, h, n, hn => by
    simp only [DataW.weightsAll, List.mem_append]
    rcases List.mem_cons.1 h with rfl | h
    · exact .inl hn
    · exact .inr (weightsAll_mem h n hn)

section
variable {H : Type} {enc : TypeId × Value → H} {P : Program} {w : World} {base : Nat} {spare : Nat → Bool} {held : Bool}

theorem cell_lt {a : Addr} {v : Value} (h : w.cell? a = some v) : a.block < w.heap.size ∧ a.spot = none := by
  unfold World.cell? at h
  split at h
  · rename_i c e f hb
    refine ⟨(Array.getElem?_eq_some_iff.1 hb).1, ?_⟩
    cases hs : a.spot with
    | none => rfl
    | some k => simp [hs] at h
  · cases h

/-- What a row reads is data of its type. -/
theorem trod_ty : ∀ (d n : Nat) (t : TypeId) (vs : List Value) (x : DataW H × List MemPlace), dataT P d t = true → (∀ k ∈ x.1.weights P t, k ≤ reachBytes) → DataW.trod enc P w base spare held n t vs = some x →
    ∃ cs, cs.length = vs.length ∧ RdL P w (fun b _ => b < w.heap.size) vs cs ∧ Ty P t cs
  | 0, _, _, _, _, h, _, _ => by cases h
  | d + 1, n, t, vs, x, hd, hw, h => by
    have one : ∀ {v : Value} {c : C}, Rd P w (fun b _ => b < w.heap.size) v c → RdL P w (fun b _ => b < w.heap.size) [v] [c] := by
      intro v c hr i v' c' hv hc
      cases i with
      | zero => simp at hv hc; subst hv hc; exact hr
      | succ i => simp at hv
    unfold dataT at hd
    split at hd
    · rename_i hu
      obtain ⟨b, rfl, _⟩ := DataW.trod_bool hu h
      exact ⟨[.bool b], rfl, one (.bool b), .bool b hu⟩
    · rename_i k hu
      obtain ⟨m, rfl, _, hwf⟩ := DataW.trod_int hu h
      exact ⟨[.int k m], rfl, one (.int k m), .int m hu hwf⟩
    · rename_i hu
      obtain ⟨s, rfl, _, hs⟩ := DataW.trod_string hu h
      exact ⟨[.str s], rfl, one (.str s), .str s hu hs⟩
    · rename_i e hu
      simp only [Bool.and_eq_true, bne_iff_ne] at hd
      obtain ⟨hz0, hd⟩ := hd
      rcases DataW.trod_slice hu h with ⟨rfl, _⟩ | ⟨a, len, cap, elems, rest, m, _, rfl, hx, hb, hlc, hcm, hel, helem, _, _⟩
      · exact ⟨[.sl e []], rfl, one (.emp e none 0), .sl [] hu (by simp) (by simp)⟩
      · have hwt : (elems.length + rest.length) * P.bytesOf e ≤ reachBytes ∧ ∀ y ∈ elems, ∀ k ∈ y.1.weights P e, k ≤ reachBytes := by
          rw [hx] at hw
          simp only [DataW.weights, hu, List.length_map, List.mem_cons, List.mem_append] at hw
          refine ⟨hw _ (.inl rfl), fun y hy k hk => hw k (.inr (.inl (weightsAll_mem (List.mem_map_of_mem hy) k hk)))⟩
        have each : ∀ i, i < len → ∃ vs' cs, cs.length = vs'.length ∧ w.cells? base (a.add (i * P.cellsOf e)) (P.cellsOf e) = some vs' ∧ RdL P w (fun b _ => b < w.heap.size) vs' cs ∧ Ty P e cs := by
          intro i hi
          have h1 := helem i hi
          have hie : i < elems.length := by omega
          rw [List.getElem?_eq_getElem hie] at h1
          obtain ⟨vs', h2, h3⟩ := Option.bind_eq_some_iff.1 h1
          obtain ⟨cs, g1, g2, g3⟩ := trod_ty d m e vs' _ hd (hwt.2 _ (List.getElem_mem hie)) h3
          exact ⟨vs', cs, g1, h2, g2, g3⟩
        have hbytes : len * P.bytesOf e ≤ reachBytes := Nat.le_trans (Nat.mul_le_mul_right _ (by omega)) hwt.1
        by_cases hl0 : len = 0
        · subst hl0
          exact ⟨[.sl e []], rfl, one (.emp e (some a) cap), .sl [] hu (by simp) (by simp)⟩
        · obtain ⟨Q, hQ⟩ := choose_lt (α := List Value × List C) (p := fun i q => q.2.length = q.1.length ∧ w.cells? base (a.add (i * P.cellsOf e)) (P.cellsOf e) = some q.1 ∧ RdL P w (fun b _ => b < w.heap.size) q.1 q.2 ∧ Ty P e q.2)
            (fun i hi => by obtain ⟨vs', cs, h⟩ := each i hi; exact ⟨(vs', cs), h⟩)
          have hrow : ∀ (i : Nat) (r : List C), ((List.range len).map fun i => (Q i).2)[i]? = some r → i < len ∧ r = (Q i).2 := by
            intro i r hi
            simp only [List.getElem?_map, Option.map_eq_some_iff] at hi
            obtain ⟨j, hj, rfl⟩ := hi
            obtain ⟨h1, h2⟩ := List.getElem?_eq_some_iff.1 hj
            simp at h1 h2
            subst h2
            exact ⟨h1, rfl⟩
          have hsz : ∀ i, i < len → (Q i).1.length = P.cellsOf e ∧ ∀ j, j < P.cellsOf e → w.cell? ((a.add (i * P.cellsOf e)).add j) = (Q i).1[j]? := fun i hi => by
            obtain ⟨_, h1, h2⟩ := World.cells?_some (hQ i hi).2.1
            exact ⟨h1, h2⟩
          refine ⟨[.sl e ((List.range len).map fun i => (Q i).2)], rfl, one ?_, .sl _ hu (by simpa using hbytes) ?_⟩
          · have hce : P.cellsOf e ≠ 0 := hz0
            · have h0 := (hsz 0 (by omega)).2 0 (by omega)
              have hq0 : 0 < (Q 0).1.length := by rw [(hsz 0 (by omega)).1]; omega
              rw [List.getElem?_eq_getElem hq0] at h0
              have hsp := (cell_lt h0).2
              obtain ⟨ab, ao, asp⟩ := a
              have : asp = none := by
                cases asp with
                | none => rfl
                | some k => simp [Addr.add] at hsp
              subst this
              refine .sl e ab ao len cap _ (fun i j => (Q i).1.getD j undef) (by simp) hlc ?_ ?_ ?_
              · intro i r hi
                obtain ⟨h1, rfl⟩ := hrow i r hi
                rw [(hQ i h1).1, (hsz i h1).1]
              · intro i j r c hi hj
                obtain ⟨h1, rfl⟩ := hrow i r hi
                have hjl : j < (Q i).1.length := by rw [← (hQ i h1).1]; exact (List.getElem?_eq_some_iff.1 hj).1
                have h2 := (hsz i h1).2 j (by rw [← (hsz i h1).1]; exact hjl)
                rw [addr_add, addr_add, List.getElem?_eq_getElem hjl] at h2
                have h3 : (Q i).1.getD j undef = (Q i).1[j] := by simp [List.getD, List.getElem?_eq_getElem hjl]
                rw [← Nat.add_assoc, h3]
                exact ⟨h2, (cell_lt h2).1⟩
              · intro i j r c hi hj
                obtain ⟨h1, rfl⟩ := hrow i r hi
                have hjl : j < (Q i).1.length := by rw [← (hQ i h1).1]; exact (List.getElem?_eq_some_iff.1 hj).1
                have h3 : (Q i).1.getD j undef = (Q i).1[j] := by simp [List.getD, List.getElem?_eq_getElem hjl]
                rw [h3]
                exact (hQ i h1).2.2.1 j _ c (List.getElem?_eq_getElem hjl) hj
          · intro r hr
            obtain ⟨i, hi⟩ := List.getElem?_of_mem hr
            obtain ⟨h1, rfl⟩ := hrow i r hi
            exact (hQ i h1).2.2.2
    · rename_i fs hu
      simp only [Bool.and_eq_true, beq_iff_eq, List.all_eq_true] at hd
      obtain ⟨⟨ht, htot⟩, hall⟩ := hd
      obtain ⟨xs, m, _, hx, hlen, hxl, hf⟩ := DataW.trod_struct hu h
      have hwf : ∀ (i : Nat) (f : Field) (y : DataW H × List MemPlace), fs[i]? = some f → xs[i]? = some y → ∀ k ∈ y.1.weights P f.type, k ≤ reachBytes := by
        intro i f y hfi hyi k hk
        rw [hx] at hw
        simp only [DataW.weights, hu] at hw
        refine hw k (DataW.weights_mem_each (j := i) (t := f.type) (d := y.1) ?_ ?_ k hk)
        · simp [hfi]
        · simp [hyi]
      obtain ⟨cs, h1, h2, h3⟩ := fields_ty (P := P) (w := w) (S := fun b _ => b < w.heap.size) (vs := vs) fs.toList 0 ht (by omega) (by
        intro f hfm
        obtain ⟨i, hi⟩ := List.getElem?_of_mem hfm
        have hi' : fs[i]? = some f := by simpa using hi
        have hfi := hf i f hi'
        have hix : i < xs.length := by rw [hxl]; exact (Array.getElem?_eq_some_iff.1 hi').1
        rw [List.getElem?_eq_getElem hix] at hfi
        obtain ⟨cf, g1, g2, g3⟩ := trod_ty d m f.type _ _ (hall f hfm) (hwf i f _ hi' (List.getElem?_eq_getElem hix)) hfi
        exact ⟨cf, g1, g2, g3⟩)
      refine ⟨cs, by omega, by simpa using h2, .struct cs hu (by omega) fun f hfm => ?_⟩
      have := (h3 f hfm).2
      simpa using this
    · cases hd
end
end Go.Rb
