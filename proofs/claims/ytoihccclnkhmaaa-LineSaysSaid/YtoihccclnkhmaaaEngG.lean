/-
  What is proved: append to a slice of one's own, as the state of an activation has it. Conditions: none.
-/
import Derived.Test.YtoihccclnkhmaaaEngF
set_option linter.unusedVariables false
set_option linter.unusedSimpArgs false
set_option maxRecDepth 4000
namespace Go.Rb

/-- Rows of cells, one behind the other. -/
def flat (sz m : Nat) (vs : Nat → Nat → Value) : List Value := (List.range (m * sz)).map fun q => vs (q / sz) (q % sz)

theorem flat_length (sz m : Nat) (vs : Nat → Nat → Value) : (flat sz m vs).length = m * sz := by simp [flat]

theorem flat_get (sz m : Nat) (vs : Nat → Nat → Value) (i j : Nat) (hi : i < m) (hj : j < sz) : (flat sz m vs)[i * sz + j]? = some (vs i j) := by
  have hlt : i * sz + j < m * sz := by
    have h1 : (i + 1) * sz ≤ m * sz := Nat.mul_le_mul_right _ hi
    rw [Nat.add_mul, Nat.one_mul] at h1
    omega
  have hd : (i * sz + j) / sz = i := by
    rw [Nat.mul_comm, Nat.mul_add_div (by omega), Nat.div_eq_of_lt hj, Nat.add_zero]
  have hm : (i * sz + j) % sz = j := by
    rw [Nat.mul_comm, Nat.mul_add_mod, Nat.mod_eq_of_lt hj]
  simp [flat, hlt, hd, hm]

theorem flat_inv (sz m : Nat) (vs : Nat → Nat → Value) (q : Nat) (v : Value) (h : (flat sz m vs)[q]? = some v) : ∃ i j, i < m ∧ j < sz ∧ q = i * sz + j ∧ v = vs i j := by
  have hq : q < m * sz := by have := (List.getElem?_eq_some_iff.1 h).1; rwa [flat_length] at this
  have hsz : 0 < sz := by
    rcases Nat.eq_zero_or_pos sz with h0 | h0
    · subst h0; simp at hq
    · exact h0
  refine ⟨q / sz, q % sz, (Nat.div_lt_iff_lt_mul hsz).2 hq, Nat.mod_lt _ hsz, by rw [Nat.mul_comm]; exact (Nat.div_add_mod q sz).symm, ?_⟩
  simp [flat, hq] at h
  exact h.symm

/-- A slice with rows in it: where it lies, and its cells. -/
theorem Rd.cells {P : Program} {w : World} {S : Nat → Nat → Prop} {v : Value} {e : TypeId} {rows : List (List C)} (h : Rd P w S v (.sl e rows)) (hne : rows ≠ []) :
    ∃ (b off cap : Nat) (vs : Nat → Nat → Value), v = .slice (some ⟨b, off, none⟩) rows.length cap ∧ rows.length ≤ cap ∧ (∀ r ∈ rows, r.length = P.cellsOf e) ∧
      ∀ (i j : Nat), i < rows.length → j < P.cellsOf e → (w.cell? ⟨b, off + (i * P.cellsOf e + j), none⟩ = some (vs i j) ∧ S b (off + (i * P.cellsOf e + j))) ∧
        ∀ (r : List C) (c : C), rows[i]? = some r → r[j]? = some c → Rd P w S (vs i j) c := by
  generalize hx : C.sl e rows = x at h
  cases h with
  | emp e' a cap => cases hx; exact absurd rfl hne
  | sl e' b off n cap rows' vs hn hcap hsz hcell hrd =>
    cases hx; subst hn
    have hr : ∀ r ∈ rows, r.length = P.cellsOf e := fun r hr => by obtain ⟨i, hi⟩ := List.getElem?_of_mem hr; exact hsz i r hi
    refine ⟨b, off, cap, vs, rfl, hcap, hr, fun i j hi hj => ?_⟩
    have h1 := List.getElem?_eq_getElem hi
    have hl := hr _ (List.mem_of_getElem? h1)
    have h2 : rows[i][j]? = some (rows[i][j]'(by omega)) := List.getElem?_eq_getElem (by omega)
    exact ⟨hcell i j _ _ h1 h2, fun r c hr hc => hrd i j r c hr hc⟩
  | _ => cases hx

/-- Rows that stand at the head of a block. -/
theorem Rd.mk {P : Program} {w : World} {S : Nat → Nat → Prop} {e : TypeId} {rows : List (List C)} {g n cap : Nat} {L : List Value} (hn : n = rows.length) (hcap : n ≤ cap)
    (hsz : ∀ r ∈ rows, r.length = P.cellsOf e) (hL : L.length = n * P.cellsOf e) (hcell : ∀ (q : Nat) (v : Value), L[q]? = some v → w.cell? ⟨g, q, none⟩ = some v ∧ S g q)
    (hrd : ∀ (i j : Nat) (r : List C) (c : C) (v : Value), rows[i]? = some r → r[j]? = some c → L[i * P.cellsOf e + j]? = some v → Rd P w S v c) :
    Rd P w S (.slice (some ⟨g, 0, none⟩) n cap) (.sl e rows) := by
  have key : ∀ (i j : Nat) (r : List C) (c : C), rows[i]? = some r → r[j]? = some c → ∃ v, L[i * P.cellsOf e + j]? = some v ∧ L.getD (i * P.cellsOf e + j) undef = v := by
    intro i j r c hi hj
    have h1 : i < rows.length := (List.getElem?_eq_some_iff.1 hi).1
    have h2 : j < P.cellsOf e := by rw [← hsz r (List.mem_of_getElem? hi)]; exact (List.getElem?_eq_some_iff.1 hj).1
    have h3 : (i + 1) * P.cellsOf e ≤ rows.length * P.cellsOf e := Nat.mul_le_mul_right _ h1
    rw [Nat.add_mul, Nat.one_mul] at h3
    have h4 : i * P.cellsOf e + j < L.length := by rw [hL, hn]; omega
    exact ⟨_, List.getElem?_eq_getElem h4, by simp [List.getD, List.getElem?_eq_getElem h4]⟩
  refine .sl e g 0 n cap rows (fun i j => L.getD (i * P.cellsOf e + j) undef) hn hcap (fun i r hi => hsz r (List.mem_of_getElem? hi)) ?_ ?_
  · intro i j r c hi hj
    obtain ⟨v, h1, h2⟩ := key i j r c hi hj
    rw [Nat.zero_add]
    show _ = some (L.getD _ undef) ∧ _
    rw [h2]
    exact hcell _ _ h1
  · intro i j r c hi hj
    obtain ⟨v, h1, h2⟩ := key i j r c hi hj
    show Rd P w S (L.getD _ undef) c
    rw [h2]
    exact hrd i j r c v hi hj h1

/-- A world with new blocks and with a row written behind what is read. -/
structure Grows (E : Env) (w' : World) (row : Option Nat) : Prop where
  os : w'.os = E.w.os
  tape : w'.tape = E.w.tape
  output : w'.output = E.w.output
  size : E.w.heap.size ≤ w'.heap.size
  block : ∀ k, k < E.w.heap.size → some k ≠ row → w'.heap[k]? = E.w.heap[k]?
  cell : ∀ b o u, E.S b o → E.w.cell? ⟨b, o, none⟩ = some u → w'.cell? ⟨b, o, none⟩ = some u

/-- The state after an operation that made something: 'id' is one's own now (or nothing is); the right of 'old' is used up. -/
def envApp (E : Env) (w' : World) (S' : Nat → Nat → Prop) (old : Option (Bool × Nat)) (id : Option Nat) (st : OwnSt) : Env :=
  { E with w := w', S := S', ow := fun nw k => if nw = true ∧ id = some k then st else if old = some (nw, k) then .dead else E.ow nw k }

theorem testBit_or_left {a b k : Nat} (h : a.testBit k = true) : (a ||| b).testBit k = true := by simp [h]
theorem testBit_or_right {a b k : Nat} (h : b.testBit k = true) : (a ||| b).testBit k = true := by simp [h]

theorem World.cell_of_block {w w' : World} {b o : Nat} (h : w'.heap[b]? = w.heap[b]?) : w'.cell? ⟨b, o, none⟩ = w.cell? ⟨b, o, none⟩ := World.cell?_of_block (a := ⟨b, o, none⟩) h

section
variable {P : Program} {B : Nat} {X : Nat → Prop} {w0 : World} {S0 : Nat → Nat → Prop} {E : Env} {s : RSt}

theorem envApp_le (h : WI P B X w0 S0 E s) {w' : World} {S' : Nat → Nat → Prop} {row : Option Nat} {old : Option (Bool × Nat)} {id : Option Nat} {st : OwnSt} (hg : Grows E w' row)
    (hS1 : ∀ b o, E.S b o → S' b o) (hid : ∀ d, id = some d → s.p.testBit d = false) : E.le (envApp E w' S' old id st) where
  cell := hg.cell
  S := hS1
  A l hl := ⟨hl, rfl, rfl⟩
  ow nw k v e hr := by
    simp only [envApp]
    split
    · rename_i hc
      obtain ⟨rfl, hk⟩ := hc
      have h1 := h.new k (by rw [hr]; simp)
      rw [hid k hk] at h1
      cases h1
    · split
      · exact .inr rfl
      · exact .inl hr
  dead nw k hr := by
    simp only [envApp]
    split
    · rename_i hc
      obtain ⟨rfl, hk⟩ := hc
      have h1 := h.new k (by rw [hr]; simp)
      rw [hid k hk] at h1
      cases h1
    · split
      · rfl
      · exact hr

theorem ownBlk_block {w : World} {S : Nat → Nat → Prop} {v : Value} {e : TypeId} (h : OwnBlk P w S B v e) : ∃ g, v.ownBlock = some g ∧ B ≤ g ∧ g < w.heap.size := by
  obtain ⟨g, n, cap, cur, e', rfl, hB, hh, _⟩ := h
  exact ⟨g, rfl, hB, (Array.getElem?_eq_some_iff.1 hh).1⟩

theorem wi_app (h : WI P B X w0 S0 E s) {w' : World} {S' : Nat → Nat → Prop} {row : Option Nat} {old : Option (Bool × Nat)} {id : Option Nat} {st : OwnSt} {s' : RSt} (hg : Grows E w' row)
    (hrow : ∀ g, row = some g → B ≤ g ∧ ∃ nw k v e, old = some (nw, k) ∧ E.ow nw k = .reg v e ∧ v.ownBlock = some g)
    (hS1 : ∀ b o, E.S b o → S' b o) (hS2 : ∀ b o, S' b o → E.S b o ∨ E.w.heap.size ≤ b ∨ some b = row) (hS3 : ∀ b o, S' b o → b < w'.heap.size)
    (hst : st = .none ∨ ∃ v e, st = .reg v e ∧ OwnBlk P w' S' B v e ∧ ∃ g, v.ownBlock = some g ∧ (E.w.heap.size ≤ g ∨ some g = row)) (hid : ∀ d, id = some d → s.p.testBit d = false)
    (hm : s'.m = s.m) (hp : ∀ k, s.p.testBit k = true ∨ id = some k → s'.p.testBit k = true)
    (hxn : ∀ k, s.xn.testBit k = true ∨ old = some (true, k) → s'.xn.testBit k = true) (hxo : ∀ k, s.xo.testBit k = true ∨ old = some (false, k) → s'.xo.testBit k = true)
    (holdp : ∀ k, old = some (true, k) → s.p.testBit k = true) :
    WI P B X w0 S0 (envApp E w' S' old id st) s' := by
  have hle := envApp_le (w' := w') (old := old) (id := id) (st := st) h hg hS1 hid
  have hrowl : ∀ l, s.m l ≠ [] → row ≠ some (E.β l) := by
    intro l hl hr
    obtain ⟨_, nw, k, v, e, _, hk, hv⟩ := hrow _ hr
    exact (h.own nw k v e hk).2 l hl hv
  have hlt : ∀ l, s.m l ≠ [] → E.β l < E.w.heap.size := by
    intro l hl
    obtain ⟨cs, e, hh, _⟩ := h.loc l hl
    exact (Array.getElem?_eq_some_iff.1 hh).1
  -- what is registered in the new state
  have hreg : ∀ nw k v e, (envApp E w' S' old id st).ow nw k = .reg v e → (nw = true ∧ id = some k ∧ st = .reg v e) ∨ (E.ow nw k = .reg v e ∧ old ≠ some (nw, k) ∧ ¬(nw = true ∧ id = some k)) := by
    intro nw k v e hr
    simp only [envApp] at hr
    split at hr
    · rename_i hc; exact .inl ⟨hc.1, hc.2, hr⟩
    · rename_i hc
      split at hr
      · cases hr
      · rename_i ho; exact .inr ⟨hr, ho, hc⟩
  have hother : ∀ nw k v e, E.ow nw k = .reg v e → old ≠ some (nw, k) → ∀ g, v.ownBlock = some g → some g ≠ row := by
    intro nw k v e hr ho g hv hgr
    obtain ⟨_, nw', k', v', e', ho', hr', hv'⟩ := hrow g hgr.symm
    obtain ⟨rfl, rfl⟩ := h.ownne nw k v e nw' k' v' e' hr hr' (by rw [hv, hv'])
    exact ho ho'
  refine ⟨⟨hg.os.trans h.fr.os, hg.tape.trans h.fr.tape, hg.output.trans h.fr.output, Nat.le_trans h.fr.size hg.size, ?_⟩, Nat.le_trans h.hB hg.size, fun b o hb => hS1 b o (h.s0 b o hb), ?_, hS3, ?_, ?_, ?_, ?_, ?_, ?_, ?_, ?_⟩
  · intro k hk hX
    have hk' : some k ≠ row := by
      intro hr
      have := (hrow k hr.symm).1
      omega
    exact (hg.block k (Nat.lt_of_lt_of_le hk h.hB) hk').trans (h.fr.block k hk hX)
  · intro b o hb
    rcases hS2 b o hb with h1 | h1 | h1
    · exact h.sNew b o h1
    · exact .inr (Nat.le_trans h.hB h1)
    · exact .inr (hrow b h1.symm).1
  · intro l; rw [hm]; exact h.hA l
  · intro l hl
    rw [hm] at hl ⊢
    obtain ⟨cs, e, hh, hc, hs, hb⟩ := h.loc l hl
    refine ⟨cs, e, ?_, hc.mono hle, ?_, hb⟩
    · exact (hg.block _ (hlt l hl) (fun hr => hrowl l hl hr.symm)).trans hh
    · intro o ho
      rcases hS2 _ _ ho with h1 | h1 | h1
      · exact hs o h1
      · have := hlt l hl; simp only [envApp] at h1; omega
      · exact hrowl l hl h1.symm
  · intro l l' hl hl' he
    rw [hm] at hl hl'
    exact h.locne l l' hl hl' he
  · intro nw k v e hr
    rcases hreg nw k v e hr with ⟨_, _, hst'⟩ | ⟨hr', ho, _⟩
    · rcases hst with h1 | ⟨v', e', h1, hown, g, hv, hgg⟩
      · rw [h1] at hst'; cases hst'
      · rw [h1] at hst'
        cases hst'
        refine ⟨hown, fun l hl => ?_⟩
        rw [hm] at hl
        rw [hv]
        intro hbl
        cases hbl
        simp only [envApp] at hgg
        rcases hgg with h2 | h2
        · have := hlt l hl; omega
        · exact hrowl l hl h2.symm
    · obtain ⟨⟨g, n, cap, cur, e2, rfl, hB, hh, hsz, hn, hcap, hs⟩, hl⟩ := h.own nw k v e hr'
      have hne := hother nw k _ e hr' ho g rfl
      have hglt : g < E.w.heap.size := (Array.getElem?_eq_some_iff.1 hh).1
      refine ⟨⟨g, n, cap, cur, e2, rfl, hB, (hg.block g hglt hne).trans hh, hsz, hn, hcap, ?_⟩, fun l hl' => ?_⟩
      · intro o hgo
        rcases hS2 _ _ hgo with h1 | h1 | h1
        · exact hs o h1
        · omega
        · exact absurd h1 hne
      · rw [hm] at hl'; exact hl l hl'
  · intro nw k v e nw' k' v' e' hr hr' hv
    rcases hreg nw k v e hr with ⟨rfl, hk, hs1⟩ | ⟨hr1, ho1, hc1⟩ <;> rcases hreg nw' k' v' e' hr' with ⟨rfl, hk', hs2⟩ | ⟨hr2, ho2, hc2⟩
    · rw [hk] at hk'; cases hk'; exact ⟨rfl, rfl⟩
    · exfalso
      rcases hst with h1 | ⟨v1, e1, h1, hown, g, hvg, hgg⟩
      · rw [h1] at hs1; cases hs1
      · rw [h1] at hs1; cases hs1
        rw [hvg] at hv
        obtain ⟨g2, hg2, _, hlt2⟩ := ownBlk_block (h.own nw' k' v' e' hr2).1
        rw [hg2] at hv
        cases hv
        rcases hgg with h2 | h2
        · omega
        · exact hother nw' k' v' e' hr2 ho2 g hg2 h2
    · exfalso
      rcases hst with h1 | ⟨v1, e1, h1, hown, g, hvg, hgg⟩
      · rw [h1] at hs2; cases hs2
      · rw [h1] at hs2; cases hs2
        rw [hvg] at hv
        obtain ⟨g2, hg2, _, hlt2⟩ := ownBlk_block (h.own nw k v e hr1).1
        rw [hg2] at hv
        cases hv
        rcases hgg with h2 | h2
        · omega
        · exact hother nw k v e hr1 ho1 g hg2 h2
    · exact h.ownne nw k v e nw' k' v' e' hr1 hr2 hv
  · intro k hk
    simp only [envApp] at hk
    split at hk
    · rename_i hc; exact hp k (.inr hc.2)
    · split at hk
      · rename_i ho; exact hp k (.inl (holdp k ho))
      · exact hp k (.inl (h.new k hk))
  · intro k hk
    simp only [envApp] at hk
    split at hk
    · rename_i hc
      rcases hst with h1 | ⟨v1, e1, h1, _⟩ <;> rw [h1] at hk <;> cases hk
    · split at hk
      · rename_i ho; exact hxn k (.inr ho)
      · exact hxn k (.inl (h.deadn k hk))
  · intro k hk
    simp only [envApp] at hk
    split at hk
    · rename_i hc; simp at hc
    · split at hk
      · rename_i ho; exact hxo k (.inr ho)
      · exact hxo k (.inl (h.deado k hk))
end

end Go.Rb
