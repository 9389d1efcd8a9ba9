/-
  What is proved: every operation that the state of an activation speaks of does to memory what the state says. Conditions: none.
-/
import Derived.Test.YtoihccclnkhmaaaEngJ
set_option linter.unusedVariables false
set_option linter.unusedSimpArgs false
set_option maxRecDepth 4000
namespace Go.Rb

section
variable {P : Program} {B : Nat} {X : Nat → Prop} {w0 : World} {S0 : Nat → Nat → Prop} {E : Env} {s : RSt}

/-- The state with a new local block. -/
def envNew (E : Env) (w' : World) (d n : Nat) : Env :=
  { E with w := w', β := fun l => if l = d then E.w.heap.size else E.β l, A := fun l => E.A l ∨ l = d, cp := fun l => if l = d then n else E.cp l }

theorem envNew_le (h : WI P B X w0 S0 E s) {d n : Nat} {o : Obj} (hd : s.m d = []) : E.le (envNew E (E.w.alloc o) d n) where
  cell b i u hs hc := (World.cell_of_block (heap_alloc_old E.w _ b (h.slt b i hs))).trans hc
  S _ _ hs := hs
  A l hl := by
    have hne : l ≠ d := by rintro rfl; exact (h.hA l).1 hl hd
    exact ⟨.inl hl, by simp [envNew, hne], by simp [envNew, hne]⟩
  ow _ _ _ _ hr := .inl hr
  dead _ _ hr := hr

theorem wi_new (h : WI P B X w0 S0 E s) {d : Nat} {e : TypeId} {cs : Array Value} {z : List AV} {s' : RSt} (hd : s.m d = []) (hz : z ≠ []) (hc : BlkR P E cs.size cs z)
    (hm : s'.m = setM s.m d z) (hp : s'.p = s.p) (hxo : s'.xo = s.xo) (hxn : s'.xn = s.xn) :
    WI P B X w0 S0 (envNew E (E.w.alloc (.cells cs e)) d cs.size) s' ∧ E.le (envNew E (E.w.alloc (.cells cs e)) d cs.size) ∧
      VR P (envNew E (E.w.alloc (.cells cs e)) d cs.size) (.pointer (some ⟨E.w.heap.size, 0, none⟩)) (.ptr d 0) := by
  have hle := envNew_le (n := cs.size) (o := .cells cs e) h hd
  have hnew : (E.w.alloc (.cells cs e)).heap[E.w.heap.size]? = some (.cells cs e (0, 0)) := heap_alloc_new E.w _
  have hold : ∀ k, k < E.w.heap.size → (E.w.alloc (.cells cs e)).heap[k]? = E.w.heap[k]? := fun k hk => heap_alloc_old E.w _ k hk
  have hlt : ∀ l, s.m l ≠ [] → E.β l < E.w.heap.size := by
    intro l hl
    obtain ⟨cs, e, hh, _⟩ := h.loc l hl
    exact (Array.getElem?_eq_some_iff.1 hh).1
  have hmem : ∀ l, s'.m l ≠ [] → (l = d) ∨ (l ≠ d ∧ s.m l ≠ []) := by
    intro l hl
    by_cases h1 : l = d
    · exact .inl h1
    · rw [hm] at hl; simp [setM, h1] at hl; exact .inr ⟨h1, hl⟩
  have hne : ∀ l, s.m l ≠ [] → l ≠ d := by rintro l hl rfl; exact hl hd
  refine ⟨⟨⟨h.fr.os, h.fr.tape, h.fr.output, Nat.le_trans h.fr.size (by simp [envNew]), fun k hk hX => (hold k (Nat.lt_of_lt_of_le hk h.hB)).trans (h.fr.block k hk hX)⟩, Nat.le_trans h.hB (by simp [envNew]), h.s0, h.sNew,
    fun b o hb => by have := h.slt b o hb; simp [envNew]; omega, ?_, ?_, ?_, ?_, h.ownne, fun k hk => by rw [hp]; exact h.new k hk, fun k hk => by rw [hxn]; exact h.deadn k hk, fun k hk => by rw [hxo]; exact h.deado k hk⟩, hle, ?_⟩
  · intro l
    rw [hm]
    simp only [envNew, setM]
    by_cases h1 : l = d
    · simp [h1, hz]
    · simp [h1, h.hA l]
  · intro l hl
    rcases hmem l hl with rfl | ⟨h1, h2⟩
    · refine ⟨cs, e, ?_, ?_, ?_, ?_⟩
      · simp only [envNew, if_true]; exact hnew
      · rw [hm]; simp only [setM, if_true, envNew]
        exact hc.mono hle
      · intro o ho
        simp only [envNew, if_true] at ho
        exact absurd (h.slt _ _ ho) (Nat.lt_irrefl _)
      · left; simp only [envNew, if_true]; exact h.hB
    · obtain ⟨cs', e', hh, hc', hs, hb⟩ := h.loc l h2
      refine ⟨cs', e', ?_, ?_, ?_, ?_⟩
      · simp only [envNew, if_neg h1]; exact (hold _ (hlt l h2)).trans hh
      · rw [hm]; simp only [setM, if_neg h1, envNew]
        exact hc'.mono hle
      · intro o ho; simp only [envNew, if_neg h1] at ho; exact hs o ho
      · simp only [envNew, if_neg h1]; exact hb
  · intro l l' hl hl' he
    rcases hmem l hl with rfl | ⟨h1, h2⟩ <;> rcases hmem l' hl' with rfl | ⟨h3, h4⟩
    · rfl
    · simp only [envNew, if_true, if_neg h3] at he; have := hlt l' h4; omega
    · simp only [envNew, if_true, if_neg h1] at he; have := hlt l h2; omega
    · simp only [envNew, if_neg h1, if_neg h3] at he; exact h.locne l l' h2 h4 he
  · intro nw k v e' hr
    obtain ⟨⟨g, n, cap, cur, e2, rfl, hB, hh, hsz, hn, hcap, hs⟩, hl⟩ := h.own nw k v e' hr
    have hg : g < E.w.heap.size := (Array.getElem?_eq_some_iff.1 hh).1
    refine ⟨⟨g, n, cap, cur, e2, rfl, hB, (hold g hg).trans hh, hsz, hn, hcap, hs⟩, fun l hl' => ?_⟩
    rcases hmem l hl' with rfl | ⟨h1, h2⟩
    · simp only [envNew, if_true, Value.ownBlock]; intro h3; cases h3; exact Nat.lt_irrefl _ hg
    · simp only [envNew, if_neg h1]; exact hl l h2
  · have := VR.ptr (P := P) (E := envNew E (E.w.alloc (.cells cs e)) d cs.size) d 0 (.inr rfl)
    simp only [envNew, if_true] at this
    exact this

theorem putCells_blk {P : Program} {E : Env} {n : Nat} {cs : Array Value} {z : List AV} {ws : Array Value} {ys : List AV} {off : Nat} (h : BlkR P E n cs z) (k : CellsR P E ws ys) (hf : off + ys.length ≤ z.length) :
    BlkR P E n (putCells cs off ws.toList 0) (place z off ys) := by
  have h1 := h.1
  have h2 := h.2.1
  refine ⟨by rw [putCells_size, h.1], by rw [place_length _ _ _ hf]; exact h.2.1, fun i v x hv hx => ?_⟩
  rw [place_get _ _ _ _ hf] at hx
  rw [putCells_get _ _ _ _ _ (by simp [k.1]; omega)] at hv
  simp only [Nat.add_zero, Array.length_toList, k.1] at hv
  split at hv
  · rename_i hc
    rw [if_pos hc] at hx
    exact k.2 _ _ _ (by simpa using hv) hx
  · rename_i hc
    rw [if_neg hc] at hx
    exact h.2.2 _ _ _ hv hx

/-- The state after a store into a local block. -/
theorem wi_store (h : WI P B X w0 S0 E s) {l off : Nat} {ws : Array Value} {ys : List AV} {s' : RSt} (hl : s.m l ≠ []) (hc : CellsR P E ws ys) (hf : off + ys.length ≤ (s.m l).length) {cs : Array Value} {e : TypeId}
    (hh : E.w.heap[E.β l]? = some (.cells cs e (0, 0))) (hcs : BlkR P E (E.cp l) cs (s.m l))
    (hm : s'.m = setM s.m l (place (s.m l) off ys)) (hp : s'.p = s.p) (hxo : s'.xo = s.xo) (hxn : s'.xn = s.xn) :
    WI P B X w0 S0 { E with w := E.w.setRow (E.β l) (putCells cs off ws.toList 0) } s' ∧ E.le { E with w := E.w.setRow (E.β l) (putCells cs off ws.toList 0) } := by
  obtain ⟨cs2, e2, hh2, hc2, hsl, hbl⟩ := h.loc l hl
  have hnew : (E.w.setRow (E.β l) (putCells cs off ws.toList 0)).heap[E.β l]? = some (.cells (putCells cs off ws.toList 0) e (0, 0)) := setRow_heap E.w _ cs _ e (0, 0) hh
  have hold : ∀ k, k ≠ E.β l → (E.w.setRow (E.β l) (putCells cs off ws.toList 0)).heap[k]? = E.w.heap[k]? := fun k hk => setRow_other E.w _ k _ hk
  have hsize : (E.w.setRow (E.β l) (putCells cs off ws.toList 0)).heap.size = E.w.heap.size := by simp [World.setRow]
  have hle : E.le { E with w := E.w.setRow (E.β l) (putCells cs off ws.toList 0) } :=
    ⟨fun b o u hs hcell => by
      have hb : b ≠ E.β l := by rintro rfl; exact hsl o hs
      show World.cell? _ _ = _
      rw [World.cell_of_block (hold b hb)]; exact hcell, fun _ _ hs => hs, fun _ ha => ⟨ha, rfl, rfl⟩, fun _ _ _ _ hr => .inl hr, fun _ _ hr => hr⟩
  have hpl : (place (s.m l) off ys) ≠ [] := by
    intro h1
    have := place_length _ _ _ hf
    rw [h1] at this
    exact hl (List.eq_nil_of_length_eq_zero this.symm)
  have hmem : ∀ l', s'.m l' ≠ [] ↔ s.m l' ≠ [] := by
    intro l'
    rw [hm]
    simp only [setM]
    by_cases h1 : l' = l
    · subst h1; simp [hpl, hl]
    · simp [h1]
  refine ⟨⟨⟨h.fr.os, h.fr.tape, h.fr.output, by rw [hsize]; exact h.fr.size, fun k hk hX => ?_⟩, by rw [hsize]; exact h.hB, h.s0, h.sNew, fun b o hb => by rw [hsize]; exact h.slt b o hb, fun l' => (h.hA l').trans (hmem l').symm, ?_, ?_, ?_, h.ownne,
    fun k hk => by rw [hp]; exact h.new k hk, fun k hk => by rw [hxn]; exact h.deadn k hk, fun k hk => by rw [hxo]; exact h.deado k hk⟩, hle⟩
  · have : k ≠ E.β l := by
      rintro rfl
      rcases hbl with h1 | h1
      · omega
      · exact hX h1
    exact (hold k this).trans (h.fr.block k hk hX)
  · intro l' hl'
    by_cases h1 : l' = l
    · subst h1
      refine ⟨_, e, hnew, ?_, hsl, hbl⟩
      rw [hm]
      simp only [setM, if_true]
      exact (putCells_blk hcs hc hf).mono hle
    · obtain ⟨cs', e', hh', hc', hs', hb'⟩ := h.loc l' ((hmem l').1 hl')
      have hne : E.β l' ≠ E.β l := fun he => h1 (h.locne l' l ((hmem l').1 hl') hl he)
      refine ⟨cs', e', (hold _ hne).trans hh', ?_, hs', hb'⟩
      rw [hm]
      simp only [setM, if_neg h1]
      exact hc'.mono hle
  · intro l1 l2 h1 h2 he
    exact h.locne l1 l2 ((hmem l1).1 h1) ((hmem l2).1 h2) he
  · intro nw k v e' hr
    obtain ⟨⟨g, n, cap, cur, e2, rfl, hB, hg, hsz, hn, hcap, hs⟩, hlx⟩ := h.own nw k v e' hr
    have hgne : g ≠ E.β l := fun he => hlx l hl (by simp [Value.ownBlock, he])
    exact ⟨⟨g, n, cap, cur, e2, rfl, hB, (hold g hgne).trans hg, hsz, hn, hcap, hs⟩, fun l' hl' => hlx l' ((hmem l').1 hl')⟩
end

/-! ### Calls -/

theorem vr_noOwn1 {P : Program} {E E' : Env} {v : Value} {x : AV} (hx : x.noOwn1 = true) (h : VR P E v x) (hw : E'.w = E.w) (hS : E'.S = E.S) (hA : ∀ l, E.A l → E'.A l ∧ E'.β l = E.β l ∧ E'.cp l = E.cp l) : VR P E' v x := by
  cases h with
  | c v x h => exact .c _ _ (by rw [hw, hS]; exact h)
  | nils => exact .nils
  | agg => simp [AV.noOwn1] at hx
  | tup => simp [AV.noOwn1] at hx
  | own => simp [AV.noOwn1] at hx
  | arr l off len cap c e h hc hl hs hm => rw [← (hA l h).2.1]; exact .arr _ _ _ _ _ _ (hA l h).1 hc hl (by rw [(hA l h).2.2]; exact hs) hm
  | arr0 l off a e => exact .arr0 _ _ _ _
  | ptr l off h => rw [← (hA l h).2.1]; exact .ptr _ _ (hA l h).1
  | el b o xs vs h => exact .el b o xs vs (by rw [hw, hS]; exact h)
  | fn f cs caps hn h =>
    simp [AV.noOwn1] at hx
    subst hx
    exact .fn f cs [] hn (by simp)
  | und => exact .und
  | any => exact .any _

theorem vr_noOwnA {P : Program} {E E' : Env} {v : Value} {x : AV} (hx : x.noOwnA = true) (h : VR P E v x) (hw : E'.w = E.w) (hS : E'.S = E.S) (hA : ∀ l, E.A l → E'.A l ∧ E'.β l = E.β l ∧ E'.cp l = E.cp l) : VR P E' v x := by
  unfold AV.noOwnA at hx
  split at hx
  · cases h with
    | agg vs xs hn h1 h =>
      simp only [List.all_eq_true] at hx
      exact .agg vs _ hn h1 fun i v x hv hx' => vr_noOwn1 (hx x (List.mem_of_getElem? hx')) (h i v x hv hx') hw hS hA
  · exact vr_noOwn1 hx h hw hS hA

theorem vr_noOwn {P : Program} {E E' : Env} {v : Value} {x : AV} (hx : x.noOwn = true) (h : VR P E v x) (hw : E'.w = E.w) (hS : E'.S = E.S) (hA : ∀ l, E.A l → E'.A l ∧ E'.β l = E.β l ∧ E'.cp l = E.cp l) : VR P E' v x := by
  unfold AV.noOwn at hx
  split at hx
  · cases h with
    | tup vs xs hn h =>
      simp only [List.all_eq_true] at hx
      exact .tup vs _ hn fun i v x hv hx' => vr_noOwnA (hx x (List.mem_of_getElem? hx')) (h i v x hv hx') hw hS hA
  · exact vr_noOwnA hx h hw hS hA

theorem noOwnA_set {x : AV} {d : Nat} (h : x.noOwnA = true) : x.setOwn1 d = x := by
  cases x <;> first | rfl | (simp [AV.noOwnA, AV.noOwn1] at h)

theorem vr_setOwn {P : Program} {E E' : Env} {v : Value} {x : AV} {d : Nat} (hx : x.ownTop = true) (h : VR P E v x) (hw : E'.w = E.w) (hS : E'.S = E.S) (hA : ∀ l, E.A l → E'.A l ∧ E'.β l = E.β l ∧ E'.cp l = E.cp l)
    (hd : ∀ nw k, E.ow nw k ≠ .dead) (hreg : ∀ nw k u ty, E.ow nw k = .reg u ty → E'.ow true d = .reg u ty) : VR P E' v (x.setOwn d) := by
  have own1 : ∀ (v : Value) (nw : Bool) (k : Nat) (e : TypeId) (rows : List (List C)), VR P E v (.own nw k e rows) → VR P E' v (.own true d e rows) := by
    intro v nw k e rows h
    cases h with
    | own _ _ _ _ _ h ho =>
      refine .own _ _ _ _ _ (by rw [hw, hS]; exact h) ?_
      rcases ho with ho | ho | ho
      · exact .inl ho
      · exact absurd ho (hd _ _)
      · exact .inr (.inr (hreg _ _ _ _ ho))
  unfold AV.ownTop at hx
  split at hx
  · exact own1 _ _ _ _ _ h
  · rename_i xs
    cases h with
    | tup vs _ hn h =>
      simp only [List.all_eq_true] at hx
      refine .tup vs _ (by simpa using hn) fun i v y hv hy => ?_
      rw [List.getElem?_map, Option.map_eq_some_iff] at hy
      obtain ⟨x, hx', rfl⟩ := hy
      have h1 := hx x (List.mem_of_getElem? hx')
      have h2 := h i v x hv hx'
      split at h1
      · exact own1 _ _ _ _ _ h2
      · rw [noOwnA_set h1]; exact vr_noOwnA h1 h2 hw hS hA
  · have : x.setOwn d = x := by
      cases x <;> first | rfl | (simp [AV.noOwnA, AV.noOwn1] at hx) | (rename_i h1 h2; exact absurd rfl (h1 _ _ _ _)) | (rename_i h1 h2; exact absurd rfl (h2 _))
    rw [this]; exact vr_noOwnA hx h hw hS hA

end Go.Rb
