/-
  What is proved: a region that draws its order does what its operations do in the order of the text. Conditions: none.
-/
import Derived.Test.YtoihccclnkhmaaaEngNa
set_option linter.unusedVariables false
set_option linter.unusedSimpArgs false
set_option maxRecDepth 4000
namespace Go.Rb

theorem mem_ptrsL {l : Nat} : ∀ {xs : List AV}, l ∈ ptrsL xs ↔ ∃ x ∈ xs, l ∈ x.ptrs
  | [] => by simp [ptrsL]
  | x :: xs => by simp [ptrsL, mem_ptrsL (xs := xs)]

/-- Every pointer leads to a block that is there. -/
def Valid (t : Nat → AV) (m : Nat → List AV) : Prop := (∀ i, ∀ l ∈ (t i).ptrs, m l ≠ []) ∧ ∀ k, ∀ x ∈ m k, ∀ l ∈ x.ptrs, m l ≠ []

theorem vr_ptrs {P : Program} {E : Env} {v : Value} {x : AV} (h : VR P E v x) : ∀ l ∈ x.ptrs, E.A l := by
  have key : ∀ (vs : Array Value) (xs : List AV), vs.size = xs.length → (∀ (i : Nat) (v : Value) (x : AV), vs[i]? = some v → xs[i]? = some x → ∀ l ∈ x.ptrs, E.A l) → ∀ l ∈ ptrsL xs, E.A l := by
    intro vs xs hn ih l hl
    obtain ⟨x, hx, hlx⟩ := mem_ptrsL.1 hl
    obtain ⟨i, hi⟩ := List.getElem?_of_mem hx
    have h1 : i < vs.size := by rw [hn]; exact (List.getElem?_eq_some_iff.1 hi).1
    exact ih i _ x (Array.getElem?_eq_getElem h1) hi l hlx
  induction h with
  | agg vs xs hn h1 h ih => simpa [AV.ptrs] using key vs xs hn ih
  | tup vs xs hn h ih => simpa [AV.ptrs] using key vs xs hn ih
  | fn f cs caps hn h ih => simpa [AV.ptrs] using key cs caps hn ih
  | arr l off len cap c e h =>
    intro k hk
    simp only [AV.ptrs] at hk
    split at hk
    · cases hk
    · simp only [List.mem_singleton] at hk; subst hk; exact h
  | arr0 l off a e => simp [AV.ptrs]
  | ptr l off h => simpa [AV.ptrs] using h
  | _ => simp [AV.ptrs]

theorem rel_valid {P : Program} {B : Nat} {X : Nat → Prop} {w0 : World} {S0 : Nat → Nat → Prop} {pa : Nat → Option (Nat × Nat)} {n : Nat} {a : Act} {w : World} {s : RSt} (h : Rel P B X w0 S0 pa n a w s) : Valid s.t s.m := by
  obtain ⟨E, rfl, hwi, hv, _⟩ := h
  refine ⟨fun i l hl => (hwi.hA l).1 (vr_ptrs (hv i) l hl), fun k x hx l hl => ?_⟩
  have hk : s.m k ≠ [] := by intro h0; rw [h0] at hx; cases hx
  obtain ⟨cs, e, hh, hc, _⟩ := hwi.loc k hk
  obtain ⟨i, hi⟩ := List.getElem?_of_mem hx
  have h1 : i < cs.size := by rw [hc.1]; exact Nat.lt_of_lt_of_le (List.getElem?_eq_some_iff.1 hi).1 hc.2.1
  exact (hwi.hA l).1 (vr_ptrs (hc.2.2 i _ x (Array.getElem?_eq_getElem h1) hi).1 l hl)

/-! ### No pointer comes out of nowhere -/

theorem ptrs_cv1 (v : Value) : (cv1 v).ptrs = [] := by
  unfold cv1; split <;> simp [AV.ptrs]

theorem ptrs_cv (v : Value) : (cv v).ptrs = [] := by
  unfold cv
  split
  · split
    · simp only [AV.ptrs]
      apply List.eq_nil_iff_forall_not_mem.2
      intro l hl
      obtain ⟨x, hx, hlx⟩ := mem_ptrsL.1 hl
      obtain ⟨v, _, rfl⟩ := List.mem_map.1 hx
      rw [ptrs_cv1] at hlx
      cases hlx
    · simp [AV.ptrs]
  · exact ptrs_cv1 v

section
variable {P : Program} {t : Nat → AV} {m : Nat → List AV}

theorem ev_valid (hV : Valid t m) (x : Operand) : ∀ l ∈ (evO t x).ptrs, m l ≠ [] := by
  cases x with
  | tmp i => exact hV.1 i
  | const v => intro l hl; simp only [evO, ptrs_cv] at hl; cases hl
  | func f => intro l hl; simp [evO, AV.ptrs, ptrsL] at hl
  | global g => intro l hl; simp [evO, AV.ptrs] at hl

theorem cells_valid {x : AV} {cs : List AV} (hx : x.cells = some cs) : ∀ y ∈ cs, ∀ l ∈ y.ptrs, l ∈ x.ptrs := by
  intro y hy l hl
  cases x <;> simp [AV.cells] at hx <;> subst hx
  case agg xs => simp only [AV.ptrs]; exact mem_ptrsL.2 ⟨y, hy, hl⟩
  all_goals (simp at hy; subst hy; exact hl)

theorem place_mem {z cs : List AV} {off : Nat} {y : AV} (h : y ∈ place z off cs) : y ∈ z ∨ y ∈ cs := by
  unfold place at h
  rcases List.mem_append.1 h with h1 | h1
  · rcases List.mem_append.1 h1 with h2 | h2
    · exact .inl (List.mem_of_mem_take h2)
    · exact .inr h2
  · exact .inl (List.mem_of_mem_drop h1)

theorem yfill_valid {pl : Nat → Option (Nat × Nat)} {A : Nat → Prop} : ∀ (ps : List (Nat × AV)) (z z' : List AV), (∀ y ∈ z, ∀ l ∈ y.ptrs, A l) → (∀ p ∈ ps, ∀ l ∈ p.2.ptrs, A l) → yfill pl z ps = some z' → ∀ y ∈ z', ∀ l ∈ y.ptrs, A l
  | [], z, z', hz, _, h => by simp [yfill] at h; subst h; exact hz
  | (i, x) :: ps, z, z', hz, hp, h => by
    rw [yfill] at h
    split at h
    · rename_i off size cs _ hx
      split at h
      · refine yfill_valid ps _ z' ?_ (fun p hp' => hp p (List.mem_cons_of_mem _ hp')) h
        intro y hy l hl
        rcases place_mem hy with h1 | h1
        · exact hz y h1 l hl
        · exact hp _ List.mem_cons_self l (cells_valid hx y h1 l hl)
      · cases h
    · cases h

theorem yl_valid (hV : Valid t m) {op : Op} {v : AV} (h : yl P (evO t) m op = some v) : ∀ l ∈ v.ptrs, m l ≠ [] := by
  have ev := ev_valid hV
  have nop : ∀ {x : AV}, x.ptrs = [] → ∀ l ∈ x.ptrs, m l ≠ [] := fun h l hl => by rw [h] at hl; cases hl
  unfold yl at h
  split at h
  · simp at h; subst h; exact ev _
  · simp at h; subst h; exact ev _
  · split at h
    · cases h; split <;> exact ev _
    · cases h
  · unfold ybin at h
    split at h
    · split at h
      · simp only [Option.map_eq_some_iff] at h; obtain ⟨c, _, rfl⟩ := h; exact nop rfl
      · cases h
    · split at h <;> cases h <;> exact nop rfl
    · split at h
      · split at h <;> cases h; exact nop rfl
      · cases h; exact nop rfl
      · cases h; exact nop rfl
      · cases h
    · cases h
  · unfold yun at h; split at h <;> cases h <;> exact nop rfl
  · split at h <;> cases h; exact nop rfl
  · rename_i ty a
    unfold yload at h
    split at h
    · split at h
      · split at h
        · cases h
          intro l hl
          simp only [AV.ptrs] at hl
          obtain ⟨x, hx, hlx⟩ := mem_ptrsL.1 hl
          exact hV.2 _ x (List.mem_of_mem_drop (List.mem_of_mem_take hx)) l hlx
        · cases h
      · exact hV.2 _ v (List.mem_of_getElem? h)
      · cases h
    · split at h
      · split at h
        · cases h
          intro l hl
          simp only [AV.ptrs] at hl
          obtain ⟨x, hx, hlx⟩ := mem_ptrsL.1 hl
          obtain ⟨c, _, rfl⟩ := List.mem_map.1 hx
          simp [AV.ptrs] at hlx
        · cases h
      · simp only [Option.map_eq_some_iff] at h; obtain ⟨c, _, rfl⟩ := h; exact nop rfl
      · cases h
    · cases h
  · rename_i s x f
    unfold yfield at h
    split at h
    · split at h
      · split at h
        · split at h
          · rename_i l off he; cases h
            have := ev x
            rw [he] at this
            intro l' hl; simp only [AV.ptrs] at hl this; exact this l' hl
          · cases h; exact nop rfl
          · cases h
        · cases h
      · cases h
    · cases h
  · rename_i ty x i
    unfold yindex at h
    split at h
    · split at h
      · rename_i l off len cap e' he
        split at h
        · rename_i hc
          cases h
          have := ev x
          rw [he] at this
          intro l' hl; simp only [AV.ptrs] at hl this; rw [if_neg (by omega)] at this; exact this l' hl
        · cases h
      · split at h
        · split at h <;> cases h; exact nop rfl
        · cases h
    · cases h
  · rename_i x
    split at h
    · rename_i l off he; cases h
      have := ev x
      rw [he] at this; exact this
    · cases h; exact nop rfl
    · cases h
  · rename_i x i
    split at h
    · rename_i xs he
      have := ev x
      rw [he] at this
      intro l hl
      exact this l (by simp only [AV.ptrs]; exact mem_ptrsL.2 ⟨v, List.mem_of_getElem? h, hl⟩)
    · cases h
  · rename_i ty ps
    unfold ybuild at h
    split at h
    · split at h
      · split at h
        · rename_i z hz
          simp only [Option.map_eq_some_iff] at h
          obtain ⟨z', hf, rfl⟩ := h
          intro l hl
          simp only [AV.ptrs] at hl
          obtain ⟨x, hx, hlx⟩ := mem_ptrsL.1 hl
          refine yfill_valid (A := fun l => m l ≠ []) _ z z' ?_ ?_ hf x hx l hlx
          · intro y hy l hl
            unfold zc at hz
            split at hz
            · split at hz
              · split at hz
                · cases hz
                  obtain ⟨v, _, rfl⟩ := List.mem_map.1 hy
                  rw [ptrs_cv1] at hl; cases hl
                · cases hz
              · cases hz
            · cases hz
          · intro p hp l hl
            obtain ⟨q, _, rfl⟩ := List.mem_map.1 hp
            exact ev _ l hl
        · cases h
      · cases h
    · cases h
  · unfold yslice2 at h
    split at h
    · rename_i l off len cap e hq
      have hl : ∀ k, ¬ (len = 0 ∧ cap = 0) → k = l → m k ≠ [] := by
        intro k h1 h2
        refine ev _ k (by rw [hq]; simp only [AV.ptrs, if_neg h1, List.mem_singleton]; exact h2)
      unfold ysliceA at h
      have out : ∀ (o' a b c : Nat), (b ≠ 0 ∨ c ≠ 0 → ¬ (len = 0 ∧ cap = 0)) → ∀ k ∈ (AV.arr l o' b c e).ptrs, m k ≠ [] := by
        intro o' a b c hbc k hk
        simp only [AV.ptrs] at hk
        split at hk
        · cases hk
        · simp only [List.mem_singleton] at hk
          exact hl k (hbc (by omega)) hk
      split at h
      · split at h
        · split at h
          · split at h
            · split at h <;> cases h
              rename_i hb
              exact out _ 0 _ _ (by omega)
            · split at h
              · split at h <;> cases h
                rename_i hb
                exact out _ 0 _ _ (by omega)
              · cases h
            · cases h
          · cases h
        · cases h
      · cases h
    · unfold yslice at h
      split at h
      · split at h
        · split at h
          · split at h
            · split at h
              · cases h; exact nop rfl
              · split at h <;> cases h; exact nop rfl
              · cases h
            · cases h
          · cases h
        · cases h
      · split at h
        · split at h
          · split at h <;> cases h; exact nop rfl
          · cases h
        · cases h
      · cases h
  · unfold ycall at h
    split at h
    · split at h
      · unfold ylen at h
        split at h
        · split at h
          · cases h; exact nop rfl
          · split at h <;> cases h; exact nop rfl
        · split at h <;> cases h; exact nop rfl
        · cases h
      · cases h
    · split at h
      · unfold ycap at h
        split at h
        · split at h <;> cases h; exact nop rfl
        · cases h
      · cases h
    · split at h
      · unfold ymm at h; split at h <;> cases h; exact nop rfl
      · unfold ymm3 at h; split at h <;> cases h; exact nop rfl
      · cases h
    · split at h
      · unfold ymm at h; split at h <;> cases h; exact nop rfl
      · cases h
    · cases h
  · split at h
    · cases h
      intro l hl
      simp only [AV.ptrs] at hl
      obtain ⟨x, hx, hlx⟩ := mem_ptrsL.1 hl
      obtain ⟨o, _, rfl⟩ := List.mem_map.1 hx
      exact ev o l hlx
    · cases h
  · cases h
end

end Go.Rb
