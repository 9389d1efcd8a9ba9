/-
  What is proved: lists of operations do to memory what the state of the activation says, in the order of the text; at a region's end the slices of one's own are numbered anew. Conditions: none.
-/
import Derived.Test.YtoihccclnkhmaaaEngL
set_option linter.unusedVariables false
set_option linter.unusedSimpArgs false
set_option maxRecDepth 4000
namespace Go.Rb

structure St where
  t : Nat → AV
  m : Nat → List AV

def St.R (s : St) : RSt := { t := s.t, m := s.m, p := 0, xo := 0, xn := 0 }

/-! ### The end of a region -/

def fin1 (p xo xn : Nat) : AV → AV
  | .own true k e rows => if xn.testBit k then .c (.sl e rows) else .own false k e rows
  | .own false k e rows => if xo.testBit k || p.testBit k then .c (.sl e rows) else .own false k e rows
  | .fn f caps => if caps.all AV.noOwn1 then .fn f caps else .any
  | .agg _ => .any
  | .tup _ => .any
  | x => x

def fin2 (p xo xn : Nat) : AV → AV
  | .agg xs => .agg (xs.map (fin1 p xo xn))
  | x => fin1 p xo xn x

def fin3 (p xo xn : Nat) : AV → AV
  | .tup xs => .tup (xs.map (fin2 p xo xn))
  | x => fin2 p xo xn x

def RSt.fin (s : RSt) : St :=
  if s.p = 0 ∧ s.xo = 0 ∧ s.xn = 0 then ⟨s.t, s.m⟩ else ⟨fun i => fin3 s.p s.xo s.xn (s.t i), fun l => (s.m l).map (fin1 s.p s.xo s.xn)⟩

/-- The state of an activation, and the values and the world that it speaks of. -/
def Rel (P : Program) (B : Nat) (X : Nat → Prop) (w0 : World) (S0 : Nat → Nat → Prop) (pa : Nat → Option (Nat × Nat)) (n : Nat) (a : Act) (w : World) (s : RSt) : Prop :=
  ∃ E : Env, E.w = w ∧ WI P B X w0 S0 E s ∧ (∀ i, VR P E (a.tmps.getD i undef) (s.t i)) ∧ a.defers = [] ∧ a.tmps.size = n ∧ ∀ l b, pa l = some b → E.A l ∧ (E.β l, E.cp l) = b

section
variable {P : Program} {B : Nat} {X : Nat → Prop} {w0 : World} {S0 : Nat → Nat → Prop} {E : Env} {s : RSt}

def envFin (E : Env) (p xo xn : Nat) : Env :=
  { E with ow := fun nw k => if nw = true then .none else if p.testBit k = true then (if xn.testBit k = true then .none else E.ow true k) else if xo.testBit k = true then .none else E.ow false k }

theorem vr_fin1 (h : WI P B X w0 S0 E s) {v : Value} {x : AV} (hv : VR P E v x) (h1 : v.oneCell' = true ∨ (fin1 s.p s.xo s.xn x ≠ .any)) : VR P (envFin E s.p s.xo s.xn) v (fin1 s.p s.xo s.xn x) := by
  cases hv with
  | c v x h => exact .c _ _ h
  | nils => exact .nils
  | agg => exact .any _
  | tup => exact .any _
  | own v nw k e rows hr ho =>
    cases nw
    · simp only [fin1]
      split
      · exact .c _ _ hr
      · rename_i hc
        simp only [Bool.or_eq_true, not_or] at hc
        refine .own _ _ _ _ _ hr ?_
        rcases ho with ho | ho | ho
        · exact .inl ho
        · exact absurd (h.deado k ho) hc.1
        · exact .inr (.inr (by simp [envFin, hc.1, hc.2, ho]))
    · simp only [fin1]
      split
      · exact .c _ _ hr
      · rename_i hc
        refine .own _ _ _ _ _ hr ?_
        rcases ho with ho | ho | ho
        · exact .inl ho
        · exact absurd (h.deadn k ho) hc
        · have hp := h.new k (by rw [ho]; simp)
          exact .inr (.inr (by simp [envFin, hc, hp, ho]))
  | arr l off len cap c e h hc hl hs hm => exact .arr _ _ _ _ _ _ h hc hl hs hm
  | arr0 l off a e => exact .arr0 _ _ _ _
  | ptr l off h => exact .ptr _ _ h
  | el b o xs vs h => exact .el b o xs vs h
  | fn f cs caps hn hr =>
    simp only [fin1]
    split
    · rename_i hc
      simp only [List.all_eq_true] at hc
      exact .fn f cs caps hn fun i v x hv hx => vr_noOwn1 (hc x (List.mem_of_getElem? hx)) (hr i v x hv hx) rfl rfl (fun _ h => ⟨h, rfl, rfl⟩)
    · exact .any _
  | und => exact .und
  | any => exact .any _

theorem vr_fin1' (h : WI P B X w0 S0 E s) {v : Value} {x : AV} (hv : VR P E v x) : VR P (envFin E s.p s.xo s.xn) v (fin1 s.p s.xo s.xn x) := by
  by_cases h1 : fin1 s.p s.xo s.xn x = .any
  · rw [h1]; exact .any _
  · exact vr_fin1 h hv (.inr h1)

theorem vr_fin2 (h : WI P B X w0 S0 E s) {v : Value} {x : AV} (hv : VR P E v x) : VR P (envFin E s.p s.xo s.xn) v (fin2 s.p s.xo s.xn x) := by
  unfold fin2
  split
  · cases hv with
    | agg vs xs hn h1 hr =>
      refine .agg vs _ (by simpa using hn) h1 fun i v y hv hy => ?_
      rw [List.getElem?_map, Option.map_eq_some_iff] at hy
      obtain ⟨x, hx, rfl⟩ := hy
      exact vr_fin1' h (hr i v x hv hx)
  · exact vr_fin1' h hv

theorem vr_fin3 (h : WI P B X w0 S0 E s) {v : Value} {x : AV} (hv : VR P E v x) : VR P (envFin E s.p s.xo s.xn) v (fin3 s.p s.xo s.xn x) := by
  unfold fin3
  split
  · cases hv with
    | tup vs xs hn hr =>
      refine .tup vs _ (by simpa using hn) fun i v y hv hy => ?_
      rw [List.getElem?_map, Option.map_eq_some_iff] at hy
      obtain ⟨x, hx, rfl⟩ := hy
      exact vr_fin2 h (hr i v x hv hx)
  · exact vr_fin2 h hv

theorem rel_fin {pa : Nat → Option (Nat × Nat)} {n : Nat} {a : Act} {w : World} (h : Rel P B X w0 S0 pa n a w s) : Rel P B X w0 S0 pa n a w s.fin.R := by
  obtain ⟨E, rfl, hwi, hv, hd, hn, hpa⟩ := h
  unfold RSt.fin
  split
  · rename_i hc
    obtain ⟨t, m, p, xo, xn⟩ := s
    obtain ⟨h1, h2, h3⟩ := hc
    simp only at h1 h2 h3
    subst h1 h2 h3
    exact ⟨E, rfl, hwi, hv, hd, hn, hpa⟩
  · have hreg : ∀ nw k v e, (envFin E s.p s.xo s.xn).ow nw k = .reg v e → nw = false ∧ (s.p.testBit k = true ∧ E.ow true k = .reg v e ∨ s.p.testBit k = false ∧ E.ow false k = .reg v e) := by
      intro nw k v e hr
      simp only [envFin] at hr
      split at hr
      · cases hr
      · rename_i hnw
        refine ⟨by simpa using hnw, ?_⟩
        split at hr
        · rename_i hp
          split at hr
          · cases hr
          · exact .inl ⟨hp, hr⟩
        · rename_i hp
          split at hr
          · cases hr
          · exact .inr ⟨by simpa using hp, hr⟩
    have hml : ∀ l, (s.m l).map (fin1 s.p s.xo s.xn) ≠ [] ↔ s.m l ≠ [] := by intro l; simp
    refine ⟨envFin E s.p s.xo s.xn, rfl, ⟨hwi.fr, hwi.hB, hwi.s0, hwi.sNew, hwi.slt, fun l => (hwi.hA l).trans (hml l).symm, ?_, ?_, ?_, ?_, ?_, ?_, ?_⟩, fun i => vr_fin3 hwi (hv i), hd, hn, hpa⟩
    · intro l hl
      obtain ⟨cs, e, hh, hc, hs, hb⟩ := hwi.loc l ((hml l).1 hl)
      refine ⟨cs, e, hh, ⟨hc.1, by show ((s.m l).map _).length ≤ E.cp l; rw [List.length_map]; exact hc.2.1, fun i v y hv hy => ?_⟩, hs, hb⟩
      simp only [St.R, List.getElem?_map, Option.map_eq_some_iff] at hy
      obtain ⟨x, hx, rfl⟩ := hy
      have := hc.2.2 i v x hv hx
      exact ⟨vr_fin1' hwi this.1, this.2⟩
    · intro l l' hl hl' he
      exact hwi.locne l l' ((hml l).1 hl) ((hml l').1 hl') he
    · intro nw k v e hr
      obtain ⟨_, h1⟩ := hreg nw k v e hr
      have key : ∀ nw', E.ow nw' k = .reg v e → OwnBlk P E.w E.S B v e ∧ ∀ l, (s.m l).map (fin1 s.p s.xo s.xn) ≠ [] → v.ownBlock ≠ some (E.β l) := by
        intro nw' h2
        obtain ⟨h3, h4⟩ := hwi.own nw' k v e h2
        exact ⟨h3, fun l hl => h4 l ((hml l).1 hl)⟩
      rcases h1 with ⟨_, h1⟩ | ⟨_, h1⟩
      · exact key _ h1
      · exact key _ h1
    · intro nw k v e nw' k' v' e' hr hr' hvv
      obtain ⟨rfl, h1⟩ := hreg nw k v e hr
      obtain ⟨rfl, h2⟩ := hreg nw' k' v' e' hr'
      rcases h1 with ⟨hp1, h1⟩ | ⟨hp1, h1⟩ <;> rcases h2 with ⟨hp2, h2⟩ | ⟨hp2, h2⟩ <;> obtain ⟨h3, rfl⟩ := hwi.ownne _ k v e _ k' v' e' h1 h2 hvv
      · exact ⟨rfl, rfl⟩
      · cases h3
      · cases h3
      · exact ⟨rfl, rfl⟩
    · intro k hk; simp [envFin] at hk
    · intro k hk; simp [envFin] at hk
    · intro k hk
      simp only [envFin] at hk
      simp only [Bool.false_eq_true, if_false] at hk
      split at hk
      · split at hk
        · cases hk
        · rename_i hx; exact absurd (hwi.deadn k hk) hx
      · split at hk
        · cases hk
        · rename_i hx; exact absurd (hwi.deado k hk) hx
end

end Go.Rb
