/-
  What is proved: lists of operations do to memory what the state of the activation says, in the order of the text. Conditions: none.
-/
import Derived.Test.YtoihccclnkhmaaaEngNc
set_option linter.unusedVariables false
set_option linter.unusedSimpArgs false
set_option maxRecDepth 4000
namespace Go.Rb

/-! ### Operations in the order of the text -/

def wantedA (t : Nat → AV) (ops : Array Oper) (o : Oper) : Option Bool :=
  match o.guard with
  | none => some true
  | some (j, want) =>
    match (ops[j]?).bind (·.dst) with
    | none => some false
    | some d => match t d with
      | .c (.bool b) => some (b == want)
      | .und => some false
      | _ => none

/-- Operation o takes the state s to s'. -/
def AStep (P : Program) (dr : Bool) (ops : Array Oper) (s : RSt) (o : Oper) (s' : RSt) : Prop :=
  (wantedA s.t ops o = some true ∧ ∃ f, AY P dr s.t s.m s.p s.xo s.xn o f ∧ s' = s.app o.dst f) ∨ (wantedA s.t ops o = some false ∧ s' = s.app o.dst { v := .und })

def aops (P : Program) (dr : Bool) (ops : Array Oper) (K : RSt → Prop) : List Oper → RSt → Prop
  | [], s => K s
  | o :: l, s => (∃ s', AStep P dr ops s o s' ∧ aops P dr ops K l s') ∨ (dr = false ∧ wantedA s.t ops o = some true ∧ ArrT P s o (aops P dr ops K l))

def dstOK (n : Nat) (o : Oper) : Bool := match o.dst with | some d => decide (d < n) | none => true

section
variable {P : Program} {B : Nat} {X : Nat → Prop} {w0 : World} {S0 : Nat → Nat → Prop} {pa : Nat → Option (Nat × Nat)} {n : Nat}

theorem wanted_sound {E : Env} {a : Act} {t : Nat → AV} {ops : Array Oper} {o : Oper} {b : Bool} (ht : ∀ i, VR P E (a.tmps.getD i undef) (t i)) (h : wantedA t ops o = some b) :
    Region.wanted o (yielded ops a.tmps) = b := by
  unfold wantedA at h
  unfold Region.wanted
  split at h
  · rename_i hg; cases h; simp [hg]
  · rename_i j want hg
    simp only [hg]
    unfold yielded
    split at h
    · rename_i hd; cases h; simp [hd]
    · rename_i d hd
      simp only [hd, Option.bind_some]
      have hv := ht d
      split at h
      · rename_i b' hb
        cases h
        rw [hb] at hv
        have hv' := vr_bool hv
        have : a.tmps[d]? = some (.bool b') := by
          simp only [Array.getD_eq_getD_getElem?] at hv'
          cases hq : a.tmps[d]? with
          | none => simp [hq, undef] at hv'
          | some q => simp [hq] at hv'; rw [hv']
        simp [this]
      · rename_i hb
        cases h
        rw [hb] at hv
        cases hq : a.tmps[d]? with
        | none => simp
        | some q =>
          simp only [Array.getD_eq_getD_getElem?, hq, Option.getD_some] at hv
          have : q = undef := by generalize q = u at hv; cases hv; rfl
          simp [this, undef]
      · cases h

theorem step_sound {a : Act} {w : World} {s s' : RSt} {o : Oper} {ops : Array Oper} {dr : Bool} (h : Rel P B X w0 S0 pa n a w s) (hd : dstOK n o = true) (hs : AStep P dr ops s o s')
    {K : Act → World → Prop} {Q : Exit → Act → World → Prop} (hK : ∀ a' w', Rel P B X w0 S0 pa n a' w' s' → K a' w') :
    if Region.wanted o (yielded ops a.tmps) then o.wp P a w K Q else K (a.put o.dst undef) w := by
  obtain ⟨E, rfl, hwi, hv, hde, hn, hpa⟩ := h
  have hdst : ∀ d, o.dst = some d → d < a.tmps.size := by
    intro d hd'
    rw [dstOK, hd'] at hd
    rw [hn]
    simpa using hd
  have hput : ∀ v, (a.put o.dst v).defers = [] ∧ (a.put o.dst v).tmps.size = n := by
    intro v
    cases o.dst <;> simp [Act.put, hde, hn]
  rcases hs with ⟨hw, f, hay, rfl⟩ | ⟨hw, rfl⟩
  · rw [if_pos (wanted_sound hv hw)]
    exact ay_sound hwi hv hdst hay fun E' v h0 h1 h2 => hK _ _ ⟨E', rfl, h1, h2, (hput v).1, (hput v).2, fun l b hl => ⟨(h0.A l (hpa l b hl).1).1, by rw [(h0.A l (hpa l b hl).1).2.1, (h0.A l (hpa l b hl).1).2.2]; exact (hpa l b hl).2⟩⟩
  · rw [wanted_sound hv hw]
    simp only [Bool.false_eq_true, if_false]
    refine hK _ _ ⟨E, rfl, ?_, act_put hv (Env.le.refl E) .und hdst, (hput _).1, (hput _).2, hpa⟩
    simp only [RSt.app, memAll, Nat.or_zero]
    exact ⟨hwi.fr, hwi.hB, hwi.s0, hwi.sNew, hwi.slt, hwi.hA, hwi.loc, hwi.locne, hwi.own, hwi.ownne, hwi.new, hwi.deadn, hwi.deado⟩

theorem aops_sound (hX : ∀ b, X b → ∃ l c, pa l = some (b, c)) (hpn : ∀ l, 2000 ≤ l → pa l = none) {Q : Exit → Act → World → Prop} {K : RSt → Prop} {ops : Array Oper} {dr : Bool} (hK : ∀ a' w' s', Rel P B X w0 S0 pa n a' w' s' → K s' → Q .normal a' w') :
    ∀ (l : List Oper) (a : Act) (w : World) (s : RSt), l.all (dstOK n) = true → Rel P B X w0 S0 pa n a w s → aops P dr ops K l s → wpList P ops Q l a w
  | [], a, w, s, _, hr, h => hK a w s hr h
  | o :: l, a, w, s, hd, hr, .inr ⟨_, hw, h⟩ => by
    simp only [List.all_cons, Bool.and_eq_true] at hd
    have hwt : Region.wanted o (yielded ops a.tmps) = true := by
      obtain ⟨E, _, _, hv, _⟩ := hr
      exact wanted_sound hv hw
    unfold wpList
    rw [if_pos hwt]
    refine .inl (arrT_sound hX hpn hr (fun d hd' => by have := hd.1; rw [dstOK, hd'] at this; simpa using this) h fun a' w' s' hr' h' => aops_sound hX hpn hK l a' w' s' hd.2 hr' h')
  | o :: l, a, w, s, hd, hr, .inl ⟨s', hs, h⟩ => by
    simp only [List.all_cons, Bool.and_eq_true] at hd
    have := step_sound (Q := Q) hr hd.1 hs (K := wpList P ops Q l) (fun a' w' hr' => aops_sound hX hpn hK l a' w' s' hd.2 hr' h)
    unfold wpList
    split
    · rename_i hw; rw [if_pos hw] at this; exact .inl this
    · rename_i hw; rw [if_neg hw] at this; exact this

theorem region_sound (hX : ∀ b, X b → ∃ l c, pa l = some (b, c)) (hpn : ∀ l, 2000 ≤ l → pa l = none) {Q : Exit → Act → World → Prop} {K : St → Prop} {id : Nat} {ops : Array Oper} {a : Act} {w : World} {s : St} (hd : ops.toList.all (dstOK n) = true) (hr : Rel P B X w0 S0 pa n a w s.R)
    (h : aops P false ops (fun r => K r.fin) ops.toList s.R) (hK : ∀ a' w' s', Rel P B X w0 S0 pa n a' w' s'.R → K s' → Q .normal a' w') : (Code.region id ops false).wp P Q a w :=
  wp_region_list (aops_sound hX hpn (K := fun r => K r.fin) (fun a' w' s' h1 h2 => hK a' w' _ (rel_fin h1) h2) ops.toList a w s.R hd hr h)
end

end Go.Rb
