/-
  What is proved: lists of operations do to memory what the state of the activation says, in the order of the text; at a region's end the slices of one's own are numbered anew. Conditions: none.
-/
import Derived.Test.YtoihccclnkhmaaaEngL
set_option linter.unusedVariables false
set_option linter.unusedSimpArgs false
set_option maxRecDepth 4000
namespace Go.Rb

structure St where
  t : Nat → AV
  m : Nat → List AV

def St.R (s : St) : RSt := { t := s.t, m := s.m, p := 0, xo := 0, xn := 0 }

/-! ### The end of a region -/

def fin1 (p xo xn : Nat) : AV → AV
  | .own true k e rows => if xn.testBit k then .c (.sl e rows) else .own false k e rows
  | .own false k e rows => if xo.testBit k || p.testBit k then .c (.sl e rows) else .own false k e rows
  | .fn f caps => if caps.all AV.noOwn1 then .fn f caps else .any
  | .agg _ => .any
  | .tup _ => .any
  | x => x

def fin2 (p xo xn : Nat) : AV → AV
  | .agg xs => .agg (xs.map (fin1 p xo xn))
  | x => fin1 p xo xn x

def fin3 (p xo xn : Nat) : AV → AV
  | .tup xs => .tup (xs.map (fin2 p xo xn))
  | x => fin2 p xo xn x

def RSt.fin (s : RSt) : St :=
  if s.p = 0 ∧ s.xo = 0 ∧ s.xn = 0 then ⟨s.t, s.m⟩ else ⟨fun i => fin3 s.p s.xo s.xn (s.t i), fun l => (s.m l).map (fin1 s.p s.xo s.xn)⟩

/-- The state of an activation, and the values and the world that it speaks of. -/
def Rel (P : Program) (B : Nat) (X : Nat → Prop) (w0 : World) (S0 : Nat → Nat → Prop) (pa : Nat → Option Nat) (n : Nat) (a : Act) (w : World) (s : RSt) : Prop :=
  ∃ E : Env, E.w = w ∧ WI P B X w0 S0 E s ∧ (∀ i, VR P E (a.tmps.getD i undef) (s.t i)) ∧ a.defers = [] ∧ a.tmps.size = n ∧ ∀ l b, pa l = some b → E.A l ∧ E.β l = b

section
variable {P : Program} {B : Nat} {X : Nat → Prop} {w0 : World} {S0 : Nat → Nat → Prop} {E : Env} {s : RSt}

def envFin (E : Env) (p xo xn : Nat) : Env :=
  { E with ow := fun nw k => if nw = true then .none else if p.testBit k = true then (if xn.testBit k = true then .none else E.ow true k) else if xo.testBit k = true then .none else E.ow false k }

theorem vr_fin1 (h : WI P B X w0 S0 E s) {v : Value} {x : AV} (hv : VR P E v x) (h1 : v.oneCell' = true ∨ (fin1 s.p s.xo s.xn x ≠ .any)) : VR P (envFin E s.p s.xo s.xn) v (fin1 s.p s.xo s.xn x) := by
  cases hv with
  | c v x h => exact .c _ _ h
  | nils => exact .nils
  | agg => exact .any _
  | tup => exact .any _
  | own v nw k e rows hr ho =>
    cases nw
    · simp only [fin1]
      split
      · exact .c _ _ hr
      · rename_i hc
        simp only [Bool.or_eq_true, not_or] at hc
        refine .own _ _ _ _ _ hr ?_
        rcases ho with ho | ho | ho
        · exact .inl ho
        · exact absurd (h.deado k ho) hc.1
        · exact .inr (.inr (by simp [envFin, hc.1, hc.2, ho]))
    · simp only [fin1]
      split
      · exact .c _ _ hr
      · rename_i hc
        refine .own _ _ _ _ _ hr ?_
        rcases ho with ho | ho | ho
        · exact .inl ho
        · exact absurd (h.deadn k ho) hc
        · have hp := h.new k (by rw [ho]; simp)
          exact .inr (.inr (by simp [envFin, hc, hp, ho]))
  | arr l off len cap e h => exact .arr _ _ _ _ _ h
  | ptr l off h => exact .ptr _ _ h
  | el b o xs vs h => exact .el b o xs vs h
  | fn f cs caps hn hr =>
    simp only [fin1]
    split
    · rename_i hc
      simp only [List.all_eq_true] at hc
      exact .fn f cs caps hn fun i v x hv hx => vr_noOwn1 (hc x (List.mem_of_getElem? hx)) (hr i v x hv hx) rfl rfl rfl (fun _ h => h)
    · exact .any _
  | und => exact .und
  | any => exact .any _

theorem vr_fin1' (h : WI P B X w0 S0 E s) {v : Value} {x : AV} (hv : VR P E v x) : VR P (envFin E s.p s.xo s.xn) v (fin1 s.p s.xo s.xn x) := by
  by_cases h1 : fin1 s.p s.xo s.xn x = .any
  · rw [h1]; exact .any _
  · exact vr_fin1 h hv (.inr h1)

theorem vr_fin2 (h : WI P B X w0 S0 E s) {v : Value} {x : AV} (hv : VR P E v x) : VR P (envFin E s.p s.xo s.xn) v (fin2 s.p s.xo s.xn x) := by
  unfold fin2
  split
  · cases hv with
    | agg vs xs hn h1 hr =>
      refine .agg vs _ (by simpa using hn) h1 fun i v y hv hy => ?_
      rw [List.getElem?_map, Option.map_eq_some_iff] at hy
      obtain ⟨x, hx, rfl⟩ := hy
      exact vr_fin1' h (hr i v x hv hx)
  · exact vr_fin1' h hv

theorem vr_fin3 (h : WI P B X w0 S0 E s) {v : Value} {x : AV} (hv : VR P E v x) : VR P (envFin E s.p s.xo s.xn) v (fin3 s.p s.xo s.xn x) := by
  unfold fin3
  split
  · cases hv with
    | tup vs xs hn hr =>
      refine .tup vs _ (by simpa using hn) fun i v y hv hy => ?_
      rw [List.getElem?_map, Option.map_eq_some_iff] at hy
      obtain ⟨x, hx, rfl⟩ := hy
      exact vr_fin2 h (hr i v x hv hx)
  · exact vr_fin2 h hv

theorem rel_fin {pa : Nat → Option Nat} {n : Nat} {a : Act} {w : World} (h : Rel P B X w0 S0 pa n a w s) : Rel P B X w0 S0 pa n a w s.fin.R := by
  obtain ⟨E, rfl, hwi, hv, hd, hn, hpa⟩ := h
  unfold RSt.fin
  split
  · rename_i hc
    obtain ⟨t, m, p, xo, xn⟩ := s
    obtain ⟨h1, h2, h3⟩ := hc
    simp only at h1 h2 h3
    subst h1 h2 h3
    exact ⟨E, rfl, hwi, hv, hd, hn, hpa⟩
  · have hreg : ∀ nw k v e, (envFin E s.p s.xo s.xn).ow nw k = .reg v e → nw = false ∧ (s.p.testBit k = true ∧ E.ow true k = .reg v e ∨ s.p.testBit k = false ∧ E.ow false k = .reg v e) := by
      intro nw k v e hr
      simp only [envFin] at hr
      split at hr
      · cases hr
      · rename_i hnw
        refine ⟨by simpa using hnw, ?_⟩
        split at hr
        · rename_i hp
          split at hr
          · cases hr
          · exact .inl ⟨hp, hr⟩
        · rename_i hp
          split at hr
          · cases hr
          · exact .inr ⟨by simpa using hp, hr⟩
    have hml : ∀ l, (s.m l).map (fin1 s.p s.xo s.xn) ≠ [] ↔ s.m l ≠ [] := by intro l; simp
    refine ⟨envFin E s.p s.xo s.xn, rfl, ⟨hwi.fr, hwi.hB, hwi.s0, hwi.sNew, hwi.slt, fun l => (hwi.hA l).trans (hml l).symm, ?_, ?_, ?_, ?_, ?_, ?_, ?_⟩, fun i => vr_fin3 hwi (hv i), hd, hn, hpa⟩
    · intro l hl
      obtain ⟨cs, e, hh, hc, hs, hb⟩ := hwi.loc l ((hml l).1 hl)
      refine ⟨cs, e, hh, ⟨by simpa [St.R] using hc.1, fun i v y hv hy => ?_⟩, hs, hb⟩
      simp only [St.R, List.getElem?_map, Option.map_eq_some_iff] at hy
      obtain ⟨x, hx, rfl⟩ := hy
      have := hc.2 i v x hv hx
      exact ⟨vr_fin1' hwi this.1, this.2⟩
    · intro l l' hl hl' he
      exact hwi.locne l l' ((hml l).1 hl) ((hml l').1 hl') he
    · intro nw k v e hr
      obtain ⟨_, h1⟩ := hreg nw k v e hr
      have key : ∀ nw', E.ow nw' k = .reg v e → OwnBlk P E.w E.S B v e ∧ ∀ l, (s.m l).map (fin1 s.p s.xo s.xn) ≠ [] → v.ownBlock ≠ some (E.β l) := by
        intro nw' h2
        obtain ⟨h3, h4⟩ := hwi.own nw' k v e h2
        exact ⟨h3, fun l hl => h4 l ((hml l).1 hl)⟩
      rcases h1 with ⟨_, h1⟩ | ⟨_, h1⟩
      · exact key _ h1
      · exact key _ h1
    · intro nw k v e nw' k' v' e' hr hr' hvv
      obtain ⟨rfl, h1⟩ := hreg nw k v e hr
      obtain ⟨rfl, h2⟩ := hreg nw' k' v' e' hr'
      rcases h1 with ⟨hp1, h1⟩ | ⟨hp1, h1⟩ <;> rcases h2 with ⟨hp2, h2⟩ | ⟨hp2, h2⟩ <;> obtain ⟨h3, rfl⟩ := hwi.ownne _ k v e _ k' v' e' h1 h2 hvv
      · exact ⟨rfl, rfl⟩
      · cases h3
      · cases h3
      · exact ⟨rfl, rfl⟩
    · intro k hk; simp [envFin] at hk
    · intro k hk; simp [envFin] at hk
    · intro k hk
      simp only [envFin] at hk
      simp only [Bool.false_eq_true, if_false] at hk
      split at hk
      · split at hk
        · cases hk
        · rename_i hx; exact absurd (hwi.deadn k hk) hx
      · split at hk
        · cases hk
        · rename_i hx; exact absurd (hwi.deado k hk) hx
end

/-! ### Operations in the order of the text -/

def wantedA (t : Nat → AV) (ops : Array Oper) (o : Oper) : Option Bool :=
  match o.guard with
  | none => some true
  | some (j, want) =>
    match (ops[j]?).bind (·.dst) with
    | none => some false
    | some d => match t d with
      | .c (.bool b) => some (b == want)
      | .und => some false
      | _ => none

/-- Operation o takes the state s to s'. -/
def AStep (P : Program) (dr : Bool) (ops : Array Oper) (s : RSt) (o : Oper) (s' : RSt) : Prop :=
  (wantedA s.t ops o = some true ∧ ∃ f, AY P dr s.t s.m s.p s.xo s.xn o f ∧ s' = s.app o.dst f) ∨ (wantedA s.t ops o = some false ∧ s' = s.app o.dst { v := .und })

def aops (P : Program) (dr : Bool) (ops : Array Oper) (K : RSt → Prop) : List Oper → RSt → Prop
  | [], s => K s
  | o :: l, s => ∃ s', AStep P dr ops s o s' ∧ aops P dr ops K l s'

def dstOK (n : Nat) (o : Oper) : Bool := match o.dst with | some d => decide (d < n) | none => true

section
variable {P : Program} {B : Nat} {X : Nat → Prop} {w0 : World} {S0 : Nat → Nat → Prop} {pa : Nat → Option Nat} {n : Nat}

theorem wanted_sound {E : Env} {a : Act} {t : Nat → AV} {ops : Array Oper} {o : Oper} {b : Bool} (ht : ∀ i, VR P E (a.tmps.getD i undef) (t i)) (h : wantedA t ops o = some b) :
    Region.wanted o (yielded ops a.tmps) = b := by
  unfold wantedA at h
  unfold Region.wanted
  split at h
  · rename_i hg; cases h; simp [hg]
  · rename_i j want hg
    simp only [hg]
    unfold yielded
    split at h
    · rename_i hd; cases h; simp [hd]
    · rename_i d hd
      simp only [hd, Option.bind_some]
      have hv := ht d
      split at h
      · rename_i b' hb
        cases h
        rw [hb] at hv
        have hv' := vr_bool hv
        have : a.tmps[d]? = some (.bool b') := by
          simp only [Array.getD_eq_getD_getElem?] at hv'
          cases hq : a.tmps[d]? with
          | none => simp [hq, undef] at hv'
          | some q => simp [hq] at hv'; rw [hv']
        simp [this]
      · rename_i hb
        cases h
        rw [hb] at hv
        cases hq : a.tmps[d]? with
        | none => simp
        | some q =>
          simp only [Array.getD_eq_getD_getElem?, hq, Option.getD_some] at hv
          have : q = undef := by generalize q = u at hv; cases hv; rfl
          simp [this, undef]
      · cases h

theorem step_sound {a : Act} {w : World} {s s' : RSt} {o : Oper} {ops : Array Oper} {dr : Bool} (h : Rel P B X w0 S0 pa n a w s) (hd : dstOK n o = true) (hs : AStep P dr ops s o s')
    {K : Act → World → Prop} {Q : Exit → Act → World → Prop} (hK : ∀ a' w', Rel P B X w0 S0 pa n a' w' s' → K a' w') :
    if Region.wanted o (yielded ops a.tmps) then o.wp P a w K Q else K (a.put o.dst undef) w := by
  obtain ⟨E, rfl, hwi, hv, hde, hn, hpa⟩ := h
  have hdst : ∀ d, o.dst = some d → d < a.tmps.size := by
    intro d hd'
    rw [dstOK, hd'] at hd
    rw [hn]
    simpa using hd
  have hput : ∀ v, (a.put o.dst v).defers = [] ∧ (a.put o.dst v).tmps.size = n := by
    intro v
    cases o.dst <;> simp [Act.put, hde, hn]
  rcases hs with ⟨hw, f, hay, rfl⟩ | ⟨hw, rfl⟩
  · rw [if_pos (wanted_sound hv hw)]
    exact ay_sound hwi hv hdst hay fun E' v h0 h1 h2 => hK _ _ ⟨E', rfl, h1, h2, (hput v).1, (hput v).2, fun l b hl => ⟨(h0.A l (hpa l b hl).1).1, (h0.A l (hpa l b hl).1).2.trans (hpa l b hl).2⟩⟩
  · rw [wanted_sound hv hw]
    simp only [Bool.false_eq_true, if_false]
    refine hK _ _ ⟨E, rfl, ?_, act_put hv (Env.le.refl E) .und hdst, (hput _).1, (hput _).2, hpa⟩
    simp only [RSt.app, memAll, Nat.or_zero]
    exact ⟨hwi.fr, hwi.hB, hwi.s0, hwi.sNew, hwi.slt, hwi.hA, hwi.loc, hwi.locne, hwi.own, hwi.ownne, hwi.new, hwi.deadn, hwi.deado⟩

theorem aops_sound {Q : Exit → Act → World → Prop} {K : RSt → Prop} {ops : Array Oper} {dr : Bool} (hK : ∀ a' w' s', Rel P B X w0 S0 pa n a' w' s' → K s' → Q .normal a' w') :
    ∀ (l : List Oper) (a : Act) (w : World) (s : RSt), l.all (dstOK n) = true → Rel P B X w0 S0 pa n a w s → aops P dr ops K l s → wpList P ops Q l a w
  | [], a, w, s, _, hr, h => hK a w s hr h
  | o :: l, a, w, s, hd, hr, ⟨s', hs, h⟩ => by
    simp only [List.all_cons, Bool.and_eq_true] at hd
    have := step_sound (Q := Q) hr hd.1 hs (K := wpList P ops Q l) (fun a' w' hr' => aops_sound hK l a' w' s' hd.2 hr' h)
    unfold wpList
    split
    · rename_i hw; rw [if_pos hw] at this; exact .inl this
    · rename_i hw; rw [if_neg hw] at this; exact this

theorem region_sound {Q : Exit → Act → World → Prop} {K : St → Prop} {id : Nat} {ops : Array Oper} {a : Act} {w : World} {s : St} (hd : ops.toList.all (dstOK n) = true) (hr : Rel P B X w0 S0 pa n a w s.R)
    (h : aops P false ops (fun r => K r.fin) ops.toList s.R) (hK : ∀ a' w' s', Rel P B X w0 S0 pa n a' w' s'.R → K s' → Q .normal a' w') : (Code.region id ops false).wp P Q a w :=
  wp_region_list (aops_sound (K := fun r => K r.fin) (fun a' w' s' h1 h2 => hK a' w' _ (rel_fin h1) h2) ops.toList a w s.R hd hr h)
end

end Go.Rb
