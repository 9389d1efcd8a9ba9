/-
  What is proved: rules by which a body's state is reckoned. Conditions: none.
-/
import Derived.Test.YtoihccclnkhmaaaEngO
set_option linter.unusedVariables false
set_option linter.unusedSimpArgs false
set_option maxRecDepth 4000
namespace Go.Rb

section
variable {P : Program}

theorem awp_seq_k {a b : Code} {Q : Exit → St → Prop} {s : St} (h : ∀ K : St → Prop, (∀ s, awp P b Q s → K s) → awp P a (thenA K Q) s) : awp P (.seq a b) Q s :=
  h _ fun _ h => h

theorem awp_region {id : Nat} {ops : Array Oper} {dr : Bool} {Q : Exit → St → Prop} {s : St} (hd : dr = true → drOK P ops = true)
    (h : ∀ K : RSt → Prop, (∀ r, Q .normal r.fin → K r) → aops P dr ops K ops.toList s.R) : awp P (.region id ops dr) Q s := .inl ⟨hd, h _ fun r h => ⟨_, .refl _, h⟩⟩

theorem awp_region_lit {id : Nat} {l : List Oper} {Q : Exit → St → Prop} {s : St}
    (h : ∀ K : RSt → Prop, (∀ r, Q .normal r.fin → K r) → aops P false l.toArray K l s.R) : awp P (.region id l.toArray false) Q s := .inl ⟨(fun h => by cases h), h _ fun r h => ⟨_, .refl _, h⟩⟩

theorem awp_region_dr {id : Nat} {l : List Oper} {Q : Exit → St → Prop} {s : St} (hd : drOK P l.toArray = true)
    (h : ∀ K : RSt → Prop, (∀ r, Q .normal r.fin → K r) → aops P true l.toArray K l s.R) : awp P (.region id l.toArray true) Q s := .inl ⟨fun _ => hd, h _ fun r h => ⟨_, .refl _, h⟩⟩

/-- A region at whose end arrays are frozen or forgotten. -/
theorem awp_region_gh {id : Nat} {l : List Oper} {Q : Exit → St → Prop} {s : St}
    (h : ∀ K : RSt → Prop, (∀ r s', Gh P r.fin s' → Q .normal s' → K r) → aops P false l.toArray K l s.R) : awp P (.region id l.toArray false) Q s := .inl ⟨(fun h => by cases h), h _ fun r s' hg h => ⟨_, hg, h⟩⟩
theorem awp_region_ghd {id : Nat} {l : List Oper} {Q : Exit → St → Prop} {s : St} (hd : drOK P l.toArray = true)
    (h : ∀ K : RSt → Prop, (∀ r s', Gh P r.fin s' → Q .normal s' → K r) → aops P true l.toArray K l s.R) : awp P (.region id l.toArray true) Q s := .inl ⟨fun _ => hd, h _ fun r s' hg h => ⟨_, hg, h⟩⟩

/-- What is claimed of pointers, as a list. -/
def kapL (L : List (Nat × Option Nat)) : Nat → Option (Option Nat) := fun i => L.lookup i

theorem cl_kapL {L : List (Nat × Option Nat)} {t : Nat → AV} (h : L.all (fun p => match (t p.1).tb with | none => true | some l => p.2 == some l) = true) : Cl (kapL L) t := by
  intro i q hq l hl
  have hm : (i, q) ∈ L := by
    unfold kapL at hq
    induction L with
    | nil => cases hq
    | cons p L ih =>
      rw [List.lookup_cons] at hq
      split at hq
      · rename_i he
        cases hq
        have : i = p.1 := by simpa using he
        subst this
        exact List.mem_cons_self
      · simp only [List.all_cons, Bool.and_eq_true] at h
        exact List.mem_cons_of_mem _ (ih h.2 hq)
  have := List.all_eq_true.1 h _ hm
  simp only [hl] at this
  simpa using this

/-- A region that draws, with claims on its pointers. -/
theorem awp_region_drk {id : Nat} {l : List Oper} {Q : Exit → St → Prop} {s : St} (L : List (Nat × Option Nat)) (F : List Nat) (hd : drK P l.toArray (kapL L) = true) (hF : (F.all fun i => (dstsOps l).contains i) = true)
    (hc : L.all (fun p => match (forget F s.t p.1).tb with | none => true | some l => p.2 == some l) = true)
    (h : ∀ K : RSt → Prop, (∀ r, Q .normal r.fin → K r) → aops P true l.toArray K l (St.R ⟨forget F s.t, s.m⟩)) : awp P (.region id l.toArray true) Q s := by
  refine .inr ⟨rfl, kapL L, F, hd, fun i hi => ?_, cl_kapL hc, h _ fun r h => ⟨_, .refl _, h⟩⟩
  have := List.all_eq_true.1 hF i (by simpa using hi)
  simpa using this

theorem awp_cond {c : Operand} {a b : Code} {Q : Exit → St → Prop} {s : St} {t : Bool} (hc : evO s.t c = .c (.bool t)) (ha : t = true → awp P a Q s) (hb : t = false → awp P b Q s) : awp P (.cond c a b) Q s := ⟨t, hc, ha, hb⟩

theorem awp_loop {c : Code} {Q : Exit → St → Prop} {s : St} (I : Nat → St → Prop) (k0 : Nat) (h0 : I k0 (s.cut (dsts c) (allocs c)))
    (hr : ∀ k s', (∀ i, (dsts c).contains i = false → (s.t i).na = true → s'.t i = vk (inM (allocs c)) (s.t i)) → I k s' → ∀ K : St → Prop, (∀ s'' k', k' < k → I k' (s''.cut (dsts c) (allocs c)) → K s'') → awp P c (thenA K Q) s') :
    awp P (.loop c) Q s := ⟨I, k0, h0, fun k s' hf hI => hr k s' hf hI _ fun s'' k' h1 h2 => ⟨k', h1, h2⟩⟩

/-- One operation that needs nothing from outside. -/
def ostep (P : Program) (s : RSt) (o : Oper) : Option RSt :=
  match o.op with
  | .alloc e => match o.dst, zc P e with
    | some d, some z => if (s.m d).isEmpty && !z.isEmpty then some { s with t := setT s.t d (.ptr d 0), m := setM s.m d z } else none
    | _, _ => none
  | .box _ x => match o.dst, (evO s.t x).cells with
    | some d, some z => if (s.m d).isEmpty && !z.isEmpty then some { s with t := setT s.t d (.ptr d 0), m := setM s.m d z } else none
    | _, _ => none
  | .store ty a x => match evO s.t a, (evO s.t x).cells with
    | .ptr l off, some cs => if cs.length = P.cellsOf ty ∧ cs.isEmpty = false ∧ (P.info? ty).isSome = true ∧ off + cs.length ≤ (s.m l).length then some { s with t := putT s.t o.dst .und, m := setM s.m l (place (s.m l) off cs) } else none
    | _, _ => none
  | .buildSlice ty n ps => match ybs P ty n (ps.toList.map fun (i, x) => (i, evO s.t x)) with
    | some rows => some { s with t := putT s.t o.dst (.own false 0 (elemT P ty) rows) }
    | none => none
  | op => match yl P (evO s.t) s.m op with
    | some v => some { s with t := putT s.t o.dst v }
    | none => none

theorem ostep_sound {dr : Bool} {s s' : RSt} {o : Oper} (h : ostep P s o = some s') : ∃ f, AY P dr s.t s.m s.p s.xo s.xn o f ∧ s' = s.app o.dst f := by
  unfold ostep at h
  split at h
  · rename_i e he
    split at h
    · rename_i d z hd hz
      split at h
      · rename_i hc
        simp only [Bool.and_eq_true, List.isEmpty_iff, Bool.not_eq_true', List.isEmpty_eq_false_iff] at hc
        cases h
        refine ⟨{ v := .ptr d 0, mem := [(d, z)] }, .inr ?_, ?_⟩
        · unfold AYe; simp only [he]; exact ⟨d, z, hd, hz, hc.2, hc.1, rfl⟩
        · rw [hd]; simp [RSt.app, putT, memAll]
      · cases h
    · cases h
  · rename_i e x he
    split at h
    · rename_i d z hd hz
      split at h
      · rename_i hc
        simp only [Bool.and_eq_true, List.isEmpty_iff, Bool.not_eq_true', List.isEmpty_eq_false_iff] at hc
        cases h
        refine ⟨{ v := .ptr d 0, mem := [(d, z)] }, .inr ?_, ?_⟩
        · unfold AYe; simp only [he]; exact ⟨d, z, hd, hz, hc.2, hc.1, rfl⟩
        · rw [hd]; simp [RSt.app, putT, memAll]
      · cases h
    · cases h
  · rename_i ty a x he
    split at h
    · rename_i l off cs ha hx
      split at h
      · rename_i hc
        obtain ⟨h1, h2, h3, h4⟩ := hc
        cases h
        refine ⟨{ v := .und, mem := [(l, place (s.m l) off cs)] }, .inr ?_, ?_⟩
        · unfold AYe; simp only [he]; exact ⟨l, off, cs, ha, hx, h1, by simpa using h2, h3, h4, rfl⟩
        · simp [RSt.app, memAll]
      · cases h
    · cases h
  · rename_i ty n ps he
    split at h
    · rename_i rows hr
      cases h
      refine ⟨{ v := .own false 0 (elemT P ty) rows }, .inr ?_, ?_⟩
      · unfold AYe; simp only [he]; exact ⟨rows, hr, rfl⟩
      · simp [RSt.app, memAll]
    · cases h
  · split at h
    · rename_i v hv
      cases h
      exact ⟨{ v := v }, .inl ⟨v, hv, rfl⟩, by simp [RSt.app, memAll]⟩
    · cases h

/-- As far as operations need nothing from outside. -/
def orun (P : Program) (ops : Array Oper) : List Oper → RSt → RSt × List Oper
  | [], s => (s, [])
  | o :: l, s =>
    match wantedA s.t ops o with
    | some true => match ostep P s o with
      | some s' => orun P ops l s'
      | none => (s, o :: l)
    | some false => orun P ops l { s with t := putT s.t o.dst .und }
    | none => (s, o :: l)

theorem aops_orun {dr : Bool} {ops : Array Oper} {K : RSt → Prop} : ∀ (l : List Oper) (s : RSt), aops P dr ops K (orun P ops l s).2 (orun P ops l s).1 → aops P dr ops K l s
  | [], s, h => h
  | o :: l, s, h => by
    rw [orun] at h
    split at h
    · rename_i hw
      split at h
      · rename_i s' hs
        obtain ⟨f, h1, h2⟩ := ostep_sound (dr := dr) hs
        exact .inl ⟨s', .inl ⟨hw, f, h1, h2⟩, aops_orun l s' h⟩
      · exact h
    · rename_i hw
      exact .inl ⟨_, .inr ⟨hw, by simp [RSt.app, memAll]⟩, aops_orun l _ h⟩
    · exact h

theorem aops_nil {dr : Bool} {ops : Array Oper} {K : RSt → Prop} {s : RSt} (h : K s) : aops P dr ops K [] s := h

/-! ### Reckoning -/
theorem setT_app (t : Nat → AV) (d : Nat) (v : AV) (i : Nat) : setT t d v i = if i = d then v else t i := rfl
theorem setM_app (m : Nat → List AV) (d : Nat) (v : List AV) (i : Nat) : setM m d v i = if i = d then v else m i := rfl
theorem putT_some (t : Nat → AV) (d : Nat) (v : AV) : putT t (some d) v = setT t d v := rfl
theorem putT_none (t : Nat → AV) (v : AV) : putT t none v = t := rfl
theorem fin_zero (t : Nat → AV) (m : Nat → List AV) : (RSt.mk t m 0 0 0).fin = ⟨t, m⟩ := by simp [RSt.fin]
theorem evO_tmp (t : Nat → AV) (i : Nat) : evO t (.tmp i) = t i := rfl
theorem evO_const (t : Nat → AV) (v : Value) : evO t (.const v) = cv v := rfl
theorem evO_func (t : Nat → AV) (f : FuncId) : evO t (.func f) = .fn f [] := rfl
end

end Go.Rb
