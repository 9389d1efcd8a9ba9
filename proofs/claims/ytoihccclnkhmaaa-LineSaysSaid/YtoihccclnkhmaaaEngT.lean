/-
  What is proved: rules by which calls, appends and struct comparisons are reckoned, and what may be handed on as what. Conditions: none.
-/
import Derived.Test.YtoihccclnkhmaaaEngQ
set_option linter.unusedVariables false
set_option linter.unusedSimpArgs false
set_option maxRecDepth 4000
namespace Go.Rb

section
variable {P : Program}

/-! ### Handing on -/
theorem wk_c {A : Nat → Prop} {x : C} : Wk P A (.c x) (.c x) := by
  intro E v _ h
  have h1 := vr_c_inv h
  exact .c _ _ h1

theorem wk_any {A : Nat → Prop} {x : AV} : Wk P A x .any := fun _ _ _ _ => .any _

theorem wk_nils {A : Nat → Prop} : Wk P A .nils .nils := by
  intro E v _ h
  cases h
  exact .nils

theorem wk_nilsc {A : Nat → Prop} {e : TypeId} : Wk P A .nils (.c (.sl e [])) := by
  intro E v _ h
  cases h
  exact .c _ _ (.emp _ _ _)

theorem wk_ownc {A : Nat → Prop} {nw : Bool} {id : Nat} {e : TypeId} {rows : List (List C)} : Wk P A (.own nw id e rows) (.c (.sl e rows)) := by
  intro E v _ h
  cases h with
  | own _ _ _ _ _ h _ => exact .c _ _ h

theorem wk_ptr {A : Nat → Prop} {l off : Nat} (hl : A l) : Wk P A (.ptr l off) (.ptr l off) := by
  intro E v hA h
  cases h
  exact .ptr l off hl

theorem wk_fn {A : Nat → Prop} {f : FuncId} : Wk P A (.fn f []) (.fn f []) := by
  intro E v hA h
  cases h with
  | fn f cs caps hn h => exact .fn f cs [] hn (by simp)

theorem wk_fnL {A : Nat → Prop} {f : FuncId} {xs ys : List AV} (h : WkL P A xs ys) : Wk P A (.fn f xs) (.fn f ys) := by
  intro E v hA hv
  cases hv with
  | fn f cs caps hn hr =>
    obtain ⟨h1, h2⟩ := wkL_get h
    refine .fn f cs ys (by omega) fun i v y hi hy => ?_
    have hx : i < xs.length := by rw [h1]; exact (List.getElem?_eq_some_iff.1 hy).1
    exact h2 i _ y (List.getElem?_eq_getElem hx) hy E v hA (hr i v _ hi (List.getElem?_eq_getElem hx))

theorem wk_agg {A : Nat → Prop} {xs ys : List AV} (h : WkL P A xs ys) : Wk P A (.agg xs) (.agg ys) := by
  intro E v hA hv
  cases hv with
  | agg vs _ hn h1 hr =>
    obtain ⟨h2, h3⟩ := wkL_get h
    refine .agg vs ys (by omega) h1 fun i v y hi hy => ?_
    have hx : i < xs.length := by rw [h2]; exact (List.getElem?_eq_some_iff.1 hy).1
    exact h3 i _ y (List.getElem?_eq_getElem hx) hy E v hA (hr i v _ hi (List.getElem?_eq_getElem hx))

theorem wkL_self_c {A : Nat → Prop} : ∀ (xs : List C), WkL P A (xs.map .c) (xs.map .c)
  | [] => .nil
  | _ :: xs => .cons wk_c (wkL_self_c xs)

/-! ### Handing back -/
theorem wkR_c {A : Nat → Prop} {R : Nat} {x : C} : WkR P A R (.c x) (.c x) := by
  intro E v _ _ h
  have h1 := vr_c_inv h
  exact .c _ _ h1

theorem wkR_any {A : Nat → Prop} {R : Nat} {x : AV} : WkR P A R x .any := fun _ _ _ _ _ => .any _

theorem wkR_nils {A : Nat → Prop} {R : Nat} : WkR P A R .nils .nils := by
  intro E v _ _ h
  cases h
  exact .nils

theorem wkR_nilsc {A : Nat → Prop} {R : Nat} {e : TypeId} : WkR P A R .nils (.c (.sl e [])) := by
  intro E v _ _ h
  cases h
  exact .c _ _ (.emp _ _ _)

theorem wkR_nilsown {A : Nat → Prop} {R : Nat} {e : TypeId} : WkR P A R .nils (.own false 0 e []) := by
  intro E v _ _ h
  cases h
  exact .own _ _ _ _ _ (.emp _ _ _) (.inl ⟨_, _, rfl⟩)

theorem wkR_ownc {A : Nat → Prop} {R : Nat} {nw : Bool} {id : Nat} {e : TypeId} {rows : List (List C)} : WkR P A R (.own nw id e rows) (.c (.sl e rows)) := by
  intro E v _ _ h
  cases h with
  | own _ _ _ _ _ h _ => exact .c _ _ h

theorem wkR_own {A : Nat → Prop} {R : Nat} {e : TypeId} {rows : List (List C)} : WkR P A R (.own false R e rows) (.own false 0 e rows) := by
  intro E v hd _ h
  cases h with
  | own _ _ _ _ _ h ho =>
    refine .own _ _ _ _ _ h ?_
    rcases ho with ho | ho | ho
    · exact .inl ho
    · exact absurd ho (hd _ _)
    · exact .inr (.inr (by simpa using ho))

theorem wkR_ptr {A : Nat → Prop} {R l off : Nat} (hl : A l) : WkR P A R (.ptr l off) (.ptr l off) := by
  intro E v _ hA h
  cases h
  exact .ptr l off hl

theorem wkR_fn {A : Nat → Prop} {R : Nat} {f : FuncId} : WkR P A R (.fn f []) (.fn f []) := by
  intro E v _ _ h
  cases h with
  | fn f cs caps hn h => exact .fn f cs [] hn (by simp)

inductive WkRL (P : Program) (A : Nat → Prop) (R : Nat) : List AV → List AV → Prop where
  | nil : WkRL P A R [] []
  | cons {x y : AV} {xs ys : List AV} (h : WkR P A R x y) (t : WkRL P A R xs ys) : WkRL P A R (x :: xs) (y :: ys)

theorem wkRL_get {A : Nat → Prop} {R : Nat} : ∀ {xs ys : List AV}, WkRL P A R xs ys → xs.length = ys.length ∧ ∀ (i : Nat) (x y : AV), xs[i]? = some x → ys[i]? = some y → WkR P A R x y
  | _, _, .nil => ⟨rfl, by simp⟩
  | _, _, .cons h t => by
    obtain ⟨h1, h2⟩ := wkRL_get t
    refine ⟨by simp [h1], fun i x y hx hy => ?_⟩
    cases i with
    | zero => simp at hx hy; subst hx hy; exact h
    | succ i => exact h2 i x y (by simpa using hx) (by simpa using hy)

theorem wkR_agg {A : Nat → Prop} {R : Nat} {xs ys : List AV} (h : WkRL P A R xs ys) : WkR P A R (.agg xs) (.agg ys) := by
  intro E v hd hA hv
  cases hv with
  | agg vs _ hn h1 hr =>
    obtain ⟨h2, h3⟩ := wkRL_get h
    refine .agg vs ys (by omega) h1 fun i v y hi hy => ?_
    have hx : i < xs.length := by rw [h2]; exact (List.getElem?_eq_some_iff.1 hy).1
    exact h3 i _ y (List.getElem?_eq_getElem hx) hy E v hd hA (hr i v _ hi (List.getElem?_eq_getElem hx))

theorem wkR_tup {A : Nat → Prop} {R : Nat} {xs ys : List AV} (h : WkRL P A R xs ys) : WkR P A R (.tup xs) (.tup ys) := by
  intro E v hd hA hv
  cases hv with
  | tup vs _ hn hr =>
    obtain ⟨h2, h3⟩ := wkRL_get h
    refine .tup vs ys (by omega) fun i v y hi hy => ?_
    have hx : i < xs.length := by rw [h2]; exact (List.getElem?_eq_some_iff.1 hy).1
    exact h3 i _ y (List.getElem?_eq_getElem hx) hy E v hd hA (hr i v _ hi (List.getElem?_eq_getElem hx))

/-! ### Operations that need something from outside -/
variable {dr : Bool} {ops : Array Oper} {K : RSt → Prop} {l : List Oper} {s : RSt} {o : Oper}

theorem aops_eff {f : Eff} (hw : wantedA s.t ops o = some true) (hf : AYe P dr s.t s.m s.p s.xo s.xn o f) (h : aops P dr ops K l (s.app o.dst f)) : aops P dr ops K (o :: l) s :=
  .inl ⟨_, .inl ⟨hw, f, .inr hf, rfl⟩, h⟩

/-- A call that hands back nothing of the callee's own. -/
theorem aops_call {c : Call} {g : Operand} {f : FuncId} {caps cargs : List AV} {r : AV} (hF : Fun P f cargs nomem r nomem) (hw : wantedA s.t ops o = some true) (ho : o.op = .call c) (hc : c.callee = .value g)
    (hg : evO s.t g = .fn f caps) (ha : WkL P (fun _ => False) (c.args.toList.map (evO s.t) ++ caps) cargs) (hno : r.noOwn = true) (hp : r.ptrs = [])
    (h : aops P dr ops K l { s with t := putT s.t o.dst r }) : aops P dr ops K (o :: l) s := by
  refine aops_eff (f := { v := r }) hw ?_ (by simpa [RSt.app, memAll] using h)
  unfold AYe
  simp only [ho, hc]
  exact ⟨f, caps, hg, .inl ⟨cargs, r, ha, hF, fun _ => hp, .inl ⟨hno, rfl⟩⟩⟩

/-- A call that hands back a slice of the callee's own. -/
theorem aops_call_own {c : Call} {g : Operand} {f : FuncId} {caps cargs : List AV} {r : AV} {d : Nat} (hF : Fun P f cargs nomem r nomem) (hw : wantedA s.t ops o = some true) (ho : o.op = .call c) (hc : c.callee = .value g)
    (hg : evO s.t g = .fn f caps) (ha : WkL P (fun _ => False) (c.args.toList.map (evO s.t) ++ caps) cargs) (hown : r.ownTop = true) (hp : r.ptrs = []) (hd : o.dst = some d) (hb : s.p.testBit d = false)
    (h : aops P dr ops K l { s with t := setT s.t d (r.setOwn d), p := s.p ||| 2 ^ d }) : aops P dr ops K (o :: l) s := by
  refine aops_eff (f := { v := r.setOwn d, p := 2 ^ d }) hw ?_ (by simpa [RSt.app, memAll, hd, putT] using h)
  unfold AYe
  simp only [ho, hc]
  exact ⟨f, caps, hg, .inl ⟨cargs, r, ha, hF, fun _ => hp, .inr ⟨d, hd, hown, hb, rfl⟩⟩⟩

/-- Append to a slice of one's own, or to nothing. -/
theorem aops_append {c : Call} {x y : Operand} {ty e : TypeId} {d : Nat} {rows new : List (List C)} (hw : wantedA s.t ops o = some true) (ho : o.op = .call c) (hc : c.callee = .builtin .append) (hd : o.dst = some d)
    (h1 : c.args = #[x, y]) (h2 : c.argTypes = #[ty, ty]) (hu : P.underlying ty = some (.slice e)) (hx : (evO s.t x).base e = some rows) (ho1 : s.xo &&& maskO (evO s.t x) = 0) (hn1 : s.xn &&& maskN (evO s.t x) = 0)
    (hb : s.p.testBit d = false) (hy : (evO s.t y).rows e = some new) (hz : (zc P e).map (·.length) = some (P.cellsOf e)) (hz0 : P.cellsOf e ≠ 0)
    (hsz : (rows.length + new.length) * P.bytesOf e ≤ 140737488355328) (hml : rows.length + new.length ≤ maxLen)
    (h : aops P dr ops K l { s with t := setT s.t d (.own true d e (rows ++ new)), p := s.p ||| 2 ^ d, xo := s.xo ||| maskO (evO s.t x), xn := s.xn ||| maskN (evO s.t x) }) : aops P dr ops K (o :: l) s := by
  refine aops_eff (f := { v := .own true d e (rows ++ new), p := 2 ^ d, xo := maskO (evO s.t x), xn := maskN (evO s.t x) }) hw ?_ (by simpa [RSt.app, memAll, hd, putT] using h)
  unfold AYe
  simp only [ho, hc]
  exact ⟨d, x, y, ty, e, rows, new, hd, h1, h2, hu, hx, ho1, hn1, hb, hy, hsz, hml, hz, hz0, rfl⟩

/-- Two structs of ints are held against each other. -/
theorem aops_eq {op : BinOp} {T : TypeId} {x y : Operand} {q : TypeId} {n : Nat} {xs ys : List Int} (hE : EqInts P T n) (hw : wantedA s.t ops o = some true) (ho : o.op = .binOp op T x y q) (hop : op = .eql ∨ op = .neq)
    (hx : (evO s.t x).ints = some xs) (hy : (evO s.t y).ints = some ys) (hn : xs.length = n) (hn' : ys.length = n)
    (h : aops P dr ops K l { s with t := putT s.t o.dst (.c (.bool (if op = .eql then decide (xs = ys) else !decide (xs = ys)))) }) : aops P dr ops K (o :: l) s := by
  refine aops_eff (f := { v := .c (.bool (if op = .eql then decide (xs = ys) else !decide (xs = ys))) }) hw ?_ (by simpa [RSt.app, memAll] using h)
  unfold AYe
  simp only [ho]
  exact ⟨hop, xs, ys, hx, hy, hn ▸ hE, by omega, rfl⟩
end

end Go.Rb
