/-
  What is proved: how states are reckoned: rows of equations, loops by what a round writes, tests that part the way. Conditions: none.
-/
import Derived.Test.YtoihccclnkhmaaaEngT
set_option linter.unusedVariables false
set_option linter.unusedSimpArgs false
set_option maxRecDepth 4000
namespace Go.Rb

theorem le24 {n : Nat} (h : n ≤ 16777216) : (n ≤ 2 ^ 24) = True := eq_true h
theorem tb_pow (n m : Nat) : (2 ^ n).testBit m = decide (n = m) := by rw [Nat.testBit_two_pow]
theorem tb_zero (m : Nat) : Nat.testBit 0 m = false := Nat.zero_testBit m
theorem mask_pow (x k : Nat) : (x &&& 2 ^ k = 0) = (x.testBit k = false) := by
  apply propext
  constructor
  · intro h
    have h1 : (x &&& 2 ^ k).testBit k = false := by rw [h]; simp
    simpa [Nat.testBit_and, Nat.testBit_two_pow_self] using h1
  · intro h
    apply Nat.eq_of_testBit_eq
    intro i
    rw [Nat.testBit_and, Nat.testBit_two_pow, Nat.zero_testBit]
    by_cases hi : k = i
    · subst hi; simp [h]
    · simp [hi]
theorem mask_zero (x : Nat) : (x &&& 0 = 0) = True := by simp
theorem tb_eq (m n : Nat) : m.testBit n = ((m >>> n) % 2 == 1) := by
  rw [Nat.testBit, Nat.one_and_eq_mod_two]
  rcases Nat.mod_two_eq_zero_or_one (m >>> n) with h | h <;> rw [h] <;> rfl

section
variable {P : Program}

theorem awp_loopW {c : Code} {Q : Exit → St → Prop} {s : St} {W M : List Nat} (hW : dsts c = W) (hM : allocs c = M) (I : Nat → St → Prop) (k0 : Nat) (h0 : I k0 (s.cut W M))
    (hr : ∀ k s', (∀ i, W.contains i = false → (s.t i).na = true → s'.t i = vk (inM M) (s.t i)) → I k s' → ∀ K : St → Prop, (∀ s'' k', k' < k → I k' (s''.cut W M) → K s'') → awp P c (thenA K Q) s') :
    awp P (.loop c) Q s := by
  subst hW hM
  exact awp_loop I k0 h0 hr

theorem aops_orunN {dr : Bool} {ops : Array Oper} {K : RSt → Prop} (n : Nat) : ∀ (l : List Oper) (s : RSt), aops P dr ops K ((orun P ops (l.take n) s).2 ++ l.drop n) (orun P ops (l.take n) s).1 → aops P dr ops K l s := by
  induction n with
  | zero => intro l s h; simpa [orun] using h
  | succ n ih =>
    intro l s h
    cases l with
    | nil => simpa [orun] using h
    | cons o l =>
      simp only [List.take_succ_cons, List.drop_succ_cons] at h
      rw [orun] at h
      split at h
      · rename_i hw
        split at h
        · rename_i s' hs
          obtain ⟨f, h1, h2⟩ := ostep_sound (dr := dr) hs
          exact .inl ⟨s', .inl ⟨hw, f, h1, h2⟩, ih l s' h⟩
        · rename_i hs
          simp only [List.cons_append, List.take_append_drop] at h
          exact h
      · rename_i hw
        exact .inl ⟨_, .inr ⟨hw, by simp [RSt.app, memAll]⟩, ih l _ h⟩
      · simp only [List.cons_append, List.take_append_drop] at h
        exact h

/-- A test parts the way. -/
theorem part_bool {p : Prop} {b : Bool} (h1 : b = true → p) (h2 : b = false → p) : p := by
  cases b
  · exact h2 rfl
  · exact h1 rfl

theorem awp_block {id : Nat} {c : Code} {Q : Exit → St → Prop} {s : St} (h : awp P c (blockA id Q) s) : awp P (.block id c) Q s := h
theorem awp_exit {id : Nat} {Q : Exit → St → Prop} {s : St} (h : Q (.exit id) s) : awp P (.exit id) Q s := h
theorem awp_ret {Q : Exit → St → Prop} {s : St} (h : Q .ret s) : awp P .ret Q s := h
theorem awp_skip {Q : Exit → St → Prop} {s : St} (h : Q .normal s) : awp P .skip Q s := h

/-! ### Results that are to be shown alike -/
theorem wkR_cc {A : Nat → Prop} {R : Nat} {x y : C} (h : x = y) : WkR P A R (.c x) (.c y) := h ▸ wkR_c
theorem wkR_int {A : Nat → Prop} {R : Nat} {k : IntKind} {x y : Int} (h : x = y) : WkR P A R (.c (.int k x)) (.c (.int k y)) := h ▸ wkR_c
theorem wkR_bool {A : Nat → Prop} {R : Nat} {x y : Bool} (h : x = y) : WkR P A R (.c (.bool x)) (.c (.bool y)) := h ▸ wkR_c
theorem wkR_sl {A : Nat → Prop} {R : Nat} {e : TypeId} {x y : List (List C)} (h : x = y) : WkR P A R (.c (.sl e x)) (.c (.sl e y)) := h ▸ wkR_c
theorem wkR_osl {A : Nat → Prop} {R : Nat} {nw : Bool} {id : Nat} {e : TypeId} {x y : List (List C)} (h : x = y) : WkR P A R (.own nw id e x) (.c (.sl e y)) := h ▸ wkR_ownc
theorem wkR_nsl {A : Nat → Prop} {R : Nat} {e : TypeId} {y : List (List C)} (h : [] = y) : WkR P A R .nils (.c (.sl e y)) := h ▸ wkR_nilsc
theorem wkR_oo {A : Nat → Prop} {R : Nat} {e : TypeId} {x y : List (List C)} (h : x = y) : WkR P A R (.own false R e x) (.own false 0 e y) := h ▸ wkR_own
theorem wkR_no {A : Nat → Prop} {R : Nat} {e : TypeId} {y : List (List C)} (h : [] = y) : WkR P A R .nils (.own false 0 e y) := h ▸ wkR_nilsown

/-! ### Rows of equations -/
theorem rk_state : (∀ (t : Nat → AV) (d : Nat) (v : AV) (i : Nat), setT t d v i = if i = d then v else t i) ∧ (∀ (m : Nat → List AV) (d : Nat) (v : List AV) (i : Nat), setM m d v i = if i = d then v else m i) ∧
    (∀ (t : Nat → AV) (d : Nat) (v : AV), putT t (some d) v = setT t d v) ∧ (∀ (t : Nat → AV) (v : AV), putT t none v = t) ∧
    (∀ (t : Nat → AV) (m : Nat → List AV) (p xo xn : Nat), (RSt.mk t m p xo xn).fin = if p = 0 ∧ xo = 0 ∧ xn = 0 then ⟨t, m⟩ else ⟨fun i => fin3 p xo xn (t i), fun l => (m l).map (fin1 p xo xn)⟩) ∧
    (∀ (t : Nat → AV) (i : Nat), evO t (.tmp i) = t i) ∧ (∀ (t : Nat → AV) (v : Value), evO t (.const v) = cv v) ∧ (∀ (t : Nat → AV) (f : FuncId), evO t (.func f) = .fn f []) ∧
    (∀ (K : St → Prop) (Q : Exit → St → Prop) (s : St), thenA K Q .normal s = K s) ∧ (∀ (K : St → Prop) (Q : Exit → St → Prop) (s : St), thenA K Q .ret s = Q .ret s) ∧
    (∀ (K : St → Prop) (Q : Exit → St → Prop) (i : Nat) (s : St), thenA K Q (.exit i) s = Q (.exit i) s) ∧ (∀ (Q : Exit → St → Prop) (i : Nat) (s : St), blockA i Q .normal s = Q .normal s) ∧
    (∀ (Q : Exit → St → Prop) (i : Nat) (s : St), blockA i Q .ret s = Q .ret s) ∧ (∀ (Q : Exit → St → Prop) (i j : Nat) (s : St), blockA i Q (.exit j) s = if j = i then Q .normal s else Q (.exit j) s) := by
  refine ⟨fun _ _ _ _ => rfl, fun _ _ _ _ => rfl, fun _ _ _ => rfl, fun _ _ => rfl, fun _ _ _ _ _ => rfl, fun _ _ => rfl, fun _ _ => rfl, fun _ _ => rfl, fun _ _ _ => rfl, fun _ _ _ => rfl, fun _ _ _ _ => rfl, fun _ _ _ => rfl, fun _ _ _ => rfl, fun _ _ _ _ => rfl⟩

theorem rk_ops : (∀ (T : TypeId) (k : IntKind) (a b : Int), ybin P .add T (.c (.int k a)) (.c (.int k b)) = some (.c (.int k (k.wrap (a + b))))) ∧
    (∀ (T : TypeId) (k : IntKind) (a b : Int), ybin P .sub T (.c (.int k a)) (.c (.int k b)) = some (.c (.int k (k.wrap (a - b))))) ∧
    (∀ (T : TypeId) (k : IntKind) (a b : Int), ybin P .mul T (.c (.int k a)) (.c (.int k b)) = some (.c (.int k (k.wrap (a * b))))) ∧
    (∀ (T : TypeId) (k : IntKind) (a b : Int), ybin P .eql T (.c (.int k a)) (.c (.int k b)) = some (.c (.bool (a == b)))) ∧
    (∀ (T : TypeId) (k : IntKind) (a b : Int), ybin P .neq T (.c (.int k a)) (.c (.int k b)) = some (.c (.bool (a != b)))) ∧
    (∀ (T : TypeId) (k : IntKind) (a b : Int), ybin P .lss T (.c (.int k a)) (.c (.int k b)) = some (.c (.bool (decide (a < b))))) ∧
    (∀ (T : TypeId) (k : IntKind) (a b : Int), ybin P .leq T (.c (.int k a)) (.c (.int k b)) = some (.c (.bool (decide (a ≤ b))))) ∧
    (∀ (T : TypeId) (k : IntKind) (a b : Int), ybin P .gtr T (.c (.int k a)) (.c (.int k b)) = some (.c (.bool (decide (a > b))))) ∧
    (∀ (T : TypeId) (k : IntKind) (a b : Int), ybin P .geq T (.c (.int k a)) (.c (.int k b)) = some (.c (.bool (decide (a ≥ b))))) := by
  refine ⟨?_, ?_, ?_, ?_, ?_, ?_, ?_, ?_, ?_⟩
  all_goals intros
  all_goals simp [ybin, iop, isShift]

theorem rk_pure : (∀ (b : Bool), yun .not (.c (.bool b)) = some (.c (.bool (!b)))) ∧ (∀ (k : IntKind) (n : Int), yun .neg (.c (.int k n)) = some (.c (.int k (k.wrap (0 - n))))) ∧
    (∀ (k : IntKind) (n : Int), cv (.int k n) = .c (.int k n)) ∧ (∀ (b : Bool), cv (.bool b) = .c (.bool b)) ∧ (∀ (b : ByteArray), cv (.string b) = .c (.str b)) ∧ cv (.slice none 0 0) = .nils ∧
    (∀ (k k' : IntKind) (x y : Int), ymm true (.c (.int k x)) (.c (.int k' y)) = some (.c (.int k (min x y)))) ∧ (∀ (k k' : IntKind) (x y : Int), ymm false (.c (.int k x)) (.c (.int k' y)) = some (.c (.int k (max x y)))) := by
  refine ⟨fun _ => rfl, fun _ _ => rfl, fun _ _ => rfl, fun _ => rfl, fun _ => rfl, rfl, ?_, ?_⟩
  all_goals intros
  all_goals (simp only [ymm, if_true, Bool.false_eq_true, if_false]; congr 3; omega)

/-- Quotients, remainders, shifts by what isn't 0, or not below it. -/
theorem rk_quo {T : TypeId} {k : IntKind} {a b : Int} (h : (b == 0) = false) : ybin P .quo T (.c (.int k a)) (.c (.int k b)) = some (.c (.int k (k.wrap (a.tdiv b)))) := by
  have : b ≠ 0 := by simpa using h
  simp [ybin, iop, isShift, this]
theorem rk_rem {T : TypeId} {k : IntKind} {a b : Int} (h : (b == 0) = false) : ybin P .rem T (.c (.int k a)) (.c (.int k b)) = some (.c (.int k (a.tmod b))) := by
  have : b ≠ 0 := by simpa using h
  simp [ybin, iop, isShift, this]
theorem rk_shl {T : TypeId} {k k' : IntKind} {a b : Int} (h : decide (b < 0) = false) : ybin P .shl T (.c (.int k a)) (.c (.int k' b)) = some (.c (.int k (k.wrap (a * 2 ^ min b.toNat k.bits)))) := by
  have : ¬ b < 0 := by simpa using h
  simp [ybin, iop, isShift, this]
theorem rk_shr {T : TypeId} {k k' : IntKind} {a b : Int} (h : decide (b < 0) = false) : ybin P .shr T (.c (.int k a)) (.c (.int k' b)) = some (.c (.int k (a.fdiv (2 ^ min b.toNat k.bits)))) := by
  have : ¬ b < 0 := by simpa using h
  simp [ybin, iop, isShift, this]
end

end Go.Rb
