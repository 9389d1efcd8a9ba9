/-
  What is proved: a region that draws its order does what its operations do in the order of the text. Conditions: none.
-/
import Derived.Test.YtoihccclnkhmaaaEngP
set_option linter.unusedVariables false
set_option linter.unusedSimpArgs false
set_option maxRecDepth 4000
namespace Go.Rb

def isStore (o : Oper) : Bool := match o.op with | .store .. => true | _ => false
def isNew (o : Oper) : Bool := match o.op with | .alloc _ | .box .. => true | _ => false
def touches (o : Oper) : Bool := match o.op with | .store .. | .load .. | .alloc _ | .box .. => true | _ => false

/-- The block to which a value points. -/
def AV.tb : AV → Option Nat
  | .ptr l _ => some l
  | .arr l _ _ _ _ => some l
  | _ => none

/-- What an operation may do to the local blocks, in a region that draws. -/
theorem ay_mem {P : Program} {t : Nat → AV} {m : Nat → List AV} {p xo xn : Nat} {o : Oper} {f : Eff} (hV : Valid t m) (h : AY P true t m p xo xn o f) :
    f.mem = [] ∨ (∃ d z, isNew o = true ∧ o.dst = some d ∧ m d = [] ∧ z ≠ [] ∧ f.mem = [(d, z)]) ∨ (∃ l cs, (isStore o = true ∧ ∃ ty a v, o.op = .store ty a v ∧ (evO t a).tb = some l) ∧ m l ≠ [] ∧ cs ≠ [] ∧ f.mem = [(l, cs)]) := by
  rcases h with ⟨v, _, rfl⟩ | h
  · exact .inl rfl
  · unfold AYe at h
    split at h
    · obtain ⟨_, xs, ys, _, _, _, _, rfl⟩ := h; exact .inl rfl
    · obtain ⟨rows, _, rfl⟩ := h; exact .inl rfl
    · rename_i e he
      obtain ⟨d, z, hd, _, hz, hm, rfl⟩ := h
      exact .inr (.inl ⟨d, z, by simp [isNew, he], hd, hm, hz, rfl⟩)
    · rename_i e x he
      obtain ⟨d, z, hd, _, hz, hm, rfl⟩ := h
      exact .inr (.inl ⟨d, z, by simp [isNew, he], hd, hm, hz, rfl⟩)
    · rename_i ty a x he
      obtain ⟨l, off, cs, ha, hx, _, hne, _, hfit, rfl⟩ := h
      have hml : m l ≠ [] := by
        intro h0
        rw [h0] at hfit
        simp at hfit
        exact hne hfit.2
      refine .inr (.inr ⟨l, _, ⟨by simp [isStore, he], ty, a, x, he, by rw [ha]; rfl⟩, hml, ?_, rfl⟩)
      intro h0
      have := place_length _ _ _ hfit
      rw [h0] at this
      exact hml (List.eq_nil_of_length_eq_zero this.symm)
    · split at h
      · obtain ⟨d, x, y, ty, e, rows, new, _, _, _, _, _, _, _, _, _, _, _, _, _, rfl⟩ := h; exact .inl rfl
      · obtain ⟨fid, caps, _, h⟩ := h
        rcases h with ⟨cargs, r, _, _, _, h⟩ | ⟨h, _⟩
        · rcases h with ⟨_, rfl⟩ | ⟨d, _, _, _, rfl⟩ <;> exact .inl rfl
        · cases h
      · exact h.elim
    · exact h.elim

/-- The marks that an operation uses were free. -/
theorem ay_masks {P : Program} {dr : Bool} {t : Nat → AV} {m : Nat → List AV} {p xo xn : Nat} {o : Oper} {f : Eff} (h : AY P dr t m p xo xn o f) : xo &&& f.xo = 0 ∧ xn &&& f.xn = 0 ∧ p &&& f.p = 0 := by
  have two : ∀ {d : Nat}, p.testBit d = false → p &&& 2 ^ d = 0 := by
    intro d hd
    apply Nat.eq_of_testBit_eq
    intro i
    simp only [Nat.testBit_and, Nat.zero_testBit, Nat.testBit_two_pow]
    by_cases h1 : d = i
    · subst h1; simp [hd]
    · simp [h1]
  rcases h with ⟨v, _, rfl⟩ | h
  · simp
  · unfold AYe at h
    split at h
    · obtain ⟨_, xs, ys, _, _, _, _, rfl⟩ := h; simp
    · obtain ⟨rows, _, rfl⟩ := h; simp
    · obtain ⟨d, z, hd, _, hz, hm, rfl⟩ := h; simp
    · obtain ⟨d, z, hd, _, hz, hm, rfl⟩ := h; simp
    · obtain ⟨l, off, cs, ha, hx, _, hne, _, hfit, rfl⟩ := h; simp
    · split at h
      · obtain ⟨d, x, y, ty, e, rows, new, _, _, _, _, _, h1, h2, h3, _, _, _, _, _, rfl⟩ := h; exact ⟨h1, h2, two h3⟩
      · obtain ⟨fid, caps, _, h⟩ := h
        rcases h with ⟨cargs, r, _, _, _, h⟩ | ⟨_, cargs, r, L, pm, pm', _, _, _, _, _, _, rfl⟩
        · rcases h with ⟨_, rfl⟩ | ⟨d, _, _, h3, rfl⟩
          · simp
          · exact ⟨by simp, by simp, two h3⟩
        · simp
      · exact h.elim
    · exact h.elim

theorem bit_of_and {p d : Nat} (h : p &&& 2 ^ d = 0) : p.testBit d = false := mask_bit h

theorem cycall_congr {P : Program} {e1 e2 : Operand → AV} (c : Call) (h : ∀ x ∈ c.operands, e2 x = e1 x) : ycall P e2 c = ycall P e1 c := by
  obtain ⟨callee, args, ts⟩ := c
  have ha : ∀ x, x ∈ args.toList → e2 x = e1 x := fun x hx => h x (by simp [Call.operands]; right; simpa using hx)
  unfold ycall
  split
  · split
    · rename_i x t hx ht; rw [ha x (by simp only at hx; rw [hx]; simp)]
    · rfl
  · split
    · rename_i x t hx ht; rw [ha x (by simp only at hx; rw [hx]; simp)]
    · rfl
  · split
    · rename_i x y hx; rw [ha x (by simp only at hx; rw [hx]; simp), ha y (by simp only at hx; rw [hx]; simp)]
    · rename_i x y z hx; rw [ha x (by simp only at hx; rw [hx]; simp), ha y (by simp only at hx; rw [hx]; simp), ha z (by simp only at hx; rw [hx]; simp)]
    · rfl
  · split
    · rename_i x y hx; rw [ha x (by simp only at hx; rw [hx]; simp), ha y (by simp only at hx; rw [hx]; simp)]
    · rfl
  · rfl

theorem yl_congr {P : Program} {e1 e2 : Operand → AV} {m1 m2 : Nat → List AV} {o : Oper} {v : AV} (he : ∀ x ∈ o.op.operands, e2 x = e1 x)
    (hm : touches o = true → ∀ x ∈ o.op.operands, ∀ l off, e1 x = .ptr l off → m2 l = m1 l) (h : yl P e1 m1 o.op = some v) : yl P e2 m2 o.op = some v := by
  obtain ⟨dst, op, ty, pos, after, guard⟩ := o
  simp only at he hm h ⊢
  cases op with
  | load t a =>
    have h1 := he a (by simp [Op.operands])
    have h2 := hm rfl a (by simp [Op.operands])
    simp only [yl] at h ⊢
    rw [h1]
    unfold yload at h ⊢
    cases hq : e1 a with
    | ptr l off => simp only [hq] at h ⊢; rw [h2 l off hq]; exact h
    | el xs => simp only [hq] at h ⊢; exact h
    | _ => simp [hq] at h
  | call c =>
    simp only [yl] at h ⊢
    rw [cycall_congr c (fun x hx => he x hx)]; exact h
  | build t ps =>
    simp only [yl] at h ⊢
    have : (ps.toList.map fun (i, x) => (i, e2 x)) = (ps.toList.map fun (i, x) => (i, e1 x)) := by
      apply List.map_congr_left
      rintro ⟨i, x⟩ hx
      show (i, e2 x) = (i, e1 x)
      rw [he x (by simp only [Op.operands, List.mem_toArray, List.mem_map]; exact ⟨_, hx, rfl⟩)]
    rw [this]; exact h
  | makeFunc f first caps =>
    cases f with
    | func f =>
      simp only [yl] at h ⊢
      have : caps.toList.map e2 = caps.toList.map e1 := by
        apply List.map_congr_left
        intro x hx
        exact he x (by simp only [Op.operands, Array.mem_append]; right; simpa using hx)
      rw [this]; exact h
    | _ => simp [yl] at h
  | slice t x lo hi mx =>
    simp only [yl] at h ⊢
    have hx := he x (by simp [Op.operands])
    have ho : ∀ (q : Option Operand), (∀ y ∈ q.toArray, e2 y = e1 y) → q.map e2 = q.map e1 := by
      intro q hq; cases q with
      | none => rfl
      | some y => simp [hq y (by simp)]
    rw [hx, ho lo fun y hy => he y (by simp only [Op.operands, Array.mem_append]; exact .inl (.inl (.inr hy))), ho hi fun y hy => he y (by simp only [Op.operands, Array.mem_append]; exact .inl (.inr hy)),
      ho mx fun y hy => he y (by simp only [Op.operands, Array.mem_append]; exact .inr hy)]
    exact h
  | pick c a b =>
    simp only [yl] at h ⊢
    rw [he c (by simp [Op.operands]), he a (by simp [Op.operands]), he b (by simp [Op.operands])]; exact h
  | binOp op T x y yt =>
    simp only [yl] at h ⊢
    rw [he x (by simp [Op.operands]), he y (by simp [Op.operands])]; exact h
  | indexAddr t x i =>
    simp only [yl] at h ⊢
    rw [he x (by simp [Op.operands]), he i (by simp [Op.operands])]; exact h
  | move x => simp only [yl] at h ⊢; rw [he x (by simp [Op.operands])]; exact h
  | assign x => simp only [yl] at h ⊢; rw [he x (by simp [Op.operands])]; exact h
  | unOp op T x => simp only [yl] at h ⊢; rw [he x (by simp [Op.operands])]; exact h
  | convert a b x => simp only [yl] at h ⊢; rw [he x (by simp [Op.operands])]; exact h
  | fieldAddr a x b => simp only [yl] at h ⊢; rw [he x (by simp [Op.operands])]; exact h
  | nilCheck x => simp only [yl] at h ⊢; rw [he x (by simp [Op.operands])]; exact h
  | extract x i => simp only [yl] at h ⊢; rw [he x (by simp [Op.operands])]; exact h
  | _ => simp [yl] at h

/-- An operation does the same where its operands, the blocks that it looks at and the marks that it uses are the same. -/
theorem ay_congr {P : Program} {t1 t2 : Nat → AV} {m1 m2 : Nat → List AV} {p xo xn p2 xo2 xn2 : Nat} {o : Oper} {f : Eff} (he : ∀ x ∈ o.op.operands, evO t2 x = evO t1 x)
    (hm : touches o = true → ∀ x ∈ o.op.operands, ∀ l off, evO t1 x = .ptr l off → m2 l = m1 l) (hn : isNew o = true → ∀ d, o.dst = some d → m1 d = [] → m2 d = [])
    (hx : xo2 &&& f.xo = 0) (hxn : xn2 &&& f.xn = 0) (hp : p2 &&& f.p = 0) (h : AY P true t1 m1 p xo xn o f) : AY P true t2 m2 p2 xo2 xn2 o f := by
  rcases h with ⟨v, hv, rfl⟩ | h
  · exact .inl ⟨v, yl_congr he hm hv, rfl⟩
  · right
    obtain ⟨dst, op, ty, pos, after, guard⟩ := o
    unfold AYe at h ⊢
    simp only at h he hm hn ⊢
    cases op with
    | binOp op T x y yt =>
      simp only at h ⊢
      rw [he x (by simp [Op.operands]), he y (by simp [Op.operands])]; exact h
    | buildSlice tt n ps =>
      simp only at h ⊢
      have : (ps.toList.map fun (i, x) => (i, evO t2 x)) = (ps.toList.map fun (i, x) => (i, evO t1 x)) := by
        apply List.map_congr_left
        rintro ⟨i, x⟩ hx
        show (i, evO t2 x) = (i, evO t1 x)
        rw [he x (by simp only [Op.operands, List.mem_toArray, List.mem_map]; exact ⟨_, hx, rfl⟩)]
      rw [this]; exact h
    | alloc e =>
      simp only at h ⊢
      obtain ⟨d, z, hd, hz, hne, hmd, rfl⟩ := h
      exact ⟨d, z, hd, hz, hne, hn rfl d hd hmd, rfl⟩
    | box e x =>
      simp only at h ⊢
      rw [he x (by simp [Op.operands])]
      obtain ⟨d, z, hd, hz, hne, hmd, rfl⟩ := h
      exact ⟨d, z, hd, hz, hne, hn rfl d hd hmd, rfl⟩
    | store tt a x =>
      simp only at h ⊢
      rw [he x (by simp [Op.operands]), he a (by simp [Op.operands])]
      obtain ⟨l, off, cs, ha, hcs, h1, h2, h3, h4, rfl⟩ := h
      have := hm rfl a (by simp [Op.operands]) l off ha
      exact ⟨l, off, cs, ha, hcs, h1, h2, h3, by rw [this]; exact h4, by rw [this]⟩
    | call c =>
      obtain ⟨callee, args, ts⟩ := c
      simp only at h ⊢
      cases callee with
      | builtin b =>
        cases b <;> simp only at h ⊢ <;> try exact h.elim
        obtain ⟨d, x, y, ty', e, rows, new, hd, ha, hts, hu, hb, h1, h2, h3, hr, hby, hmx, hz, hz0, rfl⟩ := h
        subst ha
        have ex : evO t2 x = evO t1 x := he x (by simp [Op.operands, Call.operands])
        have ey : evO t2 y = evO t1 y := he y (by simp [Op.operands, Call.operands])
        exact ⟨d, x, y, ty', e, rows, new, hd, rfl, hts, hu, by rw [ex]; exact hb, by rw [ex]; exact hx, by rw [ex]; exact hxn, bit_of_and hp, by rw [ey]; exact hr, hby, hmx, hz, hz0, by rw [ex]⟩
      | value g =>
        simp only at h ⊢
        have eg : evO t2 g = evO t1 g := he g (by simp [Op.operands, Call.operands])
        have ea : args.toList.map (evO t2) = args.toList.map (evO t1) := by
          apply List.map_congr_left
          intro x hx
          exact he x (by simp only [Op.operands, Call.operands, Array.mem_append]; right; simpa using hx)
        rw [eg, ea]
        obtain ⟨fid, caps, hg, h⟩ := h
        refine ⟨fid, caps, hg, ?_⟩
        rcases h with ⟨cargs, r, h1, h2, h3, h⟩ | ⟨h, _⟩
        · refine .inl ⟨cargs, r, h1, h2, h3, ?_⟩
          rcases h with h | ⟨d, hd, ht, hb, rfl⟩
          · exact .inl h
          · exact .inr ⟨d, hd, ht, bit_of_and hp, rfl⟩
        · cases h
      | invoke r mm => exact h.elim
    | _ => exact h.elim

theorem or_and_zero {a b c : Nat} (h : (a ||| b) &&& c = 0) : a &&& c = 0 ∧ b &&& c = 0 := by
  rw [Nat.and_or_distrib_right] at h
  exact Nat.or_eq_zero_iff.1 h

theorem and_or_zero {a b c : Nat} (h1 : a &&& c = 0) (h2 : b &&& c = 0) : (a ||| b) &&& c = 0 := by
  rw [Nat.and_or_distrib_right, h1, h2]; rfl


/-- What is claimed of pointers: temporary i points to no block but the one that is said. -/
def Cl (κ : Nat → Option (Option Nat)) (t : Nat → AV) : Prop := ∀ i q, κ i = some q → ∀ l, (t i).tb = some l → q = some l

/-- The claim is kept by an operation. -/
def kOp (κ : Nat → Option (Option Nat)) (o : Oper) : Bool :=
  match o.dst with
  | none => true
  | some d => match κ d with
    | none => true
    | some q => match o.op with
      | .alloc _ | .box .. => q == some d
      | .fieldAddr _ (.tmp x) _ | .move (.tmp x) | .assign (.tmp x) | .nilCheck (.tmp x) | .indexAddr _ (.tmp x) _ => κ x == some q
      | .binOp .. | .buildSlice .. | .build .. => true
      | _ => false

def sepK (κ : Nat → Option (Option Nat)) (x y : Oper) : Bool :=
  !(isStore x && touches y) || match x.op with
    | .store _ (.tmp a) _ => match κ a with
      | some (some l) => y.op.operands.all fun z => match z with
        | .tmp b => (match κ b with | some q => q != some l | none => false)
        | _ => true
      | _ => false
    | _ => false

def Sep (t : Nat → AV) (x y : Oper) : Prop :=
  isStore x = false ∨ touches y = false ∨ ∀ ty a v, x.op = .store ty a v → ∀ l, (evO t a).tb = some l → ∀ z ∈ y.op.operands, (evO t z).tb ≠ some l

theorem tb_cv (v : Value) : (cv v).tb = none := by
  have h1 : ∀ v, (cv1 v).tb = none := by
    intro v
    unfold cv1
    split <;> rfl
  unfold cv
  split
  · split
    · rfl
    · rfl
  · exact h1 _

theorem sepK_spec {κ : Nat → Option (Option Nat)} {t : Nat → AV} {x y : Oper} (hc : Cl κ t) (h : sepK κ x y = true) : Sep t x y := by
  unfold sepK at h
  simp only [Bool.or_eq_true, Bool.not_eq_true', Bool.and_eq_false_iff] at h
  rcases h with (h | h) | h
  · exact .inl h
  · exact .inr (.inl h)
  · refine .inr (.inr fun ty a v hx l hl z hz => ?_)
    rw [hx] at h
    split at h
    · rename_i ty' a' v' he
      cases he
      split at h
      · rename_i l' hk
        have e := hc a' _ hk l hl
        cases e
        simp only [Array.all_eq_true_iff_forall_mem] at h
        have h1 := h z hz
        cases z with
        | tmp b =>
          simp only at h1
          split at h1
          · rename_i q hq
            intro h2
            have := hc b q hq l h2
            subst this
            simp at h1
          · cases h1
        | const v => intro h2; rw [evO, tb_cv] at h2; cases h2
        | func f => intro h2; cases h2
        | global g => intro h2; cases h2
      · cases h
    · cases h

/-- The two may change places. -/
def apartM (κ : Nat → Option (Option Nat)) (ops : Array Oper) (x y : Oper) : Bool := x.apart ops y && sepK κ x y && sepK κ y x

theorem evO_put {t : Nat → AV} {dst : Option Nat} {v : AV} {x : Operand} (h : ∀ d, dst = some d → x ≠ .tmp d) : evO (putT t dst v) x = evO t x := by
  cases x with
  | tmp i =>
    cases dst with
    | none => rfl
    | some d =>
      have : i ≠ d := fun e => h d rfl (by rw [e])
      simp [evO, putT, setT, this]
  | _ => rfl

theorem mem_looksAt {ops : Array Oper} {o : Oper} {d : Nat} (h : Operand.tmp d ∈ o.op.operands) : d ∈ o.looksAt ops := by
  unfold Oper.looksAt
  refine List.mem_append_left _ (List.mem_filterMap.2 ⟨.tmp d, by simpa using h, rfl⟩)

theorem wantedA_put {ops : Array Oper} {t : Nat → AV} {o : Oper} {dst : Option Nat} {v : AV} (h : ∀ d, dst = some d → d ∉ o.looksAt ops) : wantedA (putT t dst v) ops o = wantedA t ops o := by
  unfold wantedA
  split
  · rfl
  · rename_i j want hg
    split
    · rfl
    · rename_i d hd
      have : putT t dst v d = t d := by
        cases dst with
        | none => rfl
        | some d' =>
          have hne : d ≠ d' := by
            rintro rfl
            apply h d rfl
            unfold Oper.looksAt
            refine List.mem_append_right _ ?_
            simp [hg, hd]
          simp [putT, setT, hne]
      rw [this]

theorem putT_comm {t : Nat → AV} {x y : Option Nat} {u v : AV} (h : ∀ d, x = some d → y ≠ some d) : putT (putT t x u) y v = putT (putT t y v) x u := by
  cases x <;> cases y <;> try rfl
  rename_i a b
  have hab : a ≠ b := fun e => h a rfl (by rw [e])
  funext i
  simp only [putT, setT]
  by_cases h1 : i = a
  · subst h1; simp [hab]
  · simp [h1]

theorem setM_comm {m : Nat → List AV} {a b : Nat} {u v : List AV} (h : a ≠ b) : setM (setM m a u) b v = setM (setM m b v) a u := by
  funext i
  simp only [setM]
  by_cases h1 : i = a
  · subst h1; simp [h]
  · simp [h1]

/-- No pointer comes out of nowhere. -/
theorem ay_valid {P : Program} {t : Nat → AV} {m : Nat → List AV} {p xo xn : Nat} {o : Oper} {f : Eff} (hV : Valid t m) (h : AY P true t m p xo xn o f) : Valid (putT t o.dst f.v) (memAll m f.mem) := by
  have hmem := ay_mem hV h
  have grows : ∀ l, m l ≠ [] → memAll m f.mem l ≠ [] := by
    intro l hl
    rcases hmem with h1 | ⟨d, z, _, _, hd, hz, h1⟩ | ⟨k, cs, _, hk, hcs, h1⟩
    · rw [h1]; exact hl
    · rw [h1]; simp only [memAll, setM]; split
      · exact hz
      · exact hl
    · rw [h1]; simp only [memAll, setM]; split
      · exact hcs
      · exact hl
  have hv : ∀ l ∈ f.v.ptrs, memAll m f.mem l ≠ [] := by
    rcases h with ⟨v, hv, rfl⟩ | h
    · exact fun l hl => grows l (yl_valid hV hv l hl)
    · unfold AYe at h
      split at h
      · obtain ⟨_, xs, ys, _, _, _, _, rfl⟩ := h; intro l hl; simp [AV.ptrs] at hl
      · obtain ⟨rows, _, rfl⟩ := h; intro l hl; simp [AV.ptrs] at hl
      · obtain ⟨d, z, hd, _, hz, hm, rfl⟩ := h; intro l hl; simp [AV.ptrs] at hl; subst hl; simp [memAll, setM, hz]
      · obtain ⟨d, z, hd, _, hz, hm, rfl⟩ := h; intro l hl; simp [AV.ptrs] at hl; subst hl; simp [memAll, setM, hz]
      · obtain ⟨l, off, cs, ha, hx, _, hne, _, hfit, rfl⟩ := h; intro l hl; simp [AV.ptrs] at hl
      · split at h
        · obtain ⟨d, x, y, ty, e, rows, new, _, _, _, _, _, _, _, _, _, _, _, _, _, rfl⟩ := h; intro l hl; simp [AV.ptrs] at hl
        · obtain ⟨fid, caps, _, h⟩ := h
          rcases h with ⟨cargs, r, _, _, hr, h⟩ | ⟨h, _⟩
          · have hr0 := hr rfl
            rcases h with ⟨_, rfl⟩ | ⟨d, _, _, _, rfl⟩
            · intro l hl; rw [hr0] at hl; cases hl
            · intro l hl
              exfalso
              have set1 : ∀ x : AV, ∀ l ∈ (x.setOwn1 d).ptrs, l ∈ x.ptrs := by intro x l hl; cases x <;> simp [AV.setOwn1, AV.ptrs] at hl ⊢ <;> exact hl
              have : l ∈ r.ptrs := by
                unfold AV.setOwn at hl
                split at hl
                · simp only [AV.ptrs] at hl ⊢
                  obtain ⟨x, hx, hlx⟩ := mem_ptrsL.1 hl
                  obtain ⟨y, hy, rfl⟩ := List.mem_map.1 hx
                  exact mem_ptrsL.2 ⟨y, hy, set1 y l hlx⟩
                · exact set1 _ l hl
              rw [hr0] at this
              cases this
          · cases h
        · exact h.elim
      · exact h.elim
  have hcell : ∀ k, ∀ x ∈ memAll m f.mem k, ∀ l ∈ x.ptrs, memAll m f.mem l ≠ [] := by
    intro k x hx l hl
    rcases h with ⟨v, _, rfl⟩ | h
    · exact hV.2 k x hx l hl
    · have old : x ∈ m k → memAll m f.mem l ≠ [] := fun h1 => grows l (hV.2 k x h1 l hl)
      unfold AYe at h
      split at h
      · obtain ⟨_, xs, ys, _, _, _, _, rfl⟩ := h; exact old hx
      · obtain ⟨rows, _, rfl⟩ := h; exact old hx
      · obtain ⟨d, z, hd, hz', hz, hm, rfl⟩ := h
        simp only [memAll, setM] at hx
        split at hx
        · exfalso
          unfold zc at hz'
          split at hz'
          · split at hz'
            · split at hz'
              · cases hz'
                obtain ⟨v, _, rfl⟩ := List.mem_map.1 hx
                rw [ptrs_cv1] at hl; cases hl
              · cases hz'
            · cases hz'
          · cases hz'
        · exact old hx
      · obtain ⟨d, z, hd, hz', hz, hm, rfl⟩ := h
        simp only [memAll, setM] at hx
        split at hx
        · exact grows l (ev_valid hV _ l (cells_valid hz' x hx l hl))
        · exact old hx
      · obtain ⟨l', off, cs, ha, hcs, _, hne, _, hfit, rfl⟩ := h
        simp only [memAll, setM] at hx
        split at hx
        · rcases place_mem hx with h1 | h1
          · exact grows l (hV.2 _ x h1 l hl)
          · exact grows l (ev_valid hV _ l (cells_valid hcs x h1 l hl))
        · exact old hx
      · split at h
        · obtain ⟨d, x', y, ty, e, rows, new, _, _, _, _, _, _, _, _, _, _, _, _, _, rfl⟩ := h; exact old hx
        · obtain ⟨fid, caps, _, h⟩ := h
          rcases h with ⟨cargs, r, _, _, hr, h⟩ | ⟨h, _⟩
          · rcases h with ⟨_, rfl⟩ | ⟨d, _, _, _, rfl⟩ <;> exact old hx
          · cases h
        · exact h.elim
      · exact h.elim
  refine ⟨fun i l hl => ?_, hcell⟩
  cases hd : o.dst with
  | none => rw [hd] at hl; exact grows l (hV.1 i l hl)
  | some d =>
    rw [hd] at hl
    simp only [putT, setT] at hl
    split at hl
    · exact hv l hl
    · exact grows l (hV.1 i l hl)

theorem step_valid {P : Program} {ops : Array Oper} {s s' : RSt} {o : Oper} (hV : Valid s.t s.m) (h : AStep P true ops s o s') : Valid s'.t s'.m := by
  rcases h with ⟨_, f, hf, rfl⟩ | ⟨_, rfl⟩
  · exact ay_valid hV hf
  · refine ⟨fun i l hl => ?_, hV.2⟩
    simp only [RSt.app, putT] at hl
    cases hd : o.dst with
    | none => rw [hd] at hl; exact hV.1 i l hl
    | some d =>
      rw [hd] at hl
      simp only [setT] at hl
      split at hl
      · simp [AV.ptrs] at hl
      · exact hV.1 i l hl

end Go.Rb
