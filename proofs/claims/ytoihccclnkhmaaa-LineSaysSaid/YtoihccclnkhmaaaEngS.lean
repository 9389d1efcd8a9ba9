/-
  What is proved: a region that draws its order does what its operations do in the order of the text. Conditions: none.
-/
import Derived.Test.YtoihccclnkhmaaaEngR
set_option linter.unusedVariables false
set_option linter.unusedSimpArgs false
set_option maxRecDepth 4000
namespace Go.Rb

theorem swap {P : Program} {ops : Array Oper} {s s1 s2 : RSt} {oi oj : Oper} (hV : Valid s.t s.m) (hap : oi.apart ops oj = true) (hsi : Sep s.t oi oj) (hsj : Sep s.t oj oi) (hi : AStep P true ops s oi s1) (hj : AStep P true ops s1 oj s2) :
    ∃ sj, AStep P true ops s oj sj ∧ AStep P true ops sj oi s2 := by
  obtain ⟨a1, a2, a3⟩ := Oper.apart_spec hap
  -- both as effects
  have form : ∀ {s s' : RSt} {o : Oper}, AStep P true ops s o s' → ∃ f, s' = s.app o.dst f ∧ ((wantedA s.t ops o = some true ∧ AY P true s.t s.m s.p s.xo s.xn o f) ∨ (wantedA s.t ops o = some false ∧ f = { v := .und })) := by
    rintro s s' o (⟨hw, f, hf, rfl⟩ | ⟨hw, rfl⟩)
    · exact ⟨f, rfl, .inl ⟨hw, hf⟩⟩
    · exact ⟨_, rfl, .inr ⟨hw, rfl⟩⟩
  have unform : ∀ {s : RSt} {o : Oper} {f : Eff}, ((wantedA s.t ops o = some true ∧ AY P true s.t s.m s.p s.xo s.xn o f) ∨ (wantedA s.t ops o = some false ∧ f = { v := .und })) → AStep P true ops s o (s.app o.dst f) := by
    rintro s o f (⟨hw, hf⟩ | ⟨hw, rfl⟩)
    · exact .inl ⟨hw, f, hf, rfl⟩
    · exact .inr ⟨hw, rfl⟩
  obtain ⟨fi, e1, hi'⟩ := form hi
  clear hi
  subst e1
  obtain ⟨fj, e2, hj'⟩ := form hj
  clear hj
  subst e2
  have hi := hi'
  have hj := hj'
  clear hi' hj'
  -- what the effects do to the blocks
  have mi : fi.mem = [] ∨ (∃ d z, isNew oi = true ∧ oi.dst = some d ∧ s.m d = [] ∧ z ≠ [] ∧ fi.mem = [(d, z)]) ∨ (∃ l cs, (isStore oi = true ∧ ∃ ty a v, oi.op = .store ty a v ∧ (evO s.t a).tb = some l) ∧ s.m l ≠ [] ∧ cs ≠ [] ∧ fi.mem = [(l, cs)]) := by
    rcases hi with ⟨_, h⟩ | ⟨_, rfl⟩
    · exact ay_mem hV h
    · exact .inl rfl
  have xi : s.xo &&& fi.xo = 0 ∧ s.xn &&& fi.xn = 0 ∧ s.p &&& fi.p = 0 := by
    rcases hi with ⟨_, h⟩ | ⟨_, rfl⟩
    · exact ay_masks h
    · simp
  have xj : (s.xo ||| fi.xo) &&& fj.xo = 0 ∧ (s.xn ||| fi.xn) &&& fj.xn = 0 ∧ (s.p ||| fi.p) &&& fj.p = 0 := by
    rcases hj with ⟨_, h⟩ | ⟨_, rfl⟩
    · exact ay_masks h
    · simp
  have newTouch : ∀ o : Oper, isNew o = true → touches o = true := by
    intro o h; unfold isNew at h; unfold touches; split at h <;> simp_all
  have evj : ∀ x ∈ oj.op.operands, evO s.t x = evO (s.app oi.dst fi).t x := by
    intro x hx
    refine (evO_put fun d hd he => ?_).symm
    subst he
    exact a1 d hd (mem_looksAt hx)
  have evi : ∀ x ∈ oi.op.operands, evO (s.app oj.dst fj).t x = evO s.t x := by
    intro x hx
    refine evO_put fun d hd he => ?_
    subst he
    exact a3 d hd (mem_looksAt hx)
  have ptrOK : ∀ (x : Operand) (l off : Nat), evO s.t x = .ptr l off → s.m l ≠ [] := by
    intro x l off h
    exact ev_valid hV x l (by rw [h]; simp [AV.ptrs])
  -- (A)
  have hA : (wantedA s.t ops oj = some true ∧ AY P true s.t s.m s.p s.xo s.xn oj fj) ∨ (wantedA s.t ops oj = some false ∧ fj = { v := .und }) := by
    have hw : wantedA (s.app oi.dst fi).t ops oj = wantedA s.t ops oj := wantedA_put a1
    rw [hw] at hj
    rcases hj with ⟨h1, h⟩ | h
    · refine .inl ⟨h1, ay_congr (t1 := (s.app oi.dst fi).t) (m1 := (s.app oi.dst fi).m) evj ?_ ?_ (or_and_zero xj.1).1 (or_and_zero xj.2.1).1 (or_and_zero xj.2.2).1 h⟩
      · intro ht x hx l off he
        rw [← evj x hx] at he
        have hl := ptrOK x l off he
        show s.m l = memAll s.m fi.mem l
        rcases mi with h2 | ⟨d, z, _, _, hd, _, h2⟩ | ⟨k, cs, ⟨hk, ty, ad, vv, hop, htb⟩, _, _, h2⟩
        · rw [h2]; rfl
        · rw [h2]
          have : l ≠ d := by rintro rfl; exact hl hd
          simp [memAll, setM, this]
        · rcases hsi with h3 | h3 | h3
          · rw [hk] at h3; cases h3
          · rw [ht] at h3; cases h3
          · have h4 := h3 ty ad vv hop k htb x hx
            rw [he] at h4
            have : l ≠ k := fun e => h4 (by rw [e]; rfl)
            rw [h2]; simp [memAll, setM, this]
      · intro hn d hd h2
        have h2' : memAll s.m fi.mem d = [] := h2
        rcases mi with h3 | ⟨d', z, _, _, hd', hz, h3⟩ | ⟨k, cs, hk, _, hcs, h3⟩
        · rw [h3] at h2'; exact h2'
        · rw [h3] at h2'
          simp only [memAll, setM] at h2'
          split at h2'
          · exact absurd h2' hz
          · exact h2'
        · rw [h3] at h2'
          simp only [memAll, setM] at h2'
          split at h2'
          · exact absurd h2' hcs
          · exact h2'
    · exact .inr h
  have mj : fj.mem = [] ∨ (∃ d z, isNew oj = true ∧ oj.dst = some d ∧ s.m d = [] ∧ z ≠ [] ∧ fj.mem = [(d, z)]) ∨ (∃ l cs, (isStore oj = true ∧ ∃ ty a v, oj.op = .store ty a v ∧ (evO s.t a).tb = some l) ∧ s.m l ≠ [] ∧ cs ≠ [] ∧ fj.mem = [(l, cs)]) := by
    rcases hA with ⟨_, h⟩ | ⟨_, rfl⟩
    · exact ay_mem hV h
    · exact .inl rfl
  -- (B)
  have hB : (wantedA (s.app oj.dst fj).t ops oi = some true ∧ AY P true (s.app oj.dst fj).t (s.app oj.dst fj).m (s.app oj.dst fj).p (s.app oj.dst fj).xo (s.app oj.dst fj).xn oi fi) ∨
      (wantedA (s.app oj.dst fj).t ops oi = some false ∧ fi = { v := .und }) := by
    have hw : wantedA (s.app oj.dst fj).t ops oi = wantedA s.t ops oi := wantedA_put a3
    rw [hw]
    rcases hi with ⟨h1, h⟩ | h
    · refine .inl ⟨h1, ay_congr (t1 := s.t) (m1 := s.m) evi ?_ ?_ (and_or_zero xi.1 (by rw [Nat.and_comm]; exact (or_and_zero xj.1).2)) (and_or_zero xi.2.1 (by rw [Nat.and_comm]; exact (or_and_zero xj.2.1).2))
        (and_or_zero xi.2.2 (by rw [Nat.and_comm]; exact (or_and_zero xj.2.2).2)) h⟩
      · intro ht x hx l off he
        have hl := ptrOK x l off he
        show memAll s.m fj.mem l = s.m l
        rcases mj with h2 | ⟨d, z, _, _, hd, _, h2⟩ | ⟨k, cs, ⟨hk, ty, ad, vv, hop, htb⟩, _, _, h2⟩
        · rw [h2]; rfl
        · rw [h2]
          have : l ≠ d := by rintro rfl; exact hl hd
          simp [memAll, setM, this]
        · rcases hsj with h3 | h3 | h3
          · rw [hk] at h3; cases h3
          · rw [ht] at h3; cases h3
          · have h4 := h3 ty ad vv hop k htb x hx
            rw [he] at h4
            have : l ≠ k := fun e => h4 (by rw [e]; rfl)
            rw [h2]; simp [memAll, setM, this]
      · intro hn d hd h2
        show memAll s.m fj.mem d = []
        rcases mj with h3 | ⟨d', z, _, hdj, hd', hz, h3⟩ | ⟨k, cs, hk, hkm, hcs, h3⟩
        · rw [h3]; exact h2
        · rw [h3]
          have : d ≠ d' := by rintro rfl; exact a2 d hd hdj
          simp only [memAll, setM, if_neg this]; exact h2
        · have : d ≠ k := by rintro rfl; exact hkm h2
          rw [h3]; simp only [memAll, setM, if_neg this]; exact h2
    · exact .inr h
  -- (C)
  have hC : (s.app oj.dst fj).app oi.dst fi = (s.app oi.dst fi).app oj.dst fj := by
    have ht : putT (putT s.t oj.dst fj.v) oi.dst fi.v = putT (putT s.t oi.dst fi.v) oj.dst fj.v := (putT_comm a2).symm
    have hm : memAll (memAll s.m fj.mem) fi.mem = memAll (memAll s.m fi.mem) fj.mem := by
      rcases mi with h1 | ⟨d, z, hn, hd, hm0, _, h1⟩ | ⟨l, cs, hs, hl, _, h1⟩ <;> rcases mj with h2 | ⟨d', z', hn', hd', hm0', _, h2⟩ | ⟨l', cs', hs', hl', _, h2⟩ <;> rw [h1, h2] <;> try rfl
      · have : d' ≠ d := by rintro rfl; exact a2 d' hd hd'
        exact setM_comm this
      · have : l' ≠ d := by rintro rfl; exact hl' hm0
        exact setM_comm this
      · have : d' ≠ l := by rintro rfl; exact hl hm0'
        exact setM_comm this
      · have : l' ≠ l := by
          obtain ⟨hs1, ty, ad, vv, hop, htb⟩ := hs
          obtain ⟨hs2, ty', ad', vv', hop', htb'⟩ := hs'
          rcases hsi with h4 | h4 | h4
          · rw [hs1] at h4; cases h4
          · rw [show touches oj = true by simp [touches, hop']] at h4; cases h4
          · have h5 := h4 ty ad vv hop l htb ad' (by rw [hop']; simp [Op.operands])
            rw [htb'] at h5
            exact fun e => h5 (by rw [e])
        exact setM_comm this
    have ho : ∀ a b c : Nat, a ||| b ||| c = a ||| c ||| b := fun a b c => by rw [Nat.or_assoc, Nat.or_comm b c, ← Nat.or_assoc]
    show RSt.mk _ _ _ _ _ = RSt.mk _ _ _ _ _
    rw [RSt.mk.injEq]
    exact ⟨ht, hm, ho _ _ _, ho _ _ _, ho _ _ _⟩
  exact ⟨s.app oj.dst fj, unform hA, hC ▸ unform hB⟩

/-! ### Claims on pointers are kept -/
theorem tb_bool {b : Bool} : (AV.c (.bool b)).tb = none := rfl

theorem tb_of_ay {P : Program} {dr : Bool} {t : Nat → AV} {m : Nat → List AV} {p xo xn : Nat} {κ : Nat → Option (Option Nat)} {o : Oper} {f : Eff} {d : Nat} {q : Option Nat} (hc : Cl κ t) (hd : o.dst = some d) (hq : κ d = some q) (hk : kOp κ o = true)
    (h : AY P dr t m p xo xn o f) : ∀ l, f.v.tb = some l → q = some l := by
  intro l hl
  simp only [kOp, hd, hq] at hk
  split at hk
  · rename_i e he
    rcases h with ⟨v, hv, rfl⟩ | h
    · rw [he] at hv; simp [yl] at hv
    · unfold AYe at h
      simp only [he] at h
      obtain ⟨d', z, hd', _, _, _, rfl⟩ := h
      rw [hd] at hd'; cases hd'
      simp only [AV.tb, Option.some.injEq] at hl
      subst hl
      simpa using hk
  · rename_i e x he
    rcases h with ⟨v, hv, rfl⟩ | h
    · rw [he] at hv; simp [yl] at hv
    · unfold AYe at h
      simp only [he] at h
      obtain ⟨d', z, hd', _, _, _, rfl⟩ := h
      rw [hd] at hd'; cases hd'
      simp only [AV.tb, Option.some.injEq] at hl
      subst hl
      simpa using hk
  · rename_i T x fl he
    simp only [beq_iff_eq] at hk
    rcases h with ⟨v, hv, rfl⟩ | h
    · rw [he] at hv
      simp only [yl, yfield] at hv
      split at hv
      · split at hv
        · split at hv
          · split at hv
            · rename_i l1 o1 hx
              cases hv
              simp only [AV.tb, Option.some.injEq] at hl
              subst hl
              exact hc x q hk _ (by rw [show t x = evO t (.tmp x) from rfl, hx]; rfl)
            · cases hv; cases hl
            · cases hv
          · cases hv
        · cases hv
      · cases hv
    · unfold AYe at h; simp only [he] at h
  · rename_i x he
    simp only [beq_iff_eq] at hk
    rcases h with ⟨v, hv, rfl⟩ | h
    · rw [he] at hv
      simp only [yl, Option.some.injEq] at hv
      subst hv
      exact hc x q hk l hl
    · unfold AYe at h; simp only [he] at h
  · rename_i x he
    simp only [beq_iff_eq] at hk
    rcases h with ⟨v, hv, rfl⟩ | h
    · rw [he] at hv
      simp only [yl, Option.some.injEq] at hv
      subst hv
      exact hc x q hk l hl
    · unfold AYe at h; simp only [he] at h
  · rename_i x he
    simp only [beq_iff_eq] at hk
    rcases h with ⟨v, hv, rfl⟩ | h
    · rw [he] at hv
      simp only [yl] at hv
      split at hv
      · rename_i l1 o1 hx
        cases hv
        exact hc x q hk l (by rw [show t x = evO t (.tmp x) from rfl, hx]; exact hl)
      · cases hv; cases hl
      · cases hv
    · unfold AYe at h; simp only [he] at h
  · rename_i T x i he
    simp only [beq_iff_eq] at hk
    rcases h with ⟨v, hv, rfl⟩ | h
    · rw [he] at hv
      simp only [yl, yindex] at hv
      split at hv
      · split at hv
        · rename_i l1 off len cap e' hx
          split at hv
          · cases hv
            simp only [AV.tb, Option.some.injEq] at hl
            subst hl
            exact hc x q hk _ (by rw [show t x = evO t (.tmp x) from rfl, hx]; rfl)
          · cases hv
        · split at hv
          · split at hv
            · cases hv; cases hl
            · cases hv
          · cases hv
      · cases hv
    · unfold AYe at h; simp only [he] at h
  · rename_i op T x y T' he
    rcases h with ⟨v, hv, rfl⟩ | h
    · rw [he] at hv
      simp only [yl, ybin] at hv
      repeat' split at hv
      all_goals first
        | cases hv
        | skip
      all_goals first
        | (cases hl; done)
        | (simp only [Option.map_eq_some_iff] at hv; obtain ⟨c, _, rfl⟩ := hv; cases hl)
    · unfold AYe at h; simp only [he] at h
      obtain ⟨_, xs, ys, _, _, _, _, rfl⟩ := h
      cases hl
  · rename_i T n ps he
    rcases h with ⟨v, hv, rfl⟩ | h
    · rw [he] at hv; simp [yl] at hv
    · unfold AYe at h; simp only [he] at h
      obtain ⟨rows, _, rfl⟩ := h
      cases hl
  · rename_i T ps he
    rcases h with ⟨v, hv, rfl⟩ | h
    · rw [he] at hv
      simp only [yl, ybuild] at hv
      repeat' split at hv
      all_goals first
        | (cases hv; done)
        | (simp only [Option.map_eq_some_iff] at hv; obtain ⟨c, _, rfl⟩ := hv; cases hl)
    · unfold AYe at h; simp only [he] at h
  · cases hk

theorem cl_step {P : Program} {dr : Bool} {ops : Array Oper} {κ : Nat → Option (Option Nat)} {s s' : RSt} {o : Oper} (hc : Cl κ s.t) (hk : kOp κ o = true) (h : AStep P dr ops s o s') : Cl κ s'.t := by
  have key : ∀ f : Eff, (∀ d q, o.dst = some d → κ d = some q → ∀ l, f.v.tb = some l → q = some l) → Cl κ (s.app o.dst f).t := by
    intro f hf i q hq l hl
    simp only [RSt.app, putT] at hl
    cases hd : o.dst with
    | none => rw [hd] at hl; exact hc i q hq l hl
    | some d =>
      rw [hd] at hl
      simp only [setT] at hl
      split at hl
      · rename_i e; subst e; exact hf _ q hd hq l hl
      · exact hc i q hq l hl
  rcases h with ⟨_, f, hf, rfl⟩ | ⟨_, rfl⟩
  · exact key f fun d q hd hq => tb_of_ay hc hd hq hk hf
  · exact key _ fun d q _ _ l hl => by cases hl

/-! ### Whatever order is drawn -/

def anyA (P : Program) (ops : Array Oper) (K : RSt → Prop) : Nat → Array Bool → RSt → Prop
  | 0, listed, s => Region.ready .any ops listed = [] ∧ K s
  | fuel + 1, listed, s => Valid s.t s.m → (Region.ready .any ops listed = [] → K s) ∧
      ∀ i ∈ Region.ready .any ops listed, ∀ o, ops[i]? = some o → ∃ s', AStep P true ops s o s' ∧ anyA P ops K fuel (listed.setIfInBounds i true) s'

theorem anyA_first {P : Program} {ops : Array Oper} {K : RSt → Prop} {κ : Nat → Option (Option Nat)} (hkO : ∀ (j : Nat) (o : Oper), ops[j]? = some o → kOp κ o = true) {i : Nat} {oi : Oper} (hi : ops[i]? = some oi) : ∀ (fuel : Nat) (listed : Array Bool) (s s1 : RSt),
    (∀ j oj, ops[j]? = some oj → j ≠ i → listed.getD j true = false → (∀ e ∈ oj.after, Region.binds .any e = true → e.on ≠ i) → apartM κ ops oi oj = true) →
    Cl κ s.t → i ∈ Region.ready .any ops listed → AStep P true ops s oi s1 → anyA P ops K fuel (listed.setIfInBounds i true) s1 → anyA P ops K (fuel + 1) listed s := by
  intro fuel
  induction fuel with
  | zero =>
    intro listed s s1 _ _ hr hs H hV
    refine ⟨fun h => (by rw [h] at hr; cases hr), fun j hj o ho => ?_⟩
    by_cases hji : j = i
    · subst hji; rw [hi] at ho; cases ho; exact ⟨s1, hs, H⟩
    · have := ready_mono hj hji
      rw [H.1] at this
      cases this
  | succ fuel ih =>
    intro listed s s1 hfree hcl hr hs H hV
    refine ⟨fun h => (by rw [h] at hr; cases hr), fun j hj oj hoj => ?_⟩
    by_cases hji : j = i
    · subst hji; rw [hi] at hoj; cases hoj; exact ⟨s1, hs, H⟩
    · obtain ⟨s2, h1, h2⟩ := (H (step_valid hV hs)).2 j (ready_mono hj hji) oj hoj
      obtain ⟨hjun, oj', hoj', hall⟩ := mem_ready.1 hj
      rw [hoj] at hoj'
      cases hoj'
      have hnot : ∀ e ∈ oj.after, Region.binds .any e = true → e.on ≠ i := fun e he hb heq => by
        have h1 := hall e he hb
        have h0 := (mem_ready.1 hr).1
        rw [heq] at h1
        rcases Nat.lt_or_ge i listed.size with h' | h'
        · simp [h'] at h0 h1; rw [h0] at h1; cases h1
        · simp [Array.getElem?_eq_none h'] at h1
      have hap := hfree j oj hoj hji hjun hnot
      simp only [apartM, Bool.and_eq_true] at hap
      obtain ⟨sj, h3, h4⟩ := swap hV hap.1.1 (sepK_spec hcl hap.1.2) (sepK_spec hcl hap.2) hs h1
      refine ⟨sj, h3, ih (listed.setIfInBounds j true) sj s2 ?_ (cl_step hcl (hkO j oj hoj) h3) (ready_mono hr (Ne.symm hji)) h4 ?_⟩
      · intro k ok hk hki hun hno
        refine hfree k ok hk hki ?_ hno
        by_cases hjk : j = k
        · subst hjk; exact hjun
        · rw [getD_set_ne true hjk] at hun; exact hun
      · rw [Array.setIfInBounds_comm _ _ hji]; exact h2

def freeM (κ : Nat → Option (Option Nat)) (ops : Array Oper) (listed : Array Bool) (i : Nat) : Bool :=
  match ops[i]? with
  | none => false
  | some oi => (List.range ops.size).all fun j => j == i || listed.getD j true || match ops[j]? with
      | some oj => oj.after.any (fun e => Region.binds .any e && e.on == i) || apartM κ ops oi oj
      | none => true

theorem freeM_spec {κ : Nat → Option (Option Nat)} {ops : Array Oper} {i : Nat} {oi : Oper} {listed : Array Bool} (hi : ops[i]? = some oi) (h : freeM κ ops listed i = true) (j : Nat) (oj : Oper)
    (hj : ops[j]? = some oj) (hne : j ≠ i) (hun : listed.getD j true = false) (hno : ∀ e ∈ oj.after, Region.binds .any e = true → e.on ≠ i) : apartM κ ops oi oj = true := by
  simp only [freeM, hi, List.all_eq_true, List.mem_range] at h
  have h1 := h j (Array.getElem?_eq_some_iff.1 hj).1
  simp only [hj, Bool.or_eq_true, beq_iff_eq, hne, false_or, hun, Bool.false_eq_true] at h1
  rcases h1 with h1 | h1
  · obtain ⟨e, he, hb⟩ := Array.any_eq_true'.1 h1
    simp only [Bool.and_eq_true, beq_iff_eq] at hb
    exact absurd hb.2 (hno e he hb.1)
  · exact h1

def lexM (κ : Nat → Option (Option Nat)) (ops : Array Oper) : Nat → Nat → Array Bool → Bool
  | 0, _, listed => (Region.ready .any ops listed).isEmpty
  | fuel + 1, k, listed => (Region.ready .any ops listed).contains k && freeM κ ops listed k && lexM κ ops fuel (k + 1) (listed.setIfInBounds k true)

def drK (P : Program) (ops : Array Oper) (κ : Nat → Option (Option Nat)) : Bool := P.follows .mixedOrders && ops.toList.all (kOp κ) && lexM κ ops ops.size 0 (Array.replicate ops.size false)

def drOK (P : Program) (ops : Array Oper) : Bool := drK P ops fun _ => none

theorem cl_none (t : Nat → AV) : Cl (fun _ => none) t := fun _ _ h => by cases h

theorem anyA_lex {P : Program} {ops : Array Oper} {K : RSt → Prop} {κ : Nat → Option (Option Nat)} (hkO : ∀ (j : Nat) (o : Oper), ops[j]? = some o → kOp κ o = true) : ∀ (l : List Oper) (k : Nat) (listed : Array Bool) (s : RSt), (∀ j, l[j]? = ops[k + j]?) →
    lexM κ ops l.length k listed = true → Cl κ s.t → aops P true ops K l s → anyA P ops K l.length listed s
  | [], _, _, _, _, hB, _, h => ⟨by simpa [lexM] using hB, h⟩
  | o :: l, k, listed, s, hl, hB, hcl, .inr ⟨hd, _⟩ => by cases hd
  | o :: l, k, listed, s, hl, hB, hcl, .inl ⟨s', hs, h⟩ => by
    have h0 : ops[k]? = some o := by simpa using (hl 0).symm
    simp only [List.length_cons, lexM, Bool.and_eq_true] at hB
    obtain ⟨⟨hr, hf⟩, hB'⟩ := hB
    exact anyA_first hkO h0 l.length listed s s' (freeM_spec h0 hf) hcl (by simpa using hr) hs
      (anyA_lex hkO l (k + 1) _ _ (fun j => by have := hl (j + 1); simpa [Nat.add_assoc, Nat.add_comm 1 j] using this) hB' (cl_step hcl (hkO k o h0) hs) h)

section
variable {P : Program} {B : Nat} {X : Nat → Prop} {w0 : World} {S0 : Nat → Nat → Prop} {pa : Nat → Option (Nat × Nat)} {n : Nat}

theorem anyA_sound {Q : Exit → Act → World → Prop} {K : RSt → Prop} {ops : Array Oper} (hd : ∀ (i : Nat) (o : Oper), ops[i]? = some o → dstOK n o = true) (hK : ∀ a' w' s', Rel P B X w0 S0 pa n a' w' s' → K s' → Q .normal a' w') :
    ∀ (fuel : Nat) (listed : Array Bool) (a : Act) (w : World) (s : RSt), Rel P B X w0 S0 pa n a w s → anyA P ops K fuel listed s → wpAny P .any ops Q fuel listed a w
  | 0, _, a, w, s, hr, h => ⟨h.1, hK a w s hr h.2⟩
  | fuel + 1, listed, a, w, s, hr, h => by
    obtain ⟨h1, h2⟩ := h (rel_valid hr)
    refine ⟨fun h0 => hK a w s hr (h1 h0), fun i hi => ?_⟩
    unfold wpOp
    split
    · rename_i ho
      obtain ⟨_, o, ho', _⟩ := mem_ready.1 hi
      rw [ho] at ho'; cases ho'
    · rename_i o ho
      obtain ⟨s', hs, hn⟩ := h2 i hi o ho
      have := step_sound (Q := Q) hr (hd i o ho) hs (K := wpAny P .any ops Q fuel (listed.setIfInBounds i true)) (fun a' w' hr' => anyA_sound hd hK fuel _ a' w' s' hr' hn)
      split
      · rename_i hw; rw [if_pos hw] at this; exact .inl this
      · rename_i hw; rw [if_neg hw] at this; exact this

theorem rel_drew {a : Act} {w : World} {s : RSt} (h : Rel P B X w0 S0 pa n a w s) : Rel P B X w0 S0 pa n a { w with drawn := w.drawn + 1 } s := by
  obtain ⟨E, rfl, hwi, hv, hd, hn, hp⟩ := h
  have hle : E.le { E with w := { E.w with drawn := E.w.drawn + 1 } } := ⟨fun _ _ _ _ h => h, fun _ _ h => h, fun _ h => ⟨h, rfl, rfl⟩, fun _ _ _ _ h => .inl h, fun _ _ h => h⟩
  refine ⟨{ E with w := { E.w with drawn := E.w.drawn + 1 } }, rfl, ⟨⟨hwi.fr.os, hwi.fr.tape, hwi.fr.output, hwi.fr.size, hwi.fr.block⟩, hwi.hB, hwi.s0, hwi.sNew, hwi.slt, hwi.hA, ?_, hwi.locne, hwi.own, hwi.ownne, hwi.new, hwi.deadn, hwi.deado⟩, fun i => (hv i).mono hle, hd, hn, hp⟩
  intro l hl
  obtain ⟨cs, e, hh, hc, hs, hb⟩ := hwi.loc l hl
  exact ⟨cs, e, hh, hc.mono hle, hs, hb⟩

theorem drawn_sound {Q : Exit → Act → World → Prop} {K : St → Prop} {id : Nat} {ops : Array Oper} {a : Act} {w : World} {s : St}
    {κ : Nat → Option (Option Nat)} (hok : drK P ops κ = true) (hcl : Cl κ s.t) (hd : ops.toList.all (dstOK n) = true) (hr : Rel P B X w0 S0 pa n a w s.R)
    (h : aops P true ops (fun r => K r.fin) ops.toList s.R) (hK : ∀ a' w' s', Rel P B X w0 S0 pa n a' w' s'.R → K s' → Q .normal a' w') : (Code.region id ops true).wp P Q a w := by
  simp only [drK, Bool.and_eq_true, List.all_eq_true] at hok
  have hkO : ∀ (j : Nat) (o : Oper), ops[j]? = some o → kOp κ o = true := fun j o h => hok.1.2 o (by simpa using Array.mem_of_getElem? h)
  refine wp_region_any hok.1.1 (anyA_sound (K := fun r => K r.fin) ?_ (fun a' w' s' h1 h2 => hK a' w' _ (rel_fin h1) h2) _ _ a _ s.R (rel_drew hr) ?_)
  · intro i o ho
    exact List.all_eq_true.1 hd o (by simpa using Array.mem_of_getElem? ho)
  · have := anyA_lex hkO ops.toList 0 (Array.replicate ops.size false) s.R (by simp) (by simpa using hok.2) hcl h
    simpa using this
end

end Go.Rb
