/-
  What is proved: an array of one's own is frozen: from then on it is plain data; or it is forgotten. Conditions: none.
-/
import Derived.Test.YtoihccclnkhmaaaEngNb
set_option linter.unusedVariables false
set_option linter.unusedSimpArgs false
set_option maxRecDepth 4000
namespace Go.Rb

/-! ### Values that no array of one's own touches -/
def AV.na0 : AV → Bool
  | .arr .. => false
  | .ptr l _ => decide (l < 1000)
  | .fn _ cs => cs.isEmpty
  | .agg _ | .tup _ => false
  | _ => true
def AV.na1 : AV → Bool
  | .fn _ caps => caps.all AV.na0
  | x => x.na0
def AV.na2 : AV → Bool
  | .agg xs => xs.all AV.na1
  | x => x.na1
def AV.na : AV → Bool
  | .tup xs => xs.all AV.na2
  | x => x.na2

/-! ### Freezing -/
def frz1 (l : Nat) (e : TypeId) (rows : List (List C)) : AV → AV
  | .arr l' off len cap e' => if l' = l then (if e' = e ∧ off = 0 ∧ len ≤ rows.length then .c (.sl e (rows.take len)) else .any) else .arr l' off len cap e'
  | .ptr l' o => if l' = l then .any else .ptr l' o
  | .fn f caps => if caps.all AV.na0 then .fn f caps else .any
  | .agg _ => .any
  | .tup _ => .any
  | x => x
def frz2 (l : Nat) (e : TypeId) (rows : List (List C)) : AV → AV
  | .agg xs => .agg (xs.map (frz1 l e rows))
  | x => frz1 l e rows x
def frz3 (l : Nat) (e : TypeId) (rows : List (List C)) : AV → AV
  | .tup xs => .tup (xs.map (frz2 l e rows))
  | x => frz2 l e rows x

def St.frz (s : St) (l : Nat) (e : TypeId) (rows : List (List C)) : St :=
  { t := fun i => frz3 l e rows (s.t i), m := fun k => if k = l then [] else (s.m k).map (frz1 l e rows) }

def St.drop (s : St) (l : Nat) : St := { t := killT l s.t, m := killM l s.m }

inductive Gh (P : Program) : St → St → Prop where
  | refl (s : St) : Gh P s s
  | frz {s s' : St} (l : Nat) (e : TypeId) (rows : List (List C)) (rest : List AV) (hl : 2000 ≤ l) (hr : ∀ r ∈ rows, r.length = P.cellsOf e) (hm : s.m l = rows.flatten.map .c ++ rest) (h : Gh P (s.frz l e rows) s') : Gh P s s'
  | drop {s s' : St} (l : Nat) (hl : 2000 ≤ l) (h : Gh P (s.drop l) s') : Gh P s s'

/-! ### What is untouched -/
theorem na0_frz {x : AV} {l : Nat} {e : TypeId} {rows : List (List C)} (hl : 1000 ≤ l) (h : x.na0 = true) : frz1 l e rows x = x := by
  cases x <;> simp only [AV.na0, Bool.false_eq_true, decide_eq_true_eq] at h <;> simp only [frz1]
  · rw [if_neg (by omega)]
  · rename_i f caps
    have : caps = [] := by simpa using h
    subst this
    simp
theorem na1_frz {x : AV} {l : Nat} {e : TypeId} {rows : List (List C)} (hl : 1000 ≤ l) (h : x.na1 = true) : frz1 l e rows x = x := by
  cases x with
  | fn f caps => simp only [AV.na1] at h; simp only [frz1, h, if_true]
  | _ => exact na0_frz hl h
theorem map_self {f : AV → AV} : ∀ {xs : List AV}, (∀ y ∈ xs, f y = y) → xs.map f = xs
  | [], _ => rfl
  | x :: xs, h => by rw [List.map_cons, h x List.mem_cons_self, map_self fun y hy => h y (List.mem_cons_of_mem _ hy)]
theorem na2_frz {x : AV} {l : Nat} {e : TypeId} {rows : List (List C)} (hl : 1000 ≤ l) (h : x.na2 = true) : frz2 l e rows x = x := by
  by_cases hx : ∃ xs, x = .agg xs
  · obtain ⟨xs, rfl⟩ := hx
    simp only [AV.na2, List.all_eq_true] at h
    simp only [frz2, AV.agg.injEq]
    exact map_self fun y hy => na1_frz hl (h y hy)
  · have h1 : x.na2 = x.na1 := by cases x <;> first | rfl | exact absurd ⟨_, rfl⟩ hx
    have h2 : frz2 l e rows x = frz1 l e rows x := by cases x <;> first | rfl | exact absurd ⟨_, rfl⟩ hx
    rw [h2]; rw [h1] at h; exact na1_frz hl h
theorem na_frz {x : AV} {l : Nat} {e : TypeId} {rows : List (List C)} (hl : 1000 ≤ l) (h : x.na = true) : frz3 l e rows x = x := by
  by_cases hx : ∃ xs, x = .tup xs
  · obtain ⟨xs, rfl⟩ := hx
    simp only [AV.na, List.all_eq_true] at h
    simp only [frz3, AV.tup.injEq]
    exact map_self fun y hy => na2_frz hl (h y hy)
  · have h1 : x.na = x.na2 := by cases x <;> first | rfl | exact absurd ⟨_, rfl⟩ hx
    have h2 : frz3 l e rows x = frz2 l e rows x := by cases x <;> first | rfl | exact absurd ⟨_, rfl⟩ hx
    rw [h2]; rw [h1] at h; exact na2_frz hl h

theorem na0_kill {x : AV} {K : Nat → Bool} (hK : ∀ l, K l = true → 1000 ≤ l) (h : x.na0 = true) : kill1 K x = x := by
  cases x <;> simp only [AV.na0, Bool.false_eq_true, decide_eq_true_eq] at h <;> simp only [kill1]
  · rename_i l o
    cases hq : K l with
    | true => have := hK l hq; omega
    | false => simp
  · rename_i f caps
    have : caps = [] := by simpa using h
    subst this
    simp
theorem na1_kill {x : AV} {K : Nat → Bool} (hK : ∀ l, K l = true → 1000 ≤ l) (h : x.na1 = true) : kill1 K x = x := by
  cases x with
  | fn f caps =>
    simp only [AV.na1, List.all_eq_true] at h
    simp only [kill1]
    rw [if_pos]
    simp only [List.all_eq_true]
    intro y hy
    have := h y hy
    cases y <;> simp only [AV.na0, Bool.false_eq_true, decide_eq_true_eq] at this <;> try rfl
    · rename_i l o
      cases hq : K l with
      | true => have := hK l hq; omega
      | false => simp [hq]
    · exact this
  | _ => exact na0_kill hK h
theorem na2_kill {x : AV} {K : Nat → Bool} (hK : ∀ l, K l = true → 1000 ≤ l) (h : x.na2 = true) : kill2 K x = x := by
  by_cases hx : ∃ xs, x = .agg xs
  · obtain ⟨xs, rfl⟩ := hx
    simp only [AV.na2, List.all_eq_true] at h
    simp only [kill2, AV.agg.injEq]
    exact map_self fun y hy => na1_kill hK (h y hy)
  · have h1 : x.na2 = x.na1 := by cases x <;> first | rfl | exact absurd ⟨_, rfl⟩ hx
    have h2 : kill2 K x = kill1 K x := by cases x <;> first | rfl | exact absurd ⟨_, rfl⟩ hx
    rw [h2]; rw [h1] at h; exact na1_kill hK h
theorem na_kill {x : AV} {K : Nat → Bool} (hK : ∀ l, K l = true → 1000 ≤ l) (h : x.na = true) : kill3 K x = x := by
  by_cases hx : ∃ xs, x = .tup xs
  · obtain ⟨xs, rfl⟩ := hx
    simp only [AV.na, List.all_eq_true] at h
    simp only [kill3, AV.tup.injEq]
    exact map_self fun y hy => na2_kill hK (h y hy)
  · have h1 : x.na = x.na2 := by cases x <;> first | rfl | exact absurd ⟨_, rfl⟩ hx
    have h2 : kill3 K x = kill2 K x := by cases x <;> first | rfl | exact absurd ⟨_, rfl⟩ hx
    rw [h2]; rw [h1] at h; exact na2_kill hK h

theorem na1_k (K : Nat → Bool) {x : AV} (h : x.na1 = true) : (kill1 K x).na1 = true := by
  cases x <;> simp only [kill1] <;> first | exact h | rfl | skip
  · split
    · rfl
    · exact h
  · split
    · rfl
    · exact h
  · split
    · exact h
    · rfl
theorem na1_v {x : AV} (h : x.na1 = true) : (vw1 x).na1 = true := by
  cases x <;> simp only [vw1] <;> first | exact h | rfl | skip
  split
  · exact h
  · rfl
theorem na1_f (p xo xn : Nat) {x : AV} (h : x.na1 = true) : (fin1 p xo xn x).na1 = true := by
  cases x with
  | own nw k e rows => cases nw <;> simp only [fin1] <;> split <;> rfl
  | fn f caps =>
    simp only [fin1]
    split
    · exact h
    · rfl
  | agg => rfl
  | tup => rfl
  | _ => exact h
theorem na2_map {f1 f2 : AV → AV} (h1 : ∀ x : AV, x.na1 = true → (f1 x).na1 = true) (hagg : ∀ xs, f2 (.agg xs) = .agg (xs.map f1)) (hother : ∀ x, (∀ xs, x ≠ .agg xs) → f2 x = f1 x) (hno : ∀ x xs, f1 x ≠ .agg xs) :
    ∀ x : AV, x.na2 = true → (f2 x).na2 = true := by
  intro x h
  by_cases hx : ∃ xs, x = .agg xs
  · obtain ⟨xs, rfl⟩ := hx
    rw [hagg]
    simp only [AV.na2, List.all_eq_true, List.mem_map, forall_exists_index, and_imp, forall_apply_eq_imp_iff₂] at h ⊢
    exact fun y hy => h1 y (h y hy)
  · have e1 : ∀ y : AV, (∀ xs, y ≠ .agg xs) → y.na2 = y.na1 := by intro y hy; cases y <;> first | rfl | exact absurd rfl (hy _)
    have hx' : ∀ xs, x ≠ .agg xs := fun xs he => hx ⟨xs, he⟩
    rw [hother x hx', e1 _ (hno x)]
    rw [e1 x hx'] at h
    exact h1 x h
theorem na_map {f2 f3 : AV → AV} (h2 : ∀ x : AV, x.na2 = true → (f2 x).na2 = true) (htup : ∀ xs, f3 (.tup xs) = .tup (xs.map f2)) (hother : ∀ x, (∀ xs, x ≠ .tup xs) → f3 x = f2 x) (hno : ∀ x xs, f2 x ≠ .tup xs) :
    ∀ x : AV, x.na = true → (f3 x).na = true := by
  intro x h
  by_cases hx : ∃ xs, x = .tup xs
  · obtain ⟨xs, rfl⟩ := hx
    rw [htup]
    simp only [AV.na, List.all_eq_true, List.mem_map, forall_exists_index, and_imp, forall_apply_eq_imp_iff₂] at h ⊢
    exact fun y hy => h2 y (h y hy)
  · have e1 : ∀ y : AV, (∀ xs, y ≠ .tup xs) → y.na = y.na2 := by intro y hy; cases y <;> first | rfl | exact absurd rfl (hy _)
    have hx' : ∀ xs, x ≠ .tup xs := fun xs he => hx ⟨xs, he⟩
    rw [hother x hx', e1 _ (hno x)]
    rw [e1 x hx'] at h
    exact h2 x h
theorem na_vk (K : Nat → Bool) {x : AV} (h : x.na = true) : (vk K x).na = true := by
  have hv : (vw3 x).na = true :=
    na_map (f2 := vw2) (f3 := vw3) (na2_map (f1 := vw1) (f2 := vw2) (fun _ h => na1_v h) (fun _ => rfl) (fun x hx => by cases x <;> first | rfl | exact absurd rfl (hx _)) (fun x xs hx => by cases x <;> simp only [vw1] at hx <;> first | cases hx | (split at hx <;> cases hx)))
      (fun _ => rfl) (fun x hx => by cases x <;> first | rfl | exact absurd rfl (hx _)) (fun x xs hx => by cases x <;> simp only [vw2, vw1] at hx <;> first | cases hx | (split at hx <;> cases hx)) x h
  show (kill3 K (vw3 x)).na = true
  exact na_map (f2 := kill2 K) (f3 := kill3 K) (na2_map (f1 := kill1 K) (f2 := kill2 K) (fun _ h => na1_k K h) (fun _ => rfl) (fun x hx => by cases x <;> first | rfl | exact absurd rfl (hx _)) (fun x xs hx => by cases x <;> simp only [kill1] at hx <;> first | cases hx | (split at hx <;> cases hx)))
      (fun _ => rfl) (fun x hx => by cases x <;> first | rfl | exact absurd rfl (hx _)) (fun x xs hx => by cases x <;> simp only [kill2, kill1] at hx <;> first | cases hx | (split at hx <;> cases hx)) _ hv
theorem na_fin (p xo xn : Nat) {x : AV} (h : x.na = true) : (fin3 p xo xn x).na = true :=
  na_map (f2 := fin2 p xo xn) (f3 := fin3 p xo xn) (na2_map (f1 := fin1 p xo xn) (f2 := fin2 p xo xn) (fun _ h => na1_f p xo xn h) (fun _ => rfl) (fun x hx => by cases x <;> first | rfl | exact absurd rfl (hx _)) (fun x xs hx => by
      cases x with
      | own nw k e rows => cases nw <;> simp only [fin1] at hx <;> split at hx <;> cases hx
      | fn f caps => simp only [fin1] at hx; split at hx <;> cases hx
      | _ => simp only [fin1] at hx; cases hx))
      (fun _ => rfl) (fun x hx => by cases x <;> first | rfl | exact absurd rfl (hx _)) (fun x xs hx => by
      cases x with
      | own nw k e rows => cases nw <;> simp only [fin2, fin1] at hx <;> split at hx <;> cases hx
      | fn f caps => simp only [fin2, fin1] at hx; split at hx <;> cases hx
      | _ => simp only [fin2, fin1] at hx; cases hx) x h

theorem arrT_mono {P : Program} {s : RSt} {o : Oper} {N N' : RSt → Prop} (h : ∀ s', (∀ i, o.dst ≠ some i → (s.t i).na = true → s'.t i = s.t i) → N s' → N' s') (k : ArrT P s o N) : ArrT P s o N' := by
  have fr : ∀ v i, o.dst ≠ some i → putT s.t o.dst v i = s.t i := by
    intro v i hi
    cases hd : o.dst with
    | none => rfl
    | some d =>
      simp only [putT, setT]
      rw [if_neg]
      rintro rfl
      exact hi hd
  unfold ArrT at k ⊢
  split at k
  · obtain ⟨hop, e, hu, hy, k⟩ := k
    refine ⟨hop, e, hu, hy, ?_⟩
    rcases k with ⟨rows, hr, k⟩ | ⟨l, off, len, cap, hr, k⟩
    · exact .inl ⟨rows, hr, fun b hb => h _ (fun i hi _ => fr _ i hi) (k b hb)⟩
    · exact .inr ⟨l, off, len, cap, hr, fun b hb => h _ (fun i hi _ => fr _ i hi) (k b hb)⟩
  · obtain ⟨a, e, n, z, h1, h2, h3, h4, h5, h6, h7, h8, h9, h10, h11, k⟩ := k
    exact ⟨a, e, n, z, h1, h2, h3, h4, h5, h6, h7, h8, h9, h10, h11, h _ (fun i hi _ => fr _ i hi) k⟩
  · obtain ⟨e, q, hx, k⟩ := k
    exact ⟨e, q, hx, h _ (fun i hi _ => fr _ i hi) k⟩
  · obtain ⟨h1, h2, hh, q, e, h3, h4, h5, h6, k⟩ := k
    refine ⟨h1, h2, hh, q, e, h3, h4, h5, h6, ?_⟩
    rcases k with ⟨h7, k⟩ | ⟨l, len, cap, d, h7, h8, h9, h10, k⟩
    · exact .inl ⟨h7, h _ (fun i hi _ => fr _ i hi) k⟩
    · refine .inr ⟨l, len, cap, d, h7, h8, h9, h10, h _ (fun i hi hna => ?_) k⟩
      have hid : i ≠ d := by rintro rfl; exact hi h9
      show (if i = d then _ else killT l s.t i) = s.t i
      rw [if_neg hid]
      exact na_kill (fun k hk => by have h9 : k = l := (by simpa using hk); omega) hna
  · obtain ⟨x, y, ty, tn, e, kn, k1, n, a, z, h1, h2, h3, h4, h5, h6, h7, h8, h9, h10, h11, h12, h13, h14, h15, k⟩ := k
    exact ⟨x, y, ty, tn, e, kn, k1, n, a, z, h1, h2, h3, h4, h5, h6, h7, h8, h9, h10, h11, h12, h13, h14, h15, h _ (fun i hi _ => fr _ i hi) k⟩
  · exact k

theorem gh_na {P : Program} {s s' : St} (h : Gh P s s') (i : Nat) (hi : (s.t i).na = true) : s'.t i = s.t i := by
  induction h with
  | refl s => rfl
  | @frz s s' l e rows rest hl hr hm h ih =>
    have h1 : (s.frz l e rows).t i = s.t i := na_frz (by omega) hi
    rw [ih (by rw [h1]; exact hi), h1]
  | @drop s s' l hl h ih =>
    have h1 : (s.drop l).t i = s.t i := na_kill (fun k hk => by have h9 : k = l := (by simpa using hk); omega) hi
    rw [ih (by rw [h1]; exact hi), h1]

/-! ### Soundness -/
section
variable {P : Program} {B : Nat} {X : Nat → Prop} {w0 : World} {S0 : Nat → Nat → Prop} {pa : Nat → Option (Nat × Nat)} {n : Nat}

theorem rel_drop {a : Act} {w : World} {s : St} {l : Nat} (h : Rel P B X w0 S0 pa n a w s.R) (hl : pa l = none) : Rel P B X w0 S0 pa n a w (s.drop l).R := by
  obtain ⟨E, rfl, hwi, hv, hd, hn, hp⟩ := h
  have hml : ∀ k, (s.drop l).m k ≠ [] ↔ s.m k ≠ [] ∧ (k == l) = false := by
    intro k
    show (if k = l then [] else (s.m k).map _) ≠ [] ↔ _
    by_cases hk : k = l <;> simp [hk]
  refine ⟨envKill E (fun k => k == l), rfl, ⟨hwi.fr, hwi.hB, hwi.s0, hwi.sNew, hwi.slt, fun k => ?_, ?_, ?_, ?_, hwi.ownne, hwi.new, hwi.deadn, hwi.deado⟩, fun i => vr_kill3 _ _ (hv i), hd, hn, ?_⟩
  · show E.A k ∧ (k == l) = false ↔ (s.drop l).m k ≠ []
    rw [hml, hwi.hA k]; rfl
  · intro k hk
    obtain ⟨h1, h2⟩ := (hml k).1 hk
    obtain ⟨cs, e, hh, hc, hs, hb⟩ := hwi.loc k h1
    refine ⟨cs, e, hh, ?_, hs, hb⟩
    have h3 : ¬ (k = l) := by simpa using h2
    have : (s.drop l).R.m k = (s.m k).map (kill1 (fun k => k == l)) := by simp only [St.R, St.drop, killM, if_neg h3]
    rw [this]
    refine ⟨hc.1, by show ((s.m k).map _).length ≤ E.cp k; rw [List.length_map]; exact hc.2.1, fun i v y hv hy => ?_⟩
    rw [List.getElem?_map, Option.map_eq_some_iff] at hy
    obtain ⟨x, hx, rfl⟩ := hy
    exact ⟨vr_own_kill (hc.2.2 i v x hv hx).1, (hc.2.2 i v x hv hx).2⟩
  · intro k k' hk hk' he
    exact hwi.locne k k' ((hml k).1 hk).1 ((hml k').1 hk').1 he
  · intro nw k v e hr
    obtain ⟨h1, h2⟩ := hwi.own nw k v e hr
    exact ⟨h1, fun l hl => h2 l ((hml l).1 hl).1⟩
  · intro k b hk
    refine ⟨⟨(hp k b hk).1, ?_⟩, (hp k b hk).2⟩
    by_cases h1 : k = l
    · subst h1; rw [hl] at hk; cases hk
    · simpa using h1

/-- The state with array l frozen. -/
def envFrz (E : Env) (l m : Nat) : Env := { E with S := fun b o => E.S b o ∨ (E.A l ∧ b = E.β l ∧ o < m), A := fun k => E.A k ∧ k ≠ l }

theorem rflat_get {sz : Nat} : ∀ (rows : List (List C)) (i j : Nat) (r : List C) (c : C), (∀ r ∈ rows, r.length = sz) → rows[i]? = some r → r[j]? = some c → rows.flatten[i * sz + j]? = some c
  | [], i, j, r, c, _, hi, _ => by simp at hi
  | r0 :: rows, i, j, r, c, hsz, hi, hj => by
    have h0 := hsz r0 List.mem_cons_self
    rw [List.flatten_cons]
    cases i with
    | zero =>
      simp at hi
      subst hi
      rw [Nat.zero_mul, Nat.zero_add, List.getElem?_append_left (List.getElem?_eq_some_iff.1 hj).1]
      exact hj
    | succ i =>
      rw [List.getElem?_append_right (by rw [h0, Nat.add_mul]; omega), h0, show (i + 1) * sz + j - sz = i * sz + j from by rw [Nat.add_mul]; omega]
      exact rflat_get rows i j r c (fun r hr => hsz r (List.mem_cons_of_mem _ hr)) (by simpa using hi) hj

theorem rflat_len {sz : Nat} : ∀ (rows : List (List C)), (∀ r ∈ rows, r.length = sz) → rows.flatten.length = rows.length * sz
  | [], _ => by simp
  | r :: rows, h => by
    rw [List.flatten_cons, List.length_append, h r List.mem_cons_self, rflat_len rows fun r hr => h r (List.mem_cons_of_mem _ hr), List.length_cons, Nat.add_mul]
    omega

theorem vr_frz1 {E : Env} {s : RSt} {l : Nat} {e : TypeId} {rows : List (List C)} {rest : List AV} (hl0 : 1000 ≤ l) (hwi : WI P B X w0 S0 E s) (hr : ∀ r ∈ rows, r.length = P.cellsOf e) (hm : s.m l = rows.flatten.map .c ++ rest) {v : Value} {x : AV}
    (h : VR P E v x) : VR P (envFrz E l (rows.length * P.cellsOf e)) v (frz1 l e rows x) := by
  have mono : ∀ {v : Value} {c : C}, Rd P E.w E.S v c → Rd P E.w (envFrz E l (rows.length * P.cellsOf e)).S v c := fun h => h.mono (fun _ _ _ _ h => h) (fun _ _ h => .inl h)
  cases h with
  | c v x h => exact .c _ _ (mono h)
  | nils => exact .nils
  | agg => exact .any _
  | tup => exact .any _
  | own v nw id e rows h ho => exact .own _ _ _ _ _ (mono h) ho
  | arr l' off len cap c e' hA hc hl hs hmx =>
    simp only [frz1]
    by_cases h1 : l' = l
    · subst h1
      rw [if_pos rfl]
      split
      · rename_i hc1
        obtain ⟨rfl, rfl, hlen⟩ := hc1
        obtain ⟨cs, et, hh, hblk, _⟩ := hwi.loc l' ((hwi.hA l').1 hA)
        have hfl := rflat_len rows hr
        have hcs : rows.length * P.cellsOf e' ≤ cs.size := by
          have h2 := hblk.2.1
          rw [hm] at h2
          simp only [List.length_append, List.length_map, hfl] at h2
          rw [hblk.1]
          omega
        have hle : len * P.cellsOf e' ≤ rows.length * P.cellsOf e' := Nat.mul_le_mul_right _ hlen
        refine .c _ _ (Rd.mk (L := cs.toList.take (len * P.cellsOf e')) (by simp; omega) hl (fun r h => hr r (List.mem_of_mem_take h)) (by simp; omega) ?_ ?_)
        · intro q v hq
          rw [List.getElem?_take] at hq
          split at hq
          · rename_i hlt
            exact ⟨(cell_of_row _ _ q _ _ _ hh).trans (by simpa using hq), .inr ⟨hA, rfl, by omega⟩⟩
          · cases hq
        · intro i j r c v hi hj hv
          rw [List.getElem?_take] at hi hv
          split at hi
          · split at hv
            · have h3 := rflat_get rows i j r c hr hi hj
              have h4 : (s.m l')[i * P.cellsOf e' + j]? = some (.c c) := by
                rw [hm, List.getElem?_append_left (by rw [List.length_map]; exact (List.getElem?_eq_some_iff.1 h3).1), List.getElem?_map, h3]
                rfl
              exact mono (vr_c_inv (hblk.2.2 _ v _ (by simpa using hv) h4).1)
            · cases hv
          · cases hi
      · exact .any _
    · rw [if_neg h1]
      exact .arr (E := envFrz E l _) _ _ _ _ _ _ ⟨hA, h1⟩ hc hl hs hmx
  | arr0 l' off a e' =>
    simp only [frz1]
    by_cases h1 : l' = l
    · rw [if_pos h1]
      split
      · rename_i hc1
        rw [List.take_zero]
        exact .c _ _ (.emp _ _ _)
      · exact .any _
    · rw [if_neg h1]; exact .arr0 _ _ _ _
  | ptr l' off hA =>
    simp only [frz1]
    split
    · exact .any _
    · rename_i h1; exact .ptr (E := envFrz E l _) _ _ ⟨hA, h1⟩
  | el b o xs vs h => exact .el b o xs vs fun j x hj => ⟨⟨(h j x hj).1.1, .inl (h j x hj).1.2⟩, mono (h j x hj).2⟩
  | fn f cs caps hn h =>
    simp only [frz1]
    split
    · rename_i hc
      simp only [List.all_eq_true] at hc
      refine .fn f cs caps hn fun i v x hv hx => ?_
      have hx0 := hc x (List.mem_of_getElem? hx)
      have hvx := h i v x hv hx
      cases hvx with
      | c v x h => exact .c _ _ (mono h)
      | nils => exact .nils
      | agg => simp [AV.na0] at hx0
      | tup => simp [AV.na0] at hx0
      | own v nw id e rows h ho => exact .own _ _ _ _ _ (mono h) ho
      | arr => simp [AV.na0] at hx0
      | arr0 => simp [AV.na0] at hx0
      | ptr l' off hA => simp only [AV.na0, decide_eq_true_eq] at hx0; exact .ptr (E := envFrz E l _) _ _ ⟨hA, by omega⟩
      | el b o xs vs h => exact .el b o xs vs fun j x hj => ⟨⟨(h j x hj).1.1, .inl (h j x hj).1.2⟩, mono (h j x hj).2⟩
      | fn f cs caps hn h =>
        simp only [AV.na0, List.isEmpty_iff] at hx0
        subst hx0
        exact .fn f cs [] hn (by simp)
      | und => exact .und
      | any => exact .any _
    · exact .any _
  | und => exact .und
  | any => exact .any _

theorem vr_frz2 {E : Env} {s : RSt} {l : Nat} {e : TypeId} {rows : List (List C)} {rest : List AV} (hl0 : 1000 ≤ l) (hwi : WI P B X w0 S0 E s) (hr : ∀ r ∈ rows, r.length = P.cellsOf e) (hm : s.m l = rows.flatten.map .c ++ rest) :
    ∀ v x, VR P E v x → VR P (envFrz E l (rows.length * P.cellsOf e)) v (frz2 l e rows x) :=
  vr_map2 (fun _ _ h => vr_frz1 hl0 hwi hr hm h) (fun _ => rfl) (fun x hx => by cases x <;> first | rfl | exact absurd rfl (hx _))
theorem vr_frz3 {E : Env} {s : RSt} {l : Nat} {e : TypeId} {rows : List (List C)} {rest : List AV} (hl0 : 1000 ≤ l) (hwi : WI P B X w0 S0 E s) (hr : ∀ r ∈ rows, r.length = P.cellsOf e) (hm : s.m l = rows.flatten.map .c ++ rest) :
    ∀ v x, VR P E v x → VR P (envFrz E l (rows.length * P.cellsOf e)) v (frz3 l e rows x) :=
  vr_map3 (vr_frz2 hl0 hwi hr hm) (fun _ => rfl) (fun x hx => by cases x <;> first | rfl | exact absurd rfl (hx _))

theorem rel_frz {a : Act} {w : World} {s : St} {l : Nat} {e : TypeId} {rows : List (List C)} {rest : List AV} (h : Rel P B X w0 S0 pa n a w s.R) (hX : ∀ b, X b → ∃ l c, pa l = some (b, c)) (hl0 : 1000 ≤ l) (hl : pa l = none)
    (hr : ∀ r ∈ rows, r.length = P.cellsOf e) (hm : s.m l = rows.flatten.map .c ++ rest) : Rel P B X w0 S0 pa n a w (s.frz l e rows).R := by
  obtain ⟨E, rfl, hwi, hv, hd, hn, hp⟩ := h
  have hml : ∀ k, (s.frz l e rows).m k ≠ [] ↔ s.m k ≠ [] ∧ k ≠ l := by
    intro k
    show (if k = l then [] else (s.m k).map _) ≠ [] ↔ _
    by_cases hk : k = l <;> simp [hk]
  have hB : E.A l → B ≤ E.β l := by
    intro hA
    obtain ⟨_, _, _, _, _, hb⟩ := hwi.loc l ((hwi.hA l).1 hA)
    rcases hb with hb | hb
    · exact hb
    · obtain ⟨k, c, hk⟩ := hX _ hb
      have h1 := hp k _ hk
      have := hwi.locne k l ((hwi.hA k).1 h1.1) ((hwi.hA l).1 hA) (congrArg Prod.fst h1.2)
      subst this
      rw [hl] at hk
      cases hk
  have hlt : E.A l → E.β l < E.w.heap.size := by
    intro hA
    obtain ⟨cs, e, hh, _⟩ := hwi.loc l ((hwi.hA l).1 hA)
    exact (Array.getElem?_eq_some_iff.1 hh).1
  refine ⟨envFrz E l (rows.length * P.cellsOf e), rfl, ⟨hwi.fr, hwi.hB, fun b o hs => .inl (hwi.s0 b o hs), ?_, ?_, fun k => ?_, ?_, ?_, ?_, hwi.ownne, hwi.new, hwi.deadn, hwi.deado⟩, fun i => vr_frz3 hl0 hwi hr hm _ _ (hv i), hd, hn, ?_⟩
  · intro b o hb
    rcases hb with hb | ⟨hA, rfl, _⟩
    · exact hwi.sNew b o hb
    · exact .inr (hB hA)
  · intro b o hb
    rcases hb with hb | ⟨hA, rfl, _⟩
    · exact hwi.slt b o hb
    · exact hlt hA
  · show E.A k ∧ k ≠ l ↔ (s.frz l e rows).m k ≠ []
    rw [hml, hwi.hA k]; rfl
  · intro k hk
    obtain ⟨h1, h2⟩ := (hml k).1 hk
    obtain ⟨cs, et, hh, hc, hs, hb⟩ := hwi.loc k h1
    refine ⟨cs, et, hh, ?_, ?_, hb⟩
    · have : (s.frz l e rows).R.m k = (s.m k).map (frz1 l e rows) := by simp only [St.R, St.frz, if_neg h2]
      rw [this]
      refine ⟨hc.1, by show ((s.m k).map _).length ≤ E.cp k; rw [List.length_map]; exact hc.2.1, fun i v y hv hy => ?_⟩
      rw [List.getElem?_map, Option.map_eq_some_iff] at hy
      obtain ⟨x, hx, rfl⟩ := hy
      exact ⟨vr_frz1 hl0 hwi hr hm (hc.2.2 i v x hv hx).1, (hc.2.2 i v x hv hx).2⟩
    · intro o ho
      rcases ho with ho | ⟨hA, hbl, _⟩
      · exact hs o ho
      · exact h2 (hwi.locne k l h1 ((hwi.hA l).1 hA) hbl)
  · intro k k' hk hk' he
    exact hwi.locne k k' ((hml k).1 hk).1 ((hml k').1 hk').1 he
  · intro nw k v et hrg
    obtain ⟨⟨g, m, cap, cur, e2, rfl, hB', hh, hsz, hn', hcap, hs⟩, h2⟩ := hwi.own nw k v et hrg
    refine ⟨⟨g, m, cap, cur, e2, rfl, hB', hh, hsz, hn', hcap, fun o ho => ?_⟩, fun k' hk' => h2 k' ((hml k').1 hk').1⟩
    rcases ho with ho | ⟨hA, hbl, _⟩
    · exact hs o ho
    · exact absurd (by simp [Value.ownBlock, hbl]) (h2 l ((hwi.hA l).1 hA))
  · intro k b hk
    refine ⟨⟨(hp k b hk).1, ?_⟩, (hp k b hk).2⟩
    rintro rfl
    rw [hl] at hk
    cases hk

theorem gh_sound {a : Act} {w : World} {s s' : St} (hX : ∀ b, X b → ∃ l c, pa l = some (b, c)) (hpa : ∀ l, 2000 ≤ l → pa l = none) (h : Gh P s s') : Rel P B X w0 S0 pa n a w s.R → Rel P B X w0 S0 pa n a w s'.R := by
  induction h with
  | refl s => exact id
  | frz l e rows rest hl hr hm h ih => exact fun hr' => ih (rel_frz hr' hX (by omega) (hpa l hl) hr hm)
  | drop l hl h ih => exact fun hr' => ih (rel_drop hr' (hpa l hl))
end
end Go.Rb
