/-
  What is proved: what stays through a loop. Conditions: none.
-/
import Derived.Test.YtoihccclnkhmaaaEngM
set_option linter.unusedVariables false
set_option linter.unusedSimpArgs false
set_option maxRecDepth 4000
namespace Go.Rb

/-! ### What stays through a loop -/

def vw1 : AV → AV
  | .own _ _ e rows => .c (.sl e rows)
  | .fn f caps => if caps.all AV.noOwn1 then .fn f caps else .any
  | .agg _ => .any
  | .tup _ => .any
  | x => x

def vw2 : AV → AV
  | .agg xs => .agg (xs.map vw1)
  | x => vw1 x

def vw3 : AV → AV
  | .tup xs => .tup (xs.map vw2)
  | x => vw2 x

def kill1 (M : Nat → Bool) : AV → AV
  | .ptr l off => if M l then .any else .ptr l off
  | .arr l off len cap e => if M l then .any else .arr l off len cap e
  | .fn f caps => if caps.all (fun x => match x with | .ptr l _ => !M l | .arr l _ _ _ _ => !M l | .fn _ cs => cs.isEmpty | .agg _ | .tup _ => false | _ => true) then .fn f caps else .any
  | .agg _ => .any
  | .tup _ => .any
  | x => x

def kill2 (M : Nat → Bool) : AV → AV
  | .agg xs => .agg (xs.map (kill1 M))
  | x => kill1 M x

/-- Pointers to the blocks of M are forgotten. -/
def kill3 (M : Nat → Bool) : AV → AV
  | .tup xs => .tup (xs.map (kill2 M))
  | x => kill2 M x

/-- As plain data, pointers to the blocks of M forgotten. -/
def vk (M : Nat → Bool) (x : AV) : AV := kill3 M (vw3 x)

theorem vw1_fin1 (p xo xn : Nat) (x : AV) : vw1 (fin1 p xo xn x) = vw1 x := by
  cases x with
  | own nw k e rows =>
    cases nw <;> simp only [fin1] <;> split <;> rfl
  | fn f caps =>
    simp only [fin1]
    split
    · rfl
    · rename_i h; simp [vw1, h]
  | _ => rfl

theorem vw2_fin2 (p xo xn : Nat) (x : AV) : vw2 (fin2 p xo xn x) = vw2 x := by
  cases x with
  | agg xs => simp [fin2, vw2, vw1_fin1]
  | own nw k e rows => cases nw <;> simp only [fin2, fin1] <;> split <;> rfl
  | fn f caps =>
    have := vw1_fin1 p xo xn (.fn f caps)
    simp only [fin2]
    simp only [fin1] at this ⊢
    split
    · rfl
    · rename_i h; simp [vw2, vw1, h]
  | _ => rfl

theorem vw3_fin3 (p xo xn : Nat) (x : AV) : vw3 (fin3 p xo xn x) = vw3 x := by
  cases x with
  | tup xs => simp [fin3, vw3, vw2_fin2]
  | agg xs => simp [fin3, fin2, vw3, vw2, vw1_fin1]
  | own nw k e rows => cases nw <;> simp only [fin3, fin2, fin1] <;> split <;> rfl
  | fn f caps =>
    simp only [fin3, fin2, fin1]
    split
    · rfl
    · rename_i h; simp [vw3, vw2, vw1, h]
  | _ => rfl

/-- Inner forgetting first makes no difference. -/
def SubM (M' M : Nat → Bool) : Prop := ∀ l, M' l = true → M l = true

theorem k1 {M M' : Nat → Bool} (h : SubM M' M) (x : AV) : kill1 M (vw1 (kill1 M' (vw1 x))) = kill1 M (vw1 x) := by
  cases x with
  | ptr l off =>
    show kill1 M (vw1 (if M' l then .any else .ptr l off)) = if M l then .any else .ptr l off
    by_cases h1 : M' l = true
    · rw [if_pos h1, if_pos (h l h1)]; rfl
    · rw [if_neg h1]; rfl
  | arr l off len cap e =>
    show kill1 M (vw1 (if M' l then .any else .arr l off len cap e)) = if M l then .any else .arr l off len cap e
    by_cases h1 : M' l = true
    · rw [if_pos h1, if_pos (h l h1)]; rfl
    · rw [if_neg h1]; rfl
  | fn f caps =>
    simp only [vw1]
    by_cases h0 : caps.all AV.noOwn1 = true
    · rw [if_pos h0]
      simp only [kill1]
      by_cases h1 : (caps.all (fun x => match x with | .ptr l _ => !M' l | .arr l _ _ _ _ => !M' l | .fn _ cs => cs.isEmpty | .agg _ | .tup _ => false | _ => true)) = true
      · rw [if_pos h1]; simp only [vw1, h0, if_true, kill1]
      · rw [if_neg h1]
        simp only [vw1, kill1]
        rw [if_neg]
        intro h2
        apply h1
        simp only [List.all_eq_true] at h2 ⊢
        intro x hx
        have := h2 x hx
        cases x with
        | ptr l off =>
          simp only [Bool.not_eq_true'] at this ⊢
          cases h3 : M' l with
          | false => rfl
          | true => rw [h l h3] at this; cases this
        | arr l off len cap e =>
          simp only [Bool.not_eq_true'] at this ⊢
          cases h3 : M' l with
          | false => rfl
          | true => rw [h l h3] at this; cases this
        | _ => exact this
    · rw [if_neg h0]; rfl
  | _ => rfl

theorem k2 {M M' : Nat → Bool} (h : SubM M' M) (x : AV) : kill2 M (vw2 (kill2 M' (vw2 x))) = kill2 M (vw2 x) := by
  cases x with
  | agg xs => simp [vw2, kill2, k1 h]
  | ptr l off =>
    show kill2 M (vw2 (if M' l then .any else .ptr l off)) = if M l then .any else .ptr l off
    by_cases h1 : M' l = true
    · rw [if_pos h1, if_pos (h l h1)]; rfl
    · rw [if_neg h1]; rfl
  | arr l off len cap e =>
    show kill2 M (vw2 (if M' l then .any else .arr l off len cap e)) = if M l then .any else .arr l off len cap e
    by_cases h1 : M' l = true
    · rw [if_pos h1, if_pos (h l h1)]; rfl
    · rw [if_neg h1]; rfl
  | fn f caps =>
    have := k1 h (.fn f caps)
    rw [show vw2 (.fn f caps) = vw1 (.fn f caps) from rfl]
    have e1 : ∀ y, (∀ xs, y ≠ AV.agg xs) → kill2 M y = kill1 M y := by intro y hy; cases y <;> first | rfl | exact absurd rfl (hy _)
    have e2 : ∀ y, (∀ xs, y ≠ AV.agg xs) → vw2 y = vw1 y := by intro y hy; cases y <;> first | rfl | exact absurd rfl (hy _)
    have e3 : ∀ y, (∀ xs, y ≠ AV.agg xs) → kill2 M' y = kill1 M' y := by intro y hy; cases y <;> first | rfl | exact absurd rfl (hy _)
    have n1 : ∀ xs, vw1 (.fn f caps) ≠ AV.agg xs := by intro xs hx; simp only [vw1] at hx; split at hx <;> cases hx
    have n2 : ∀ xs, kill1 M' (vw1 (.fn f caps)) ≠ AV.agg xs := by
      intro xs hx
      simp only [vw1] at hx
      split at hx
      · simp only [kill1] at hx; split at hx <;> cases hx
      · cases hx
    have n3 : ∀ y xs, vw1 y ≠ AV.agg xs := by
      intro y xs hx
      cases y <;> simp only [vw1] at hx <;> first | cases hx | (split at hx <;> cases hx)
    rw [e3 _ n1, e2 _ n2, e1 _ (n3 _), e1 _ n1, this]
  | _ => rfl

theorem vk_vk {M M' : Nat → Bool} (h : SubM M' M) (x : AV) : vk M (vk M' x) = vk M x := by
  have e1 : ∀ N y, (∀ xs, y ≠ AV.tup xs) → kill3 N y = kill2 N y := by intro N y hy; cases y <;> first | rfl | exact absurd rfl (hy _)
  have e2 : ∀ y, (∀ xs, y ≠ AV.tup xs) → vw3 y = vw2 y := by intro y hy; cases y <;> first | rfl | exact absurd rfl (hy _)
  have n1 : ∀ y xs, vw2 y ≠ AV.tup xs := by
    intro y xs hx
    cases y <;> simp only [vw2, vw1] at hx <;> first | cases hx | (split at hx <;> cases hx)
  have n2 : ∀ N y xs, kill2 N y ≠ AV.tup xs := by
    intro N y xs hx
    cases y <;> simp only [kill2, kill1] at hx <;> first | cases hx | (split at hx <;> cases hx)
  unfold vk
  by_cases hx : ∃ xs, x = AV.tup xs
  · obtain ⟨xs, rfl⟩ := hx
    simp [vw3, kill3, k2 h]
  · have hx' : ∀ xs, x ≠ AV.tup xs := fun xs he => hx ⟨xs, he⟩
    rw [e2 x hx', e1 M' _ (n1 _), e2 _ (n2 _ _), e1 M _ (n1 _), e1 M _ (n1 _), k2 h]

/-! ### Soundness of forgetting -/

theorem vr_vw1 {P : Program} {E : Env} {v : Value} {x : AV} (h : VR P E v x) : VR P E v (vw1 x) := by
  cases h with
  | own v nw id e rows h ho => exact .c _ _ h
  | fn f cs caps hn h =>
    simp only [vw1]
    split
    · exact .fn f cs caps hn h
    · exact .any _
  | agg => exact .any _
  | tup => exact .any _
  | c v x h => exact .c _ _ h
  | nils => exact .nils
  | arr l off len cap c e h hc hl hs hm => exact .arr _ _ _ _ _ _ h hc hl hs hm
  | arr0 l off a e => exact .arr0 _ _ _ _
  | ptr l off h => exact .ptr _ _ h
  | el b o xs vs h => exact .el b o xs vs h
  | und => exact .und
  | any => exact .any _

def envKill (E : Env) (M : Nat → Bool) : Env := { E with A := fun l => E.A l ∧ M l = false }

theorem vr_own_kill {P : Program} {E : Env} {M : Nat → Bool} {v : Value} {x : AV} (h : VR P E v x) : VR P (envKill E M) v (kill1 M x) := by
  cases h with
  | own v nw id e rows h ho => exact .own _ _ _ _ _ h ho
  | fn f cs caps hn h =>
    simp only [kill1]
    split
    · rename_i hc
      simp only [List.all_eq_true] at hc
      refine .fn f cs caps hn fun i v x hv hx => ?_
      have h1 := hc x (List.mem_of_getElem? hx)
      have h2 := h i v x hv hx
      cases h2 with
      | own v nw id e rows h ho => exact .own _ _ _ _ _ h ho
      | fn f cs caps hn h =>
        have : caps = [] := by simpa using h1
        subst this
        exact .fn f cs [] hn (by simp)
      | agg => simp at h1
      | tup => simp at h1
      | c v x h => exact .c _ _ h
      | nils => exact .nils
      | arr l off len cap c e h hc hl hs hm => exact .arr (E := envKill E M) _ _ _ _ _ _ ⟨h, by simpa using h1⟩ hc hl hs hm
      | arr0 l off a e => exact .arr0 _ _ _ _
      | ptr l off h => exact .ptr _ _ ⟨h, by simpa using h1⟩
      | el b o xs vs h => exact .el b o xs vs h
      | und => exact .und
      | any => exact .any _
    · exact .any _
  | agg => exact .any _
  | tup => exact .any _
  | c v x h => exact .c _ _ h
  | nils => exact .nils
  | arr0 l off a e =>
    simp only [kill1]
    split
    · exact .any _
    · exact .arr0 _ _ _ _
  | arr l off len cap c e h hc hl hs hm =>
    simp only [kill1]
    split
    · exact .any _
    · rename_i hk; exact .arr (E := envKill E M) _ _ _ _ _ _ ⟨h, by simpa using hk⟩ hc hl hs hm
  | ptr l off h =>
    simp only [kill1]
    split
    · exact .any _
    · rename_i hc; exact .ptr (E := envKill E M) _ _ ⟨h, by simpa using hc⟩
  | el b o xs vs h => exact .el b o xs vs h
  | und => exact .und
  | any => exact .any _

theorem vr_map2 {P : Program} {E E' : Env} {f1 f2 : AV → AV} (h1 : ∀ v x, VR P E v x → VR P E' v (f1 x)) (hagg : ∀ xs, f2 (.agg xs) = .agg (xs.map f1)) (hother : ∀ x, (∀ xs, x ≠ .agg xs) → f2 x = f1 x) :
    ∀ v x, VR P E v x → VR P E' v (f2 x) := by
  intro v x h
  by_cases hx : ∃ xs, x = .agg xs
  · obtain ⟨xs, rfl⟩ := hx
    rw [hagg]
    cases h with
    | agg vs _ hn ho hr =>
      refine .agg vs _ (by simpa using hn) ho fun i v y hv hy => ?_
      rw [List.getElem?_map, Option.map_eq_some_iff] at hy
      obtain ⟨x, hx, rfl⟩ := hy
      exact h1 _ _ (hr i v x hv hx)
  · rw [hother x fun xs he => hx ⟨xs, he⟩]; exact h1 v x h

theorem vr_map3 {P : Program} {E E' : Env} {f2 f3 : AV → AV} (h2 : ∀ v x, VR P E v x → VR P E' v (f2 x)) (htup : ∀ xs, f3 (.tup xs) = .tup (xs.map f2)) (hother : ∀ x, (∀ xs, x ≠ .tup xs) → f3 x = f2 x) :
    ∀ v x, VR P E v x → VR P E' v (f3 x) := by
  intro v x h
  by_cases hx : ∃ xs, x = .tup xs
  · obtain ⟨xs, rfl⟩ := hx
    rw [htup]
    cases h with
    | tup vs _ hn hr =>
      refine .tup vs _ (by simpa using hn) fun i v y hv hy => ?_
      rw [List.getElem?_map, Option.map_eq_some_iff] at hy
      obtain ⟨x, hx, rfl⟩ := hy
      exact h2 _ _ (hr i v x hv hx)
  · rw [hother x fun xs he => hx ⟨xs, he⟩]; exact h2 v x h

theorem vr_vw3 {P : Program} {E : Env} : ∀ (v : Value) (x : AV), VR P E v x → VR P E v (vw3 x) :=
  vr_map3 (vr_map2 (fun _ _ h => vr_vw1 h) (fun _ => rfl) (fun x hx => by cases x <;> first | rfl | exact absurd rfl (hx _))) (fun _ => rfl) (fun x hx => by cases x <;> first | rfl | exact absurd rfl (hx _))

theorem vr_kill3 {P : Program} {E : Env} {M : Nat → Bool} : ∀ (v : Value) (x : AV), VR P E v x → VR P (envKill E M) v (kill3 M x) :=
  vr_map3 (vr_map2 (fun _ _ h => vr_own_kill h) (fun _ => rfl) (fun x hx => by cases x <;> first | rfl | exact absurd rfl (hx _))) (fun _ => rfl) (fun x hx => by cases x <;> first | rfl | exact absurd rfl (hx _))

def inM (M : List Nat) : Nat → Bool := fun l => M.contains l
/-- The blocks of M, and all arrays of one's own (their numbers begin at 1000). -/
def inA (M : List Nat) : Nat → Bool := fun l => M.contains l || decide (1000 ≤ l)

/-- The state at a loop's head: what the round writes (W) keeps its rights, the rest is plain data; the blocks that the round makes (M) are forgotten. -/
def St.cut (s : St) (W M : List Nat) : St :=
  { t := fun i => if W.contains i then kill3 (inM M) (s.t i) else kill3 (inM M) (vw3 (s.t i)), m := fun l => if M.contains l then [] else (s.m l).map (kill1 (inM M)) }

theorem rel_cut {P : Program} {B : Nat} {X : Nat → Prop} {w0 : World} {S0 : Nat → Nat → Prop} {pa : Nat → Option (Nat × Nat)} {n : Nat} {a : Act} {w : World} {s : St} {W M : List Nat}
    (h : Rel P B X w0 S0 pa n a w s.R) (hpa : ∀ l, M.contains l = true → pa l = none) : Rel P B X w0 S0 pa n a w (s.cut W M).R := by
  obtain ⟨E, rfl, hwi, hv, hd, hn, hp⟩ := h
  have hml : ∀ l, (s.cut W M).m l ≠ [] ↔ s.m l ≠ [] ∧ M.contains l = false := by
    intro l
    show (if M.contains l = true then [] else (s.m l).map (kill1 (inM M))) ≠ [] ↔ _
    cases hc : M.contains l with
    | true => simp only [if_true, ne_eq, not_true_eq_false, false_iff, not_and]; intro _ h; cases h
    | false => simp only [Bool.false_eq_true, if_false, ne_eq, List.map_eq_nil_iff, and_true]
  refine ⟨envKill E (inM M), rfl, ⟨hwi.fr, hwi.hB, hwi.s0, hwi.sNew, hwi.slt, fun l => ?_, ?_, ?_, ?_, hwi.ownne, hwi.new, hwi.deadn, hwi.deado⟩, fun i => ?_, hd, hn, ?_⟩
  · show E.A l ∧ M.contains l = false ↔ (s.cut W M).m l ≠ []
    rw [hml, hwi.hA l]; rfl
  · intro l hl
    obtain ⟨h1, h2⟩ := (hml l).1 hl
    obtain ⟨cs, e, hh, hc, hs, hb⟩ := hwi.loc l h1
    refine ⟨cs, e, hh, ?_, hs, hb⟩
    have : (s.cut W M).R.m l = (s.m l).map (kill1 (inM M)) := by simp only [St.R, St.cut, h2, Bool.false_eq_true, if_false]
    rw [this]
    refine ⟨hc.1, by show ((s.m l).map _).length ≤ E.cp l; rw [List.length_map]; exact hc.2.1, fun i v y hv hy => ?_⟩
    rw [List.getElem?_map, Option.map_eq_some_iff] at hy
    obtain ⟨x, hx, rfl⟩ := hy
    exact ⟨vr_own_kill (hc.2.2 i v x hv hx).1, (hc.2.2 i v x hv hx).2⟩
  · intro l l' hl hl' he
    exact hwi.locne l l' ((hml l).1 hl).1 ((hml l').1 hl').1 he
  · intro nw k v e hr
    obtain ⟨h1, h2⟩ := hwi.own nw k v e hr
    exact ⟨h1, fun l hl => h2 l ((hml l).1 hl).1⟩
  · simp only [St.R, St.cut]
    split
    · exact vr_kill3 _ _ (hv i)
    · exact vr_kill3 _ _ (vr_vw3 _ _ (hv i))
  · intro l b hl
    refine ⟨⟨(hp l b hl).1, ?_⟩, (hp l b hl).2⟩
    cases h1 : M.contains l with
    | false => exact h1
    | true => rw [hpa l h1] at hl; cases hl

end Go.Rb
