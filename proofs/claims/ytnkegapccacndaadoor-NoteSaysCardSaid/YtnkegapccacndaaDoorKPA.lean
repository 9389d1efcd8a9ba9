/-
  What is proved, part by part: What is stated: the program's data as plain Lean types. how loops run; plain operations in plain words. texts as words between one and the same byte; numerals read back. records and what is asked of them, as a plain function. a record as a text, and read back, as plain functions; the one undoes the other. a disk's text as lines of records, as plain functions; whole lines are read back, a torn one is left. slices cloned, held against each other, put together: in plain words, for elements of any kind. facts on the types of the program. what note.Check comes to. what note.words comes to. the layings of the functions of Go's library that the program reaches. strconv.Itoa of Go's library is known by its answer. what note.Print comes to. what rainbooklaw.batch comes to. strings.Split of Go's library is known by its answer. what slices.Index[[]string,string] comes to. strconv.Atoi of Go's library is known by its answer. what note.Parse comes to. what slices.Equal[[]api.Entry,api.Entry] comes to. what note.Same comes to. what rainbooklaw.noted comes to. what rainbooklaw.NoteBack comes to. records checked, printed, read back by the program: what its functions come to, in plain words. a text read by the program, and the law of notes: what its functions come to, in plain words. strings.Cut of Go's library is known by its answer. what disk.lines comes to. what disk.Check comes to. what slices.Grow[[]byte,byte] comes to. what slices.Concat[[]byte,byte] comes to. what disk.Recover comes to. what disk.Sync comes to. what slices.Clone[[]byte,byte] comes to. what disk.Put comes to. what disk.Crash comes to. what slices.Equal[[]byte,byte] comes to. what disk.Same comes to. what rainbooklaw.at comes to. what rainbooklaw.filed comes to. disks: what the program's functions come to, in plain words. what rainbooklaw.DiskKeeps$1 comes to. what slices.Grow[[]api.Rec,api.Rec] comes to. what slices.Concat[[]api.Rec,api.Rec] comes to. what slices.EqualFunc[[]api.Rec,[]api.Rec,api.Rec,api.Rec] comes to. Conditions: none.
-/
import Derived.Test.YtnkegapccacndaaDoorKED
import Derived.Lib.CountLaws
import Derived.Lib.AtoiAllCases
import Derived.Lib.ParseIntBTie
import Derived.Lib.ItoaMem
import Derived.Lib.ItoaLen
import Derived.Lib.Split
import Derived.Lib.IndexBytes
import Derived.Test.YtnkegapccacndaaDoorProg
import Derived.KernelRfl
import Derived.Shelf.LaysM
import Derived.Shelf.LaysC
set_option linter.unusedVariables false
set_option linter.unusedSimpArgs false
set_option linter.unnecessarySimpa false
set_option maxRecDepth 4000
namespace Go.Rb
abbrev Pt := Int × Int
abbrev Pt.t (p : Pt) : Int := Prod.fst p
abbrev Pt.v (p : Pt) : Int := Prod.snd p
abbrev Bk := Int × Int × Int × List Bool
abbrev Bk.n (b : Bk) : Int := Prod.fst b
abbrev Bk.fr (b : Bk) : Int := Prod.fst (Prod.snd b)
abbrev Bk.to (b : Bk) : Int := Prod.fst (Prod.snd (Prod.snd b))
abbrev Bk.bits (b : Bk) : List Bool := Prod.snd (Prod.snd (Prod.snd b))
abbrev Rowd := List Bk × List Pt
abbrev Rowd.blocks (r : Rowd) : List Bk := Prod.fst r
abbrev Rowd.head (r : Rowd) : List Pt := Prod.snd r
abbrev Ent := Int × Int × Int
abbrev Rc := Int × Int × Int × List Ent
def inR64 (n : Int) : Prop := -9223372036854775808 ≤ n ∧ n ≤ 9223372036854775807
theorem wr_id {n : Int} (h1 : -9223372036854775808 ≤ n) (h2 : n ≤ 9223372036854775807) : IntKind.wrap .i64 n = n := by rw [IntKind.wrap_i64]; omega
end Go.Rb
namespace Go.Kx
open Go.Rb
/-! ### Tests -/
theorem ifB_t {α : Type} (x y : α) : ifB true x y = x := rfl
theorem ifB_f {α : Type} (x y : α) : ifB false x y = y := rfl
theorem ifB_same {α : Type} (b : Bool) (x : α) : ifB b x x = x := by cases b <;> rfl
theorem ifB_if {α : Type} (b : Bool) (x y : α) : ifB b x y = if b = true then x else y := by cases b <;> rfl
theorem ifB_dec {α : Type} (p : Prop) [Decidable p] (x y : α) : ifB (decide p) x y = if p then x else y := by by_cases h : p <;> simp [ifB, h]
theorem ifB_ltI {α : Type} (a b : Int) (x y : α) : ifB (ltI a b) x y = if a < b then x else y := ifB_dec _ _ _
theorem ifB_leI {α : Type} (a b : Int) (x y : α) : ifB (leI a b) x y = if a ≤ b then x else y := ifB_dec _ _ _
theorem ifB_gtI {α : Type} (a b : Int) (x y : α) : ifB (gtI a b) x y = if b < a then x else y := ifB_dec _ _ _
theorem ifB_geI {α : Type} (a b : Int) (x y : α) : ifB (geI a b) x y = if b ≤ a then x else y := ifB_dec _ _ _
theorem ifB_eqI {α : Type} (a b : Int) (x y : α) : ifB (eqI a b) x y = if a = b then x else y := by
  rw [ifB_if]; simp only [eqI, beq_iff_eq]
theorem ifB_neI {α : Type} (a b : Int) (x y : α) : ifB (neI a b) x y = if a = b then y else x := by
  rw [ifB_if]; simp only [neI, bne_iff_ne, ne_eq, ite_not]
theorem ifB_not {α : Type} (b : Bool) (x y : α) : ifB (notB b) x y = ifB b y x := by cases b <;> rfl
theorem ifB_and {α : Type} (a b : Bool) (x y : α) : ifB (ifB a b false) x y = ifB a (ifB b x y) y := by cases a <;> rfl
theorem ifB_eqB {α : Type} (a b : Bool) (x y : α) : ifB (eqB a b) x y = if a = b then x else y := by
  rw [ifB_if]; simp only [eqB, beq_iff_eq]
theorem ifB_isE {α β : Type} (l : List β) (x y : α) : ifB (isE l) x y = if l = [] then x else y := by cases l <;> rfl
theorem ifB_in1 {α β : Type} (l : List β) (a : Int) (x y : α) : ifB (in1 l a) x y = if 0 ≤ a ∧ a ≤ l.length then x else y := by rw [in1, ← Bool.decide_and]; exact ifB_dec _ _ _
theorem ifB_in2 {α β : Type} (l : List β) (a b : Int) (x y : α) : ifB (in2 l a b) x y = if 0 ≤ a ∧ a ≤ b ∧ b ≤ l.length then x else y := by rw [in2, ← Bool.decide_and, ← Bool.decide_and]; exact ifB_dec _ _ _
theorem ifB_in1N {α : Type} (c : Nat) (a : Int) (x y : α) : ifB (in1N c a) x y = if 0 ≤ a ∧ a ≤ c then x else y := by rw [in1N, ← Bool.decide_and]; exact ifB_dec _ _ _
theorem ifB_in2N {α : Type} (c : Nat) (a b : Int) (x y : α) : ifB (in2N c a b) x y = if 0 ≤ a ∧ a ≤ b ∧ b ≤ c then x else y := by rw [in2N, ← Bool.decide_and, ← Bool.decide_and]; exact ifB_dec _ _ _
theorem ifB_in1C {α : Type} (n c : Nat) (a : Int) (x y : α) : ifB (in1C n c a) x y = if 0 ≤ a ∧ a ≤ (max n c : Nat) then x else y := by rw [in1C, ← Bool.decide_and]; exact ifB_dec _ _ _
theorem ifB_in2C {α : Type} (n c : Nat) (a b : Int) (x y : α) : ifB (in2C n c a b) x y = if 0 ≤ a ∧ a ≤ b ∧ b ≤ (max n c : Nat) then x else y := by rw [in2C, ← Bool.decide_and, ← Bool.decide_and]; exact ifB_dec _ _ _
theorem ifB_inN {α β : Type} (l : List β) (o n : Nat) (x y : α) : ifB (inN l o n) x y = if o + n ≤ l.length then x else y := ifB_dec _ _ _
theorem ifB_ltL {α β : Type} (n : Int) (l : List β) (x y : α) : ifB (ltL n l) x y = if 0 ≤ n ∧ n < l.length then x else y := by rw [ltL, ← Bool.decide_and]; exact ifB_dec _ _ _
theorem ifB_ltN {α : Type} (n : Int) (c : Nat) (x y : α) : ifB (ltN n c) x y = if 0 ≤ n ∧ n < c then x else y := by rw [ltN, ← Bool.decide_and]; exact ifB_dec _ _ _
theorem ifB_roomA {α β : Type} (n : Nat) (a b : List β) (x y : α) : ifB (roomA n a b) x y = if (a.length + b.length + (a.length + b.length) / 4 + 192) * n ≤ 281474976710656 ∧ a.length + b.length ≤ 9223372036854775807 then x else y := by rw [roomA, ← Bool.decide_and]; exact ifB_dec _ _ _
theorem ifB_roomI {α : Type} (b : Nat) (n : Int) (x y : α) : ifB (roomI b n) x y = if 0 ≤ n ∧ n * b ≤ 140737488355328 ∧ n ≤ 9223372036854775807 then x else y := by rw [roomI, ← Bool.decide_and, ← Bool.decide_and]; exact ifB_dec _ _ _
theorem ifB_roomZ {α : Type} (b : Nat) (n : Int) (x y : α) : ifB (roomZ b n) x y = if 1 ≤ n ∧ n * b ≤ 140737488355328 ∧ n ≤ 9223372036854775807 then x else y := by rw [roomZ, ← Bool.decide_and, ← Bool.decide_and]; exact ifB_dec _ _ _
theorem ifB_roomS {α : Type} (a b : List UInt8) (x y : α) : ifB (roomS a b) x y = if (a.length : Int) + b.length ≤ 9223372036854775807 then x else y := ifB_dec _ _ _
theorem ifB_eqS {α : Type} (a b : List UInt8) (x y : α) : ifB (eqS a b) x y = if a = b then x else y := by
  rw [ifB_if]; simp only [eqS, beq_iff_eq]
theorem ifB_eqL {α : Type} (a b : List Int) (x y : α) : ifB (eqL a b) x y = if a = b then x else y := ifB_dec _ _ _
theorem ifB_fits {α β : Type} (n : Nat) (l : List β) (c : Nat) (x y : α) : ifB (fits n l c) x y = if l = [] ∨ n + l.length ≤ c then x else y := by
  cases l with
  | nil => simp [ifB, fits]
  | cons a l => rw [fits]; simp only [List.isEmpty_cons, Bool.false_or, ifB_dec, reduceCtorEq, false_or]
theorem bindO_some {α β : Type} (a : α) (f : α → Option β) : bindO (some a) f = f a := rfl
theorem bindO_none {α β : Type} (f : α → Option β) : bindO none f = none := rfl
theorem mapO_some {α β : Type} (a : α) (f : α → β) : mapO f (some a) = some (f a) := rfl
theorem mapO_none {α β : Type} (f : α → β) : mapO f none = none := rfl
theorem lenI_eq {α : Type} (l : List α) : lenI l = (l.length : Int) := rfl
theorem lenN_eq {α : Type} (l : List α) : lenN l = l.length := rfl
theorem cat_eq {α : Type} (a b : List α) : cat a b = a ++ b := rfl
theorem takeI_eq {α : Type} (a : List α) (b : Int) : takeI a b = a.take b.toNat := rfl
theorem dropI_eq {α : Type} (a : List α) (b : Int) : dropI a b = a.drop b.toNat := rfl
theorem sliI_eq {α : Type} (l : List α) (a b : Int) : sliI l a b = (l.take b.toNat).drop a.toNat := rfl
theorem setN_eq {α : Type} (l : List α) (n : Nat) (a : α) : setN l n a = l.set n a := rfl
theorem natI_eq (a : Int) : natI a = a.toNat := rfl
theorem intN_eq (a : Nat) : intN a = (a : Int) := rfl
theorem atI_nat {α : Type} [Inhabited α] {l : List α} {j : Nat} (h : j < l.length) : atI l (j : Int) = some (l.getD j default) := by
  rw [atI, if_pos (by omega), Int.toNat_natCast, List.getElem?_eq_getElem h]; simp [List.getD, List.getElem?_eq_getElem h]
theorem atN_nat {α : Type} [Inhabited α] {l : List α} {j : Nat} (h : j < l.length) : atN l j = some (l.getD j default) := by
  rw [atN, List.getElem?_eq_getElem h]; simp [List.getD, List.getElem?_eq_getElem h]
theorem wadd_in {a b : Int} (h : -9223372036854775808 ≤ a + b ∧ a + b ≤ 9223372036854775807) : wadd .i64 a b = a + b := wr_id h.1 h.2
theorem wadd_nat {j : Nat} (h : (j : Int) < 4611686018427387904) : wadd .i64 (j : Int) 1 = ((j + 1 : Nat) : Int) := by rw [wadd_in ⟨by omega, by omega⟩]; rfl
/-! ### Loops -/
def stepK {α β : Type} (o : Option (Sum β α)) (k : β → Option α) : Option α :=
  match o with
  | none => none
  | some (.inl y) => k y
  | some (.inr a) => some a
theorem stepK_none {α β : Type} (k : β → Option α) : stepK none k = none := rfl
theorem stepK_inl {α β : Type} (y : β) (k : β → Option α) : stepK (some (.inl y)) k = k y := rfl
theorem stepK_inr {α β : Type} (a : α) (k : β → Option α) : stepK (some (.inr a)) k = some a := rfl
theorem stepK_map {α β : Type} (o : Option α) (k : β → Option α) : stepK (mapO Sum.inr o) k = o := by cases o <;> rfl
theorem stepK_if {α β : Type} (p : Prop) [Decidable p] (x y : Option (Sum β α)) (k : β → Option α) : stepK (if p then x else y) k = if p then stepK x k else stepK y k := by split <;> rfl
theorem stepK_ifB {α β : Type} (b : Bool) (x y : Option (Sum β α)) (k : β → Option α) : stepK (ifB b x y) k = ifB b (stepK x k) (stepK y k) := by cases b <;> rfl
theorem stepK_bind {α β γ : Type} (o : Option γ) (f : γ → Option (Sum β α)) (k : β → Option α) : stepK (bindO o f) k = bindO o fun y => stepK (f y) k := by cases o <;> rfl
theorem loop_ind {α β : Type} {f : β → Option (Sum β α)} (G : β → Option α) (P : β → Prop) (μ : β → Nat)
    (h : ∀ x, P x → ∀ k : β → Option α, (∀ y, P y → μ y < μ x → k y = G y) → stepK (f x) k = G x) : ∀ (n : Nat) (x : β), P x → μ x < n → loopN n f x = G x
  | 0, x, _, hm => absurd hm (Nat.not_lt_zero _)
  | n + 1, x, hp, hm => by
    rw [loopN_succ, ← h x hp (loopN n f) (fun y hy hl => loop_ind G P μ h n y hy (by omega))]
    cases f x with
    | none => rfl
    | some s => cases s <;> rfl
theorem loop_range {α β γ σ : Type} [Inhabited γ] (l : List γ) (enc : Nat → σ → β) {f : β → Option (Sum β α)} (G : List γ → σ → Option α) (P : Nat → σ → Prop)
    (hs : ∀ (j : Nat) (s : σ), j < l.length → P j s → ∀ k : β → Option α, (∀ s', P (j + 1) s' → k (enc (j + 1) s') = G (l.drop (j + 1)) s') → stepK (f (enc j s)) k = G (l.getD j default :: l.drop (j + 1)) s)
    (he : ∀ s, P l.length s → ∀ k : β → Option α, stepK (f (enc l.length s)) k = G [] s) {s0 : σ} (h0 : P 0 s0) (hl : l.length < 9223372036854775808) : loopN maxR f (enc 0 s0) = G l s0 := by
  have key : ∀ (d j : Nat) (s : σ) (n : Nat), j + d = l.length → P j s → d < n → loopN n f (enc j s) = G (l.drop j) s := by
    intro d
    induction d with
    | zero =>
      intro j s n hj hp hn
      obtain ⟨n, rfl⟩ : ∃ m, n = m + 1 := ⟨n - 1, by omega⟩
      have hj' : j = l.length := by omega
      subst hj'
      rw [List.drop_length, ← he s hp (loopN n f), loopN_succ]
      cases f (enc l.length s) with
      | none => rfl
      | some q => cases q <;> rfl
    | succ d ih =>
      intro j s n hj hp hn
      obtain ⟨n, rfl⟩ : ∃ m, n = m + 1 := ⟨n - 1, by omega⟩
      have hlt : j < l.length := by omega
      have hd : l.drop j = l.getD j default :: l.drop (j + 1) := by rw [List.drop_eq_getElem_cons hlt]; simp [List.getD, List.getElem?_eq_getElem hlt]
      rw [hd, ← hs j s hlt hp (loopN n f) (fun s' hp' => ih (j + 1) s' n (by omega) hp' (by omega)), loopN_succ]
      cases f (enc j s) with
      | none => rfl
      | some q => cases q <;> rfl
  have := key l.length 0 s0 maxR (by omega) h0 (by unfold maxR; omega)
  simpa using this
end Go.Kx
namespace Go.Kx
end Go.Kx
namespace Go.Kx
end Go.Kx
namespace Go.Kx
open Go.Rb
def sp (c : UInt8) : List UInt8 → List (List UInt8)
  | [] => [[]]
  | b :: l => if b = c then [] :: sp c l else match sp c l with
    | [] => [[b]]
    | w :: r => (b :: w) :: r
def jn (c : UInt8) : List (List UInt8) → List UInt8
  | [] => []
  | w :: r => w ++ (r.map (c :: ·)).flatten
theorem sp_ne (c : UInt8) : ∀ l, sp c l ≠ []
  | [] => by simp [sp]
  | b :: l => by
    unfold sp
    split
    · simp
    · split <;> simp
theorem jn_cons (c : UInt8) (w : List UInt8) {r : List (List UInt8)} (h : r ≠ []) : jn c (w :: r) = w ++ c :: jn c r := by
  cases r with
  | nil => exact absurd rfl h
  | cons x r => simp [jn]
theorem jn_sp (c : UInt8) : ∀ l, jn c (sp c l) = l
  | [] => rfl
  | b :: l => by
    have ih := jn_sp c l
    have hn := sp_ne c l
    unfold sp
    split
    · rename_i h; subst h
      rw [jn_cons _ _ hn, ih]; rfl
    · split
      · rename_i h1 h2; exact absurd h2 hn
      · rename_i w r h2; rw [h2] at ih; simp only [jn] at ih ⊢; rw [List.cons_append, ih]
theorem sp_word (c : UInt8) : ∀ w : List UInt8, (∀ x ∈ w, x ≠ c) → sp c w = [w]
  | [], _ => rfl
  | b :: l, h => by
    unfold sp
    rw [if_neg (h b (by simp)), sp_word c l fun x hx => h x (by simp [hx])]
theorem sp_app (c : UInt8) : ∀ (w l : List UInt8), (∀ x ∈ w, x ≠ c) → sp c (w ++ c :: l) = w :: sp c l
  | [], l, _ => by simp [sp]
  | b :: w, l, h => by
    have ih := sp_app c w l fun x hx => h x (by simp [hx])
    show sp c (b :: (w ++ c :: l)) = _
    rw [sp, if_neg (h b (by simp)), ih]
theorem sp_jn (c : UInt8) : ∀ ws : List (List UInt8), ws ≠ [] → (∀ w ∈ ws, ∀ x ∈ w, x ≠ c) → sp c (jn c ws) = ws
  | [], h, _ => absurd rfl h
  | [w], _, h => by simp only [jn, List.map_nil, List.flatten_nil, List.append_nil]; exact sp_word c w (h w (by simp))
  | w :: v :: r, _, h => by
    rw [jn_cons _ _ (by simp), sp_app c w _ (h w (by simp)), sp_jn c (v :: r) (by simp) fun w hw => h w (by simp [hw])]
theorem sp_clean (c : UInt8) : ∀ l, ∀ w ∈ sp c l, ∀ x ∈ w, x ≠ c
  | [], w, hw, x, hx => by simp [sp] at hw; subst hw; cases hx
  | b :: l, w, hw, x, hx => by
    have ih := sp_clean c l
    have hn := sp_ne c l
    unfold sp at hw
    split at hw
    · rcases List.mem_cons.1 hw with rfl | hw
      · cases hx
      · exact ih w hw x hx
    · rename_i hb
      split at hw
      · rename_i h2; exact absurd h2 hn
      · rename_i v r h2
        rw [h2] at ih
        rcases List.mem_cons.1 hw with rfl | hw
        · rcases List.mem_cons.1 hx with rfl | hx
          · exact hb
          · exact ih v (by simp) x hx
        · exact ih w (by simp [hw]) x hx
theorem sp_len (c : UInt8) : ∀ l, (sp c l).length ≤ l.length + 1
  | [] => by simp [sp]
  | b :: l => by
    have ih := sp_len c l
    have hn := sp_ne c l
    unfold sp
    split
    · simp; omega
    · split
      · rename_i h2; exact absurd h2 hn
      · rename_i w r h2; rw [h2] at ih; simp at ih ⊢; omega
/-! ### Go's split -/
theorem index_one_none {c : UInt8} {l : List UInt8} (h : ∀ x ∈ l, x ≠ c) : Lib.index l [c] = -1 := by
  induction l with
  | nil => rfl
  | cons b l ih =>
    have ih := ih fun x hx => h x (by simp [hx])
    have hb := h b (by simp)
    have : [c].isPrefixOf (b :: l) = false := by simp [List.isPrefixOf]; exact fun e => hb e.symm
    unfold Lib.index
    rw [this, ih]; rfl
theorem index_one_app {c : UInt8} {w l : List UInt8} (h : ∀ x ∈ w, x ≠ c) : Lib.index (w ++ c :: l) [c] = w.length := by
  induction w with
  | nil => unfold Lib.index; simp [List.isPrefixOf]
  | cons b w ih =>
    have ih := ih fun x hx => h x (by simp [hx])
    have hb := h b (by simp)
    have : [c].isPrefixOf (b :: (w ++ c :: l)) = false := by simp [List.isPrefixOf]; exact fun e => hb e.symm
    rw [List.cons_append]
    unfold Lib.index
    rw [this, ih]
    have e : (((w.length : Nat) : Int) == -1) = false := by rw [beq_eq_false_iff_ne]; omega
    simp [e]
theorem split_words (c : UInt8) : ∀ (l : List UInt8), Lib.split l [c] = sp c l := by
  have key : ∀ (ws : List (List UInt8)), ws ≠ [] → (∀ w ∈ ws, ∀ x ∈ w, x ≠ c) → Lib.split (jn c ws) [c] = ws := by
    intro ws
    induction ws with
    | nil => intro h; exact absurd rfl h
    | cons w r ih =>
      intro _ h
      by_cases hr : r = []
      · subst hr
        simp only [jn, List.map_nil, List.flatten_nil, List.append_nil]
        unfold Lib.split
        rw [Lib.count_miss (index_one_none (h w (by simp)))]; rfl
      · rw [jn_cons _ _ hr]
        have hi : Lib.index (w ++ c :: jn c r) [c] = w.length := index_one_app (h w (by simp))
        have hd : (w ++ c :: jn c r).drop (w.length + [c].length) = jn c r := by
          rw [List.drop_append]; simp
        have hr2 := ih hr fun w hw => h w (by simp [hw])
        unfold Lib.split at hr2 ⊢
        rw [Lib.count_hit (by simp) hi, hd, Nat.add_comm 1, Lib.splitK, if_neg (by rw [hi]; intro e; have := beq_iff_eq.1 e; omega), hi]
        have e : ((w.length : Nat) : Int).toNat = w.length := by omega
        rw [e, hd, hr2]
        congr 1
        rw [List.take_append]; simp
  intro l
  have h := key (sp c l) (sp_ne c l) (sp_clean c l)
  rw [jn_sp] at h
  exact h
/-! ### Numerals -/
theorem digit_ok {n : Nat} (h : n < 10) : (UInt8.ofNat (48 + n)).toNat = 48 + n := by
  rw [UInt8.toNat_ofNat']; omega
theorem decDigits_digit (u : Nat) : ∀ b ∈ Lib.decDigits u, 48 ≤ b.toNat ∧ b.toNat ≤ 57 := by
  induction u using Nat.strongRecOn with
  | _ u ih =>
    intro b hb
    rw [Lib.decDigits] at hb
    split at hb
    · rename_i h
      rw [List.mem_singleton] at hb; subst hb
      rw [digit_ok h]; omega
    · rename_i h
      rcases List.mem_append.1 hb with hb | hb
      · exact ih (u / 10) (by omega) b hb
      · rw [List.mem_singleton] at hb; subst hb
        rw [digit_ok (by omega)]; omega
theorem decDigits_ne (u : Nat) : Lib.decDigits u ≠ [] := by
  rw [Lib.decDigits]; split <;> simp
theorem itoa_byte (n : Int) : ∀ b ∈ Lib.itoa n, b.toNat = 45 ∨ (48 ≤ b.toNat ∧ b.toNat ≤ 57) := by
  intro b hb
  unfold Lib.itoa at hb
  split at hb
  · rcases List.mem_cons.1 hb with rfl | hb
    · exact .inl rfl
    · exact .inr (decDigits_digit _ b hb)
  · exact .inr (decDigits_digit _ b hb)
theorem itoa_space (n : Int) : ∀ b ∈ Lib.itoa n, b ≠ 32 := by
  intro b hb e
  subst e
  rcases itoa_byte n _ hb with h | h
  · revert h; decide
  · revert h; decide
theorem parse_app : ∀ (l r : List UInt8) (a u : Nat), Lib.parseUint10 a l = .ok u → Lib.parseUint10 a (l ++ r) = Lib.parseUint10 u r
  | [], r, a, u, h => by simp only [Lib.parseUint10] at h; cases h; rfl
  | c :: l, r, a, u, h => by
    rw [List.cons_append]
    simp only [Lib.parseUint10] at h ⊢
    split at h
    · rename_i h1
      rw [if_pos h1]
      split at h
      · cases h
      · rename_i h2
        rw [if_neg h2]
        split at h
        · cases h
        · rename_i h3
          rw [if_neg h3]
          exact parse_app l r _ u h
    · cases h
theorem parse_digits (u : Nat) (hu : u < 18446744073709551616) : Lib.parseUint10 0 (Lib.decDigits u) = .ok u := by
  induction u using Nat.strongRecOn with
  | _ u ih =>
    rw [Lib.decDigits]
    split
    · rename_i h
      simp only [Lib.parseUint10, digit_ok h]
      rw [if_pos (by omega), if_neg (by omega), if_neg (by omega)]
      congr 1; omega
    · rename_i h
      rw [parse_app _ _ _ _ (ih (u / 10) (by omega) (by omega))]
      simp only [Lib.parseUint10, digit_ok (show u % 10 < 10 by omega)]
      rw [if_pos (by omega), if_neg (by omega), if_neg (by omega)]
      congr 1; omega
theorem parseMag_digits (u : Nat) (hu : u < 18446744073709551616) : Lib.parseMag (Lib.decDigits u) = .ok u := by
  unfold Lib.parseMag
  rw [if_neg (decDigits_ne u), parse_digits u hu]
theorem atoi_itoa (n : Int) (h0 : -9223372036854775808 ≤ n) (h1 : n ≤ 9223372036854775807) : Lib.atoiAll (Lib.itoa n) = .ok n := by
  unfold Lib.itoa
  split
  · rename_i h
    rw [Lib.atoiAll_minus, parseMag_digits _ (by omega)]
    simp only [Lib.signed]
    rw [if_neg (by omega)]
    congr 1; omega
  · rename_i h
    have hd := decDigits_digit n.toNat
    have hm := parseMag_digits n.toNat (by omega)
    have hne := decDigits_ne n.toNat
    cases hl : Lib.decDigits n.toNat with
    | nil => exact absurd hl hne
    | cons c r =>
      rw [hl] at hd hm
      have := hd c (by simp)
      rw [Lib.atoiAll_plain c r (by omega) (by omega), hm]
      simp only [Lib.signless]
      rw [if_neg (by omega)]
      congr 1; omega
end Go.Kx
namespace Go.Rb
open Go.Kx
def badEnt (x : Ent) : Prop := x.1 < 0 ∨ 4 ≤ x.1 ∨ x.2.1 < 0 ∨ 100000 < x.2.1 ∨ x.2.2 < -1000000 ∨ 1000000 < x.2.2
instance badEntDec (x : Ent) : Decidable (badEnt x) := inferInstanceAs (Decidable (_ ∨ _))
def entE : List Ent → Int
  | [] => 0
  | x :: l => if badEnt x then 3 else entE l
def chkRec (r : Rc) : Int :=
  if r.1 < 1 ∨ 4 < r.1 then 4 else
  if r.1 = 1 then (if ¬ r.2.1 = 0 ∨ ¬ r.2.2.1 = 0 then 4 else if 10 < r.2.2.2.length then 2 else entE r.2.2.2) else
  if 0 < r.2.2.2.length ∨ (r.1 = 4 ∧ ¬ r.2.1 = 0) then 4 else if r.2.1 < 0 ∨ 4 ≤ r.2.1 ∨ r.2.2.1 < 0 ∨ 100001 < r.2.2.1 then 3 else 0
theorem chkRec_kind {r : Rc} (h : chkRec r = 0) : 1 ≤ r.1 ∧ r.1 ≤ 4 ∧ (r.1 = 1 → r.2.1 = 0 ∧ r.2.2.1 = 0 ∧ r.2.2.2.length ≤ 10 ∧ entE r.2.2.2 = 0) ∧ (¬ r.1 = 1 → r.2.2.2 = [] ∧ 0 ≤ r.2.1 ∧ r.2.1 ≤ 3 ∧ 0 ≤ r.2.2.1 ∧ r.2.2.1 ≤ 100001 ∧ (r.1 = 4 → r.2.1 = 0)) := by
  unfold chkRec at h
  split at h
  · cases h
  · rename_i h1
    split at h
    · rename_i h2
      split at h
      · cases h
      · rename_i h3
        split at h
        · cases h
        · rename_i h4
          exact ⟨by omega, by omega, fun _ => ⟨by omega, by omega, by omega, h⟩, fun h => absurd h2 h⟩
    · rename_i h2
      split at h
      · cases h
      · rename_i h3
        split at h
        · cases h
        · rename_i h4
          refine ⟨by omega, by omega, fun h => absurd h h2, fun _ => ⟨List.eq_nil_of_length_eq_zero (by omega), by omega, by omega, by omega, by omega, fun h5 => ?_⟩⟩
          exact Classical.byContradiction fun h6 => h3 (.inr ⟨h5, h6⟩)
end Go.Rb
namespace Go.Kx
open Go.Rb
def kindW : List (List UInt8) := [[], [98, 97, 116, 99, 104], [115, 101, 97, 108], [109, 101, 114, 103, 101], [100, 114, 111, 112]]
def ixW : List (List UInt8) → List UInt8 → Int → Int
  | [], _, _ => -1
  | x :: r, w, i => if w = x then i else ixW r w (i + 1)
def nums : List (List UInt8) → Option (List Int)
  | [] => some []
  | x :: r => match Lib.atoiAll x with
    | .ok v => if Lib.itoa v = x then (nums r).map (v :: ·) else none
    | _ => none
def trip : List Int → List Ent
  | a :: b :: c :: r => (a, b, c) :: trip r
  | _ => []
def flatE : List Ent → List Int
  | [] => []
  | x :: r => x.1 :: x.2.1 :: x.2.2 :: flatE r
def recOf (k : Int) (ns : List Int) : Option Rc :=
  if k = 1 then (if ns.length % 3 = 0 then some (1, 0, 0, trip ns) else none) else
  if k = 2 ∨ k = 3 then (match ns with | [a, b] => some (k, a, b, []) | _ => none) else
  if k = 4 then (match ns with | [a] => some (4, 0, a, []) | _ => none) else none
def noRec : Rc := (0, 0, 0, [])
def parseW (w : List UInt8) (xs : List (List UInt8)) : Rc × Int := match nums xs with
  | none => (noRec, 1)
  | some ns => match recOf (ixW kindW w 0) ns with
    | none => (noRec, 1)
    | some r => if chkRec r = 0 then (r, 0) else (noRec, chkRec r)
def parseR (s : List UInt8) : Rc × Int := if 60000 < s.length then (noRec, 2) else parseW ((sp 32 s).headD []) (sp 32 s).tail
def rcArgs (r : Rc) : List Int := if r.1 = 1 then flatE r.2.2.2 else if r.1 = 4 then [r.2.2.1] else [r.2.1, r.2.2.1]
def textR (r : Rc) : List UInt8 := jn 32 (kindW.getD r.1.toNat [] :: (rcArgs r).map Lib.itoa)
def printR (r : Rc) : List UInt8 × Int := if chkRec r = 0 then (textR r, 0) else ([], chkRec r)
theorem trip_flat : ∀ l : List Ent, trip (flatE l) = l
  | [] => rfl
  | x :: r => by rw [flatE, trip, trip_flat r]
theorem flat_len : ∀ l : List Ent, (flatE l).length = 3 * l.length
  | [] => rfl
  | x :: r => by rw [flatE]; simp [flat_len r]; omega
theorem flat_trip : ∀ (n : Nat) (l : List Int), l.length = 3 * n → flatE (trip l) = l
  | 0, l, h => by have := List.eq_nil_of_length_eq_zero (show l.length = 0 by omega); subst this; rfl
  | n + 1, l, h => by
    match l, h with
    | a :: b :: c :: r, h => rw [trip, flatE, flat_trip n r (by simp at h; omega)]
    | [], h => simp at h
    | [_], h => simp at h; omega
    | [_, _], h => simp at h; omega
theorem nums_itoa : ∀ ns : List Int, (∀ n ∈ ns, inR64 n) → nums (ns.map Lib.itoa) = some ns
  | [], _ => rfl
  | n :: r, h => by
    rw [List.map_cons, nums, atoi_itoa n (h n (by simp)).1 (h n (by simp)).2]
    simp only [if_pos]
    rw [nums_itoa r fun m hm => h m (by simp [hm])]; rfl
theorem nums_back : ∀ (xs : List (List UInt8)) (ns : List Int), nums xs = some ns → xs = ns.map Lib.itoa ∧ ∀ n ∈ ns, inR64 n
  | [], ns, h => by cases h; exact ⟨rfl, fun _ h => by cases h⟩
  | x :: r, ns, h => by
    rw [nums] at h
    rcases hx : Lib.atoiAll x with v | _ | _
    · rw [hx] at h
      simp only at h
      split at h
      · rename_i he
        cases hr : nums r with
        | none => rw [hr] at h; cases h
        | some ms =>
          rw [hr] at h; cases h
          obtain ⟨h1, h2⟩ := nums_back r ms hr
          refine ⟨by rw [List.map_cons, he, ← h1], fun n hn => ?_⟩
          rcases List.mem_cons.1 hn with rfl | hn
          · exact Lib.atoiAll_bounds hx
          · exact h2 n hn
      · cases h
    · rw [hx] at h; cases h
    · rw [hx] at h; cases h
theorem ent_in {l : List Ent} (h : entE l = 0) : ∀ n ∈ flatE l, -1000000 ≤ n ∧ n ≤ 1000000 := by
  induction l with
  | nil => intro n hn; cases hn
  | cons x r ih =>
    rw [entE] at h
    split at h
    · cases h
    · rename_i hb
      unfold badEnt at hb
      intro n hn
      rw [flatE] at hn
      rcases List.mem_cons.1 hn with rfl | hn
      · omega
      · rcases List.mem_cons.1 hn with rfl | hn
        · omega
        · rcases List.mem_cons.1 hn with rfl | hn
          · omega
          · exact ih h n hn
theorem args_in {r : Rc} (h : chkRec r = 0) : (rcArgs r).length ≤ 30 ∧ ∀ n ∈ rcArgs r, -1000000 ≤ n ∧ n ≤ 1000000 := by
  obtain ⟨k1, k2, k3, k4⟩ := chkRec_kind h
  unfold rcArgs
  split
  · rename_i h1
    obtain ⟨_, _, a3, a4⟩ := k3 h1
    exact ⟨by rw [flat_len]; omega, ent_in a4⟩
  · rename_i h1
    obtain ⟨_, b1, b2, b3, b4, _⟩ := k4 h1
    split
    · exact ⟨by simp, fun n hn => by simp at hn; omega⟩
    · exact ⟨by simp, fun n hn => by simp at hn; omega⟩
theorem recOf_args {r : Rc} (h : chkRec r = 0) : recOf r.1 (rcArgs r) = some r := by
  obtain ⟨k1, k2, k3, k4⟩ := chkRec_kind h
  obtain ⟨k, a, b, l⟩ := r
  simp only at k1 k2 k3 k4
  unfold recOf rcArgs
  by_cases h1 : k = 1
  · obtain ⟨rfl, rfl, a3, a4⟩ := k3 h1
    subst h1
    simp only [if_pos]
    rw [if_pos (by rw [flat_len]; omega), trip_flat]
  · obtain ⟨rfl, b1, b2, b3, b4, b5⟩ := k4 h1
    rw [if_neg h1]
    by_cases h4 : k = 4
    · subst h4
      have := b5 rfl
      subst this
      simp
    · simp only [if_neg h1, if_neg h4]
      rw [if_pos (by omega)]
theorem args_recOf {k : Int} {ns : List Int} {r : Rc} (h : recOf k ns = some r) : r.1 = k ∧ rcArgs r = ns ∧ 1 ≤ k ∧ k ≤ 4 := by
  unfold recOf at h
  split at h
  · rename_i h1
    subst h1
    split at h
    · rename_i h2
      cases h
      refine ⟨rfl, ?_, by omega, by omega⟩
      unfold rcArgs
      simp only [if_pos]
      exact flat_trip (ns.length / 3) ns (by omega)
    · cases h
  · rename_i h1
    split at h
    · rename_i h2
      split at h
      · cases h
        refine ⟨rfl, ?_, by omega, by omega⟩
        unfold rcArgs
        simp only [if_neg h1]
        rw [if_neg (by omega)]
      · cases h
    · split at h
      · rename_i h4
        subst h4
        split at h
        · cases h
          exact ⟨rfl, rfl, by omega, by omega⟩
        · cases h
      · cases h
theorem kind_word {k : Int} (h1 : 1 ≤ k) (h2 : k ≤ 4) : ixW kindW (kindW.getD k.toNat []) 0 = k ∧ (∀ x ∈ kindW.getD k.toNat [], x ≠ 32) ∧ (kindW.getD k.toNat []).length ≤ 5 := by
  have : k = 1 ∨ k = 2 ∨ k = 3 ∨ k = 4 := by omega
  rcases this with rfl | rfl | rfl | rfl <;> decide
theorem ix_word {w : List UInt8} {k : Int} (h : ixW kindW w 0 = k) (h1 : 1 ≤ k) (h2 : k ≤ 4) : kindW.getD k.toNat [] = w := by
  unfold kindW at h
  simp only [ixW] at h
  split at h
  · omega
  · split at h
    · rename_i hw; subst hw; subst h; rfl
    · split at h
      · rename_i hw; subst hw; subst h; rfl
      · split at h
        · rename_i hw; subst hw; subst h; rfl
        · split at h
          · rename_i hw; subst hw; subst h; rfl
          · omega
theorem jn_len (c : UInt8) (w : List UInt8) (xs : List (List UInt8)) (m : Nat) (h : ∀ x ∈ xs, x.length ≤ m) : (jn c (w :: xs)).length ≤ w.length + xs.length * (m + 1) := by
  simp only [jn, List.length_append]
  have : ((xs.map (c :: ·)).flatten).length ≤ xs.length * (m + 1) := by
    induction xs with
    | nil => simp
    | cons x r ih =>
      have := ih fun y hy => h y (by simp [hy])
      have hx := h x (by simp)
      simp only [List.map_cons, List.flatten_cons, List.length_append, List.length_cons, Nat.add_mul]
      omega
  omega
theorem textR_len {r : Rc} (h : chkRec r = 0) : (textR r).length ≤ 700 := by
  obtain ⟨k1, k2, _, _⟩ := chkRec_kind h
  obtain ⟨h1, h2⟩ := args_in h
  obtain ⟨_, _, h3⟩ := kind_word k1 k2
  have := jn_len 32 (kindW.getD r.1.toNat []) ((rcArgs r).map Lib.itoa) 21 fun x hx => by
    obtain ⟨n, hn, rfl⟩ := List.mem_map.1 hx
    have := h2 n hn
    exact Lib.itoa_length_le n (by omega) (by omega)
  rw [List.length_map] at this
  unfold textR
  omega
theorem textR_words {r : Rc} (h : chkRec r = 0) : sp 32 (textR r) = kindW.getD r.1.toNat [] :: (rcArgs r).map Lib.itoa := by
  obtain ⟨k1, k2, _, _⟩ := chkRec_kind h
  unfold textR
  refine sp_jn 32 _ (by simp) fun w hw x hx => ?_
  rcases List.mem_cons.1 hw with rfl | hw
  · exact (kind_word k1 k2).2.1 x hx
  · obtain ⟨n, _, rfl⟩ := List.mem_map.1 hw
    exact itoa_space n x hx
theorem parse_print {r : Rc} (h : chkRec r = 0) : parseR (textR r) = (r, 0) := by
  obtain ⟨k1, k2, _, _⟩ := chkRec_kind h
  obtain ⟨_, h2⟩ := args_in h
  have hl := textR_len h
  unfold parseR parseW
  rw [if_neg (by omega), textR_words h]
  simp only [List.headD_cons, List.tail_cons]
  rw [nums_itoa _ fun n hn => by have := h2 n hn; exact ⟨by omega, by omega⟩]
  simp only
  rw [(kind_word k1 k2).1, recOf_args h]
  simp only [if_pos h]
theorem parseR_ok {s : List UInt8} (h : (parseR s).2 = 0) : chkRec (parseR s).1 = 0 ∧ textR (parseR s).1 = s := by
  unfold parseR at h ⊢
  split at h
  · cases h
  · rename_i hl
    rw [if_neg hl]
    unfold parseW at h ⊢
    have hj := jn_sp 32 s
    have hn := sp_ne 32 s
    cases hs : sp 32 s with
    | nil => exact absurd hs hn
    | cons w xs =>
    rw [hs] at h hj
    simp only [List.headD_cons, List.tail_cons] at h ⊢
    cases hx : nums xs with
    | none => rw [hx] at h; cases h
    | some ns =>
      rw [hx] at h
      simp only at h ⊢
      cases hr : recOf (ixW kindW w 0) ns with
      | none => rw [hr] at h; cases h
      | some r =>
        rw [hr] at h
        simp only at h ⊢
        split at h
        · rename_i hc
          rw [if_pos hc]
          refine ⟨hc, ?_⟩
          obtain ⟨e1, e2, e3, e4⟩ := args_recOf hr
          unfold textR
          rw [e1, e2, ix_word rfl e3 e4, ← (nums_back xs ns hx).1]
          exact hj
        · rename_i hc; exact absurd h hc
end Go.Kx
namespace Go.Kx
open Go.Rb
theorem sp_none (c : UInt8) {s : List UInt8} (h : ∀ x ∈ s, x ≠ c) : sp c s = [s] := sp_word c s h
theorem sp_cases (c : UInt8) : ∀ s : List UInt8, (∀ x ∈ s, x ≠ c) ∨ ∃ w l, s = w ++ c :: l ∧ (∀ x ∈ w, x ≠ c)
  | [] => .inl fun x hx => by cases hx
  | b :: s => by
    by_cases hb : b = c
    · subst hb; exact .inr ⟨[], s, rfl, fun x hx => by cases hx⟩
    · rcases sp_cases c s with h | ⟨w, l, rfl, h⟩
      · exact .inl fun x hx => by rcases List.mem_cons.1 hx with rfl | hx; exact hb; exact h x hx
      · exact .inr ⟨b :: w, l, rfl, fun x hx => by rcases List.mem_cons.1 hx with rfl | hx; exact hb; exact h x hx⟩
theorem cut_none {c : UInt8} {s : List UInt8} (h : ∀ x ∈ s, x ≠ c) : Lib.cut s [c] = (s, [], false) := by
  unfold Lib.cut
  rw [index_one_none h, if_neg (by omega)]
theorem cut_some {c : UInt8} {w l : List UInt8} (h : ∀ x ∈ w, x ≠ c) : Lib.cut (w ++ c :: l) [c] = (w, l, true) := by
  unfold Lib.cut
  rw [index_one_app h, if_pos (by omega)]
  have e : ((w.length : Nat) : Int).toNat = w.length := by omega
  rw [e]
  simp [List.take_append, List.drop_append]
/-! ### Records as lines -/
/-! ### Disks -/
end Go.Kx
namespace Go.Kx
open Go.Rb
theorem getD_ext {α : Type} [Inhabited α] {a b : List α} (h : a.length = b.length) (hg : ∀ j, j < a.length → a.getD j default = b.getD j default) : a = b := by
  apply List.ext_getElem h
  intro i h1 h2
  have := hg i h1
  simpa [List.getD, List.getElem?_eq_getElem h1, List.getElem?_eq_getElem h2] using this
theorem equal_gen {α : Type} [Inhabited α] [DecidableEq α] (eqv : α → α → Bool) (he : ∀ x y, eqv x y = decide (x = y)) (a b : List α) (hl : a.length < 4611686018427387904) :
    ifB (neI (lenI a) (lenI b)) (some false) (loopN maxR (fun (x : Int) => ifB (ltI x (lenI a)) (bindO (atI a x) fun (y : α) => bindO (atI b x) fun (y_1 : α) => ifB (notB (eqv y y_1)) (mapO Sum.inr (some false)) (some (Sum.inl (wadd IntKind.i64 x 1)))) (mapO Sum.inr (some true))) 0) = some (decide (a = b)) := by
  rw [ifB_neI]
  by_cases hab : (a.length : Int) = b.length
  · rw [lenI_eq, lenI_eq, if_pos hab]
    have hn : a.length = b.length := by omega
    refine loop_ind (G := fun _ => some (decide (a = b))) (P := fun (i : Int) => 0 ≤ i ∧ i ≤ a.length ∧ ∀ j : Nat, (j : Int) < i → a.getD j default = b.getD j default) (μ := fun (i : Int) => a.length - i.toNat) ?_ maxR 0 ⟨by omega, by omega, fun j hj => by omega⟩ (by unfold maxR; omega)
    rintro i ⟨h0, h1, h2⟩ k hk
    obtain ⟨j, rfl⟩ : ∃ j : Nat, i = j := ⟨i.toNat, by omega⟩
    simp only [stepK_none, stepK_inl, stepK_inr, stepK_map, stepK_if, stepK_bind, ifB_t, ifB_f, ifB_same, ifB_ltI, ifB_leI, ifB_gtI, ifB_geI, ifB_eqI, ifB_neI, ifB_not, ifB_and, ifB_eqB, ifB_isE, ifB_in1, ifB_in2, ifB_in1N, ifB_in2N, ifB_in1C, ifB_in2C, ifB_inN, ifB_ltL, ifB_ltN, ifB_roomA, ifB_roomI, ifB_roomZ, ifB_roomS, ifB_eqS, ifB_eqL, ifB_fits, bindO_some, bindO_none, mapO_some, mapO_none, lenI_eq, lenN_eq, cat_eq, takeI_eq, dropI_eq, sliI_eq, setN_eq, natI_eq, intN_eq]
    by_cases hj : j < a.length
    · rw [if_pos (by omega), atI_nat hj, atI_nat (by omega : j < b.length), bindO_some, bindO_some, he, wadd_nat (by omega), stepK_ifB, stepK_inl, stepK_inr]
      by_cases hq : a.getD j default = b.getD j default
      · rw [hk _ ⟨by omega, by omega, fun j' hj' => ?_⟩ (by omega)]
        · rw [ifB_dec, if_pos hq]
        · by_cases h : j' = j
          · subst h; exact hq
          · exact h2 j' (by omega)
      · have hne : a ≠ b := by rintro rfl; exact hq rfl
        rw [ifB_dec, if_neg hq]
        simp [hne]
    · rw [if_neg (by omega)]
      have : a = b := getD_ext hn fun j' hj' => h2 j' (by omega)
      simp [this]
  · rw [lenI_eq, lenI_eq, if_neg hab]
    have : a ≠ b := by rintro rfl; exact hab rfl
    simp [this]
end Go.Kx
namespace Go.Proofs.Y
open Go.Rb Go.Kx
theorem okT2 : OkTD Tryd.prog 2 ⟨.int .i64, 1, 8, some (.one (.int .i64))⟩ := ⟨⟨by kernel_rfl, by kernel_rfl, by kernel_rfl⟩, Tryd.underlying2, ⟨by kernel_rfl, by kernel_rfl⟩, trivial⟩
theorem okT3 : OkTD Tryd.prog 3 ⟨.int .i64, 1, 8, some (.one (.int .i64))⟩ := ⟨⟨by kernel_rfl, by kernel_rfl, by kernel_rfl⟩, Tryd.underlying3, ⟨by kernel_rfl, by kernel_rfl⟩, trivial⟩
theorem okT4 : OkTD Tryd.prog 4 ⟨.bool, 1, 1, some (.one .bool)⟩ := ⟨⟨by kernel_rfl, by kernel_rfl, by kernel_rfl⟩, Tryd.underlying4, ⟨by kernel_rfl, by kernel_rfl⟩, trivial⟩
theorem okT5 : OkTD Tryd.prog 5 ⟨.int .u8, 1, 1, some (.one (.int .u8))⟩ := ⟨⟨by kernel_rfl, by kernel_rfl, by kernel_rfl⟩, Tryd.underlying5, ⟨by kernel_rfl, by kernel_rfl⟩, trivial⟩
theorem okT9 : OkTD Tryd.prog 9 ⟨.str, 1, 16, some (.one .str)⟩ := ⟨⟨by kernel_rfl, by kernel_rfl, by kernel_rfl⟩, Tryd.underlying9, ⟨by kernel_rfl, by kernel_rfl⟩, trivial⟩
theorem okT22 : OkTD Tryd.prog 22 ⟨.sl 56, 1, 24, some (.one (.sl 56 (.cons (.int .i64) (.cons (.int .i64) (.one (.int .i64))))))⟩ := ⟨⟨by kernel_rfl, by kernel_rfl, by kernel_rfl⟩, ⟨Tryd.underlying22, by kernel_rfl⟩, ⟨by kernel_rfl, by kernel_rfl⟩, trivial⟩
theorem okT24 : OkTD Tryd.prog 24 ⟨.st [(0, 1), (1, 1), (2, 1), (3, 1)], 4, 48, some (.cons (.int .i64) (.cons (.int .i64) (.cons (.int .i64) (.one (.sl 56 (.cons (.int .i64) (.cons (.int .i64) (.one (.int .i64)))))))))⟩ := ⟨⟨by kernel_rfl, by kernel_rfl, by kernel_rfl⟩, ⟨_, Tryd.underlying24, by kernel_rfl, by kernel_rfl⟩, ⟨by kernel_rfl, by kernel_rfl⟩, fun h => absurd (by rfl) h⟩
theorem okT25 : OkTD Tryd.prog 25 ⟨.int .i64, 1, 8, some (.one (.int .i64))⟩ := ⟨⟨by kernel_rfl, by kernel_rfl, by kernel_rfl⟩, Tryd.underlying25, ⟨by kernel_rfl, by kernel_rfl⟩, trivial⟩
theorem okT34 : OkTD Tryd.prog 34 ⟨.sl 24, 1, 24, some (.one (.sl 24 (.cons (.int .i64) (.cons (.int .i64) (.cons (.int .i64) (.one (.sl 56 (.cons (.int .i64) (.cons (.int .i64) (.one (.int .i64)))))))))))⟩ := ⟨⟨by kernel_rfl, by kernel_rfl, by kernel_rfl⟩, ⟨Tryd.underlying34, by kernel_rfl⟩, ⟨by kernel_rfl, by kernel_rfl⟩, trivial⟩
theorem okT35 : OkTD Tryd.prog 35 ⟨.sl 5, 1, 24, some (.one (.sl 5 (.one (.int .u8))))⟩ := ⟨⟨by kernel_rfl, by kernel_rfl, by kernel_rfl⟩, ⟨Tryd.underlying35, by kernel_rfl⟩, ⟨by kernel_rfl, by kernel_rfl⟩, trivial⟩
theorem okT37 : OkTD Tryd.prog 37 ⟨.st [(0, 1), (1, 1)], 2, 48, some (.cons (.sl 5 (.one (.int .u8))) (.one (.sl 5 (.one (.int .u8)))))⟩ := ⟨⟨by kernel_rfl, by kernel_rfl, by kernel_rfl⟩, ⟨_, Tryd.underlying37, by kernel_rfl, by kernel_rfl⟩, ⟨by kernel_rfl, by kernel_rfl⟩, fun h => absurd (by rfl) h⟩
theorem okT54 : OkTD Tryd.prog 54 ⟨.sl 3, 1, 24, some (.one (.sl 3 (.one (.int .i64))))⟩ := ⟨⟨by kernel_rfl, by kernel_rfl, by kernel_rfl⟩, ⟨Tryd.underlying54, by kernel_rfl⟩, ⟨by kernel_rfl, by kernel_rfl⟩, trivial⟩
theorem okT56 : OkTD Tryd.prog 56 ⟨.st [(0, 1), (1, 1), (2, 1)], 3, 24, some (.cons (.int .i64) (.cons (.int .i64) (.one (.int .i64))))⟩ := ⟨⟨by kernel_rfl, by kernel_rfl, by kernel_rfl⟩, ⟨_, Tryd.underlying56, by kernel_rfl, by kernel_rfl⟩, ⟨by kernel_rfl, by kernel_rfl⟩, fun _ => eqInts_flat (Tryd.underlying56) (by kernel_rfl) (by kernel_rfl) (by kernel_rfl) (by kernel_rfl)⟩
theorem okT57 : OkTD Tryd.prog 57 ⟨.sl 9, 1, 24, some (.one (.sl 9 (.one .str)))⟩ := ⟨⟨by kernel_rfl, by kernel_rfl, by kernel_rfl⟩, ⟨Tryd.underlying57, by kernel_rfl⟩, ⟨by kernel_rfl, by kernel_rfl⟩, trivial⟩
theorem okT65 : OkTD Tryd.prog 65 ⟨.ifc, 1, 16, none⟩ := ⟨⟨by kernel_rfl, by kernel_rfl, by kernel_rfl⟩, ⟨_, Tryd.underlying65⟩, trivial, trivial⟩
theorem okT69 : OkTD Tryd.prog 69 ⟨.mp, 1, 8, none⟩ := ⟨⟨by kernel_rfl, by kernel_rfl, by kernel_rfl⟩, mapIS Tryd.underlying69 Tryd.underlying3 (by kernel_rfl), trivial, trivial⟩
theorem okT80 : OkTD Tryd.prog 80 ⟨.sl 34, 1, 24, some (.one (.sl 34 (.one (.sl 24 (.cons (.int .i64) (.cons (.int .i64) (.cons (.int .i64) (.one (.sl 56 (.cons (.int .i64) (.cons (.int .i64) (.one (.int .i64)))))))))))))⟩ := ⟨⟨by kernel_rfl, by kernel_rfl, by kernel_rfl⟩, ⟨Tryd.underlying80, by kernel_rfl⟩, ⟨by kernel_rfl, by kernel_rfl⟩, trivial⟩
theorem okT88 : OkTD Tryd.prog 88 ⟨.st [(0, 1), (1, 1)], 2, 16, some (.cons (.int .i64) (.one (.int .i64)))⟩ := ⟨⟨by kernel_rfl, by kernel_rfl, by kernel_rfl⟩, ⟨_, Tryd.underlying88, by kernel_rfl, by kernel_rfl⟩, ⟨by kernel_rfl, by kernel_rfl⟩, fun _ => eqInts_flat (Tryd.underlying88) (by kernel_rfl) (by kernel_rfl) (by kernel_rfl) (by kernel_rfl)⟩
theorem okT94 : OkTD Tryd.prog 94 ⟨.sl 35, 1, 24, some (.one (.sl 35 (.one (.sl 5 (.one (.int .u8))))))⟩ := ⟨⟨by kernel_rfl, by kernel_rfl, by kernel_rfl⟩, ⟨Tryd.underlying94, by kernel_rfl⟩, ⟨by kernel_rfl, by kernel_rfl⟩, trivial⟩
def tL : List (Nat × TD) := [(2, ⟨.int .i64, 1, 8, some (.one (.int .i64))⟩),
  (3, ⟨.int .i64, 1, 8, some (.one (.int .i64))⟩),
  (4, ⟨.bool, 1, 1, some (.one .bool)⟩),
  (5, ⟨.int .u8, 1, 1, some (.one (.int .u8))⟩),
  (9, ⟨.str, 1, 16, some (.one .str)⟩),
  (22, ⟨.sl 56, 1, 24, some (.one (.sl 56 (.cons (.int .i64) (.cons (.int .i64) (.one (.int .i64))))))⟩),
  (24, ⟨.st [(0, 1), (1, 1), (2, 1), (3, 1)], 4, 48, some (.cons (.int .i64) (.cons (.int .i64) (.cons (.int .i64) (.one (.sl 56 (.cons (.int .i64) (.cons (.int .i64) (.one (.int .i64)))))))))⟩),
  (25, ⟨.int .i64, 1, 8, some (.one (.int .i64))⟩),
  (34, ⟨.sl 24, 1, 24, some (.one (.sl 24 (.cons (.int .i64) (.cons (.int .i64) (.cons (.int .i64) (.one (.sl 56 (.cons (.int .i64) (.cons (.int .i64) (.one (.int .i64)))))))))))⟩),
  (35, ⟨.sl 5, 1, 24, some (.one (.sl 5 (.one (.int .u8))))⟩),
  (37, ⟨.st [(0, 1), (1, 1)], 2, 48, some (.cons (.sl 5 (.one (.int .u8))) (.one (.sl 5 (.one (.int .u8)))))⟩),
  (54, ⟨.sl 3, 1, 24, some (.one (.sl 3 (.one (.int .i64))))⟩),
  (56, ⟨.st [(0, 1), (1, 1), (2, 1)], 3, 24, some (.cons (.int .i64) (.cons (.int .i64) (.one (.int .i64))))⟩),
  (57, ⟨.sl 9, 1, 24, some (.one (.sl 9 (.one .str)))⟩),
  (65, ⟨.ifc, 1, 16, none⟩),
  (69, ⟨.mp, 1, 8, none⟩),
  (80, ⟨.sl 34, 1, 24, some (.one (.sl 34 (.one (.sl 24 (.cons (.int .i64) (.cons (.int .i64) (.cons (.int .i64) (.one (.sl 56 (.cons (.int .i64) (.cons (.int .i64) (.one (.int .i64)))))))))))))⟩),
  (88, ⟨.st [(0, 1), (1, 1)], 2, 16, some (.cons (.int .i64) (.one (.int .i64)))⟩),
  (94, ⟨.sl 35, 1, 24, some (.one (.sl 35 (.one (.sl 5 (.one (.int .u8))))))⟩)]
def T : TT := tabT tL
theorem tok : TOK Tryd.prog T := tok_of (L := tL) (List.forall_mem_cons.2 ⟨okT2, List.forall_mem_cons.2 ⟨okT3, List.forall_mem_cons.2 ⟨okT4, List.forall_mem_cons.2 ⟨okT5, List.forall_mem_cons.2 ⟨okT9, List.forall_mem_cons.2 ⟨okT22, List.forall_mem_cons.2 ⟨okT24, List.forall_mem_cons.2 ⟨okT25, List.forall_mem_cons.2 ⟨okT34, List.forall_mem_cons.2 ⟨okT35, List.forall_mem_cons.2 ⟨okT37, List.forall_mem_cons.2 ⟨okT54, List.forall_mem_cons.2 ⟨okT56, List.forall_mem_cons.2 ⟨okT57, List.forall_mem_cons.2 ⟨okT65, List.forall_mem_cons.2 ⟨okT69, List.forall_mem_cons.2 ⟨okT80, List.forall_mem_cons.2 ⟨okT88, List.forall_mem_cons.2 ⟨okT94, (by intro q h; cases h)⟩⟩⟩⟩⟩⟩⟩⟩⟩⟩⟩⟩⟩⟩⟩⟩⟩⟩⟩)
theorem fmo : Tryd.prog.follows .mixedOrders = true := by kernel_rfl
end Go.Proofs.Y
namespace Go.Proofs.Y
open Go.Rb Go.Kx
noncomputable def C_note_Check : Code := bodyOf Tryd.f12
noncomputable def G_note_Check : FuncId → Option GS := tabG []
theorem g_note_Check : ΓOK Tryd.prog G_note_Check := ΓOK_nil
def H_note_Check : HT := ⟨tabL [(9, .it [] (dyn [.t 31 (.int .i64)]))], tabH []⟩
abbrev is_note_Check : List IT := [.v (.cons (.int .i64) (.cons (.int .i64) (.cons (.int .i64) (.one (.sl 56 (.cons (.int .i64) (.cons (.int .i64) (.one (.int .i64))))))))) true]
abbrev os_note_Check : List OT := [⟨.one (.int .i64), false, []⟩]
set_option maxRecDepth 100000
noncomputable def F_note_Check : Int × Int × Int × List (Int × Int × Int) → Option Int := fun (a : Int × Int × Int × List (Int × Int × Int)) => ifB (ltI a.1 1) (some 4) (ifB (gtI a.1 4) (some 4) (ifB (eqI a.1 1) (ifB (neI a.2.1 0) (some 4) (ifB (neI a.2.2.1 0) (some 4) (ifB (gtI (lenI a.2.2.2) 10) (some 2) (loopN maxR (fun (x : Int) => ifB (ltI x (lenI a.2.2.2)) (bindO (atI a.2.2.2 x) fun (y : Int × Int × Int) => ifB (ltI y.1 0) (mapO Sum.inr (some 3)) (ifB (geI y.1 4) (mapO Sum.inr (some 3)) (ifB (ltI y.2.1 0) (mapO Sum.inr (some 3)) (ifB (gtI y.2.1 100000) (mapO Sum.inr (some 3)) (ifB (ltI y.2.2 (-1000000)) (mapO Sum.inr (some 3)) (ifB (gtI y.2.2 1000000) (mapO Sum.inr (some 3)) (some (Sum.inl (wadd .i64 x 1))))))))) (mapO Sum.inr (some 0))) 0)))) (ifB (gtI (lenI a.2.2.2) 0) (some 4) (ifB (eqI a.1 4) (ifB (neI a.2.1 0) (some 4) (ifB (ltI a.2.1 0) (some 3) (ifB (geI a.2.1 4) (some 3) (ifB (ltI a.2.2.1 0) (some 3) (ifB (gtI a.2.2.1 100001) (some 3) (some 0)))))) (ifB (ltI a.2.1 0) (some 3) (ifB (geI a.2.1 4) (some 3) (ifB (ltI a.2.2.1 0) (some 3) (ifB (gtI a.2.2.1 100001) (some 3) (some 0)))))))))
theorem F_note_Check_eq (x : PI is_note_Check) : F_note_Check x = fnE T G_note_Check H_note_Check C_note_Check (resOf Tryd.f12) is_note_Check os_note_Check x := by kernel_rfl
noncomputable abbrev R_note_Check : GS := mkSpec false is_note_Check os_note_Check fun x => F_note_Check x
theorem R_note_Check_ok : GSOK Tryd.prog 12 R_note_Check := spec_ok tok g_note_Check fmo (Ht := H_note_Check) (fn := Tryd.f12) (Tryd.func12) (c := C_note_Check) (by kernel_rfl) (by kernel_rfl) (by kernel_rfl) (by decide +kernel) (by decide) F_note_Check_eq
end Go.Proofs.Y
namespace Go.Proofs.Y
open Go.Rb Go.Kx
noncomputable def C_note_words : Code := bodyOf Tryd.f31
noncomputable def G_note_words : FuncId → Option GS := tabG []
theorem g_note_words : ΓOK Tryd.prog G_note_words := ΓOK_nil
def H_note_words : HT := ⟨tabL [], tabH []⟩
abbrev is_note_words : List IT := []
abbrev os_note_words : List OT := [⟨.one (.sl 9 (.one .str)), false, []⟩]
set_option maxRecDepth 100000
noncomputable def F_note_words : Option (List (List UInt8)) :=  some [[], [98, 97, 116, 99, 104], [115, 101, 97, 108], [109, 101, 114, 103, 101], [100, 114, 111, 112]]
theorem F_note_words_eq (x : PI is_note_words) : F_note_words  = fnE T G_note_words H_note_words C_note_words (resOf Tryd.f31) is_note_words os_note_words x := by kernel_rfl
noncomputable abbrev R_note_words : GS := mkSpec false is_note_words os_note_words fun x => F_note_words 
theorem R_note_words_ok : GSOK Tryd.prog 31 R_note_words := spec_ok tok g_note_words fmo (Ht := H_note_words) (fn := Tryd.f31) (Tryd.func31) (c := C_note_words) (by kernel_rfl) (by kernel_rfl) (by kernel_rfl) (by decide +kernel) (by decide) F_note_words_eq
end Go.Proofs.Y
namespace Go.Proofs.Y
open Go.Rb Go.Kx Go.Proofs
def atoi_ren : Go.Shelf.Ren := ⟨fun | 172 => 37 | 244 => 52 | 245 => 53 | 247 => 60 | 279 => 68 | 280 => 69 | 281 => 70 | 282 => 71 | 287 => 75 | 316 => 84 | 171 => 32 | 205 => 85 | 321 => 92 | 322 => 93 | 243 => 50 | 246 => 61 | 283 => 76 | 284 => 77 | 285 => 78 | 286 => 79 | 129 => 95 | 317 => 94 | 318 => 96 | 319 => 97 | 320 => 98 | 337 => 102 | 338 => 103 | n => n, fun | 9 => 9 | 3 => 3 | 75 => 65 | 76 => 66 | 4 => 4 | 5 => 5 | 167 => 99 | 37 => 35 | 0 => 0 | 85 => 73 | 2 => 2 | 168 => 100 | 53 => 104 | 175 => 105 | 46 => 107 | 210 => 119 | 127 => 103 | 145 => 135 | 143 => 133 | 21 => 21 | 171 => 108 | 173 => 111 | 212 => 128 | 51 => 129 | 20 => 20 | 213 => 130 | 232 => 143 | 233 => 144 | 80 => 93 | n => n, fun | 15 => 0 | 16 => 1 | 17 => 3 | 18 => 6 | 19 => 7 | n => n⟩
theorem atoi_lays : Go.Proofs.LaysC.n172 Tryd.prog atoi_ren := {
  mixed := by kernel_rfl
  f129 := Tryd.func95.trans (congrArg some (by kernel_rfl))
  f171 := Tryd.func32.trans (congrArg some (by kernel_rfl))
  f172 := Tryd.func37.trans (congrArg some (by kernel_rfl))
  f205 := Tryd.func85.trans (congrArg some (by kernel_rfl))
  f243 := Tryd.func50.trans (congrArg some (by kernel_rfl))
  f244 := Tryd.func52.trans (congrArg some (by kernel_rfl))
  f245 := Tryd.func53.trans (congrArg some (by kernel_rfl))
  f246 := Tryd.func61.trans (congrArg some (by kernel_rfl))
  f247 := Tryd.func60.trans (congrArg some (by kernel_rfl))
  f279 := Tryd.func68.trans (congrArg some (by kernel_rfl))
  f280 := Tryd.func69.trans (congrArg some (by kernel_rfl))
  f281 := Tryd.func70.trans (congrArg some (by kernel_rfl))
  f282 := Tryd.func71.trans (congrArg some (by kernel_rfl))
  f283 := Tryd.func76.trans (congrArg some (by kernel_rfl))
  f284 := Tryd.func77.trans (congrArg some (by kernel_rfl))
  f285 := Tryd.func78.trans (congrArg some (by kernel_rfl))
  f286 := Tryd.func79.trans (congrArg some (by kernel_rfl))
  f287 := Tryd.func75.trans (congrArg some (by kernel_rfl))
  f316 := Tryd.func84.trans (congrArg some (by kernel_rfl))
  f317 := Tryd.func94.trans (congrArg some (by kernel_rfl))
  f318 := Tryd.func96.trans (congrArg some (by kernel_rfl))
  f319 := Tryd.func97.trans (congrArg some (by kernel_rfl))
  f320 := Tryd.func98.trans (congrArg some (by kernel_rfl))
  f321 := Tryd.func92.trans (congrArg some (by kernel_rfl))
  f322 := Tryd.func93.trans (congrArg some (by kernel_rfl))
  f337 := Tryd.func102.trans (congrArg some (by kernel_rfl))
  f338 := Tryd.func103.trans (congrArg some (by kernel_rfl))
  t0 := Tryd.underlying0
  a0 := Tryd.isAgg0
  z0 := Tryd.sizeOf0
  v0 := Tryd.zeroValue0
  t2 := Tryd.underlying2
  a2 := Tryd.isAgg2
  z2 := Tryd.sizeOf2
  v2 := Tryd.zeroValue2
  t3 := Tryd.underlying3
  a3 := Tryd.isAgg3
  z3 := Tryd.sizeOf3
  v3 := Tryd.zeroValue3
  t4 := Tryd.underlying4
  a4 := Tryd.isAgg4
  z4 := Tryd.sizeOf4
  v4 := Tryd.zeroValue4
  t5 := Tryd.underlying5
  a5 := Tryd.isAgg5
  z5 := Tryd.sizeOf5
  v5 := Tryd.zeroValue5
  t9 := Tryd.underlying9
  a9 := Tryd.isAgg9
  z9 := Tryd.sizeOf9
  v9 := Tryd.zeroValue9
  t20 := Tryd.underlying20
  a20 := Tryd.isAgg20
  z20 := Tryd.sizeOf20
  v20 := Tryd.zeroValue20
  t21 := Tryd.underlying21
  a21 := Tryd.isAgg21
  z21 := Tryd.sizeOf21
  v21 := Tryd.zeroValue21
  t37 := Tryd.underlying35
  a37 := Tryd.isAgg35
  z37 := Tryd.sizeOf35
  v37 := Tryd.zeroValue35
  t46 := Tryd.underlying107
  a46 := Tryd.isAgg107
  z46 := Tryd.sizeOf107
  v46 := Tryd.zeroValue107
  t51 := Tryd.underlying129
  a51 := Tryd.isAgg129
  z51 := Tryd.sizeOf129
  v51 := Tryd.zeroValue129
  t53 := Tryd.underlying104
  a53 := Tryd.isAgg104
  z53 := Tryd.sizeOf104
  v53 := Tryd.zeroValue104
  t75 := Tryd.underlying65
  a75 := Tryd.isAgg65
  z75 := Tryd.sizeOf65
  v75 := Tryd.zeroValue65
  t76 := Tryd.underlying66
  a76 := Tryd.isAgg66
  z76 := Tryd.sizeOf66
  v76 := Tryd.zeroValue66
  t85 := Tryd.underlying73
  a85 := Tryd.isAgg73
  z85 := Tryd.sizeOf73
  v85 := Tryd.zeroValue73
  t127 := Tryd.underlying103
  a127 := Tryd.isAgg103
  z127 := Tryd.sizeOf103
  v127 := Tryd.zeroValue103
  t143 := Tryd.underlying133
  a143 := Tryd.isAgg133
  z143 := Tryd.sizeOf133
  v143 := Tryd.zeroValue133
  t145 := Tryd.underlying135
  a145 := Tryd.isAgg135
  z145 := Tryd.sizeOf135
  v145 := Tryd.zeroValue135
  t167 := Tryd.underlying99
  a167 := Tryd.isAgg99
  z167 := Tryd.sizeOf99
  v167 := Tryd.zeroValue99
  t168 := Tryd.underlying100
  a168 := Tryd.isAgg100
  z168 := Tryd.sizeOf100
  v168 := Tryd.zeroValue100
  t171 := Tryd.underlying108
  a171 := Tryd.isAgg108
  z171 := Tryd.sizeOf108
  v171 := Tryd.zeroValue108
  t173 := Tryd.underlying111
  a173 := Tryd.isAgg111
  z173 := Tryd.sizeOf111
  v173 := Tryd.zeroValue111
  t175 := Tryd.underlying105
  a175 := Tryd.isAgg105
  z175 := Tryd.sizeOf105
  v175 := Tryd.zeroValue105
  t210 := Tryd.underlying119
  a210 := Tryd.isAgg119
  z210 := Tryd.sizeOf119
  v210 := Tryd.zeroValue119
  t212 := Tryd.underlying128
  a212 := Tryd.isAgg128
  z212 := Tryd.sizeOf128
  v212 := Tryd.zeroValue128
  t213 := Tryd.underlying130
  a213 := Tryd.isAgg130
  z213 := Tryd.sizeOf130
  t232 := Tryd.underlying143
  a232 := Tryd.isAgg143
  z232 := Tryd.sizeOf143
  v232 := Tryd.zeroValue143
  t233 := Tryd.underlying144
  a233 := Tryd.isAgg144
  z233 := Tryd.sizeOf144
  v233 := Tryd.zeroValue144
  g15 := by kernel_rfl
  g16 := by kernel_rfl
  g17 := by kernel_rfl
  g18 := by kernel_rfl
  g19 := by kernel_rfl
  t80 := Tryd.underlying93
  a80 := Tryd.isAgg93
  z80 := Tryd.sizeOf93
  v80 := Tryd.zeroValue93
  i0 := by kernel_rfl
  i2 := by kernel_rfl
  i3 := by kernel_rfl
  i4 := by kernel_rfl
  i5 := by kernel_rfl
  i9 := by kernel_rfl
  i20 := by kernel_rfl
  i21 := by kernel_rfl
  i37 := by kernel_rfl
  i46 := by kernel_rfl
  i51 := by kernel_rfl
  i53 := by kernel_rfl
  i75 := by kernel_rfl
  i76 := by kernel_rfl
  i80 := by kernel_rfl
  i85 := by kernel_rfl
  i127 := by kernel_rfl
  i143 := by kernel_rfl
  i145 := by kernel_rfl
  i167 := by kernel_rfl
  i168 := by kernel_rfl
  i171 := by kernel_rfl
  i173 := by kernel_rfl
  i175 := by kernel_rfl
  i210 := by kernel_rfl
  i212 := by kernel_rfl
  i232 := by kernel_rfl
  i233 := by kernel_rfl
  m15 := by kernel_rfl
  m16 := by kernel_rfl
  m17 := by kernel_rfl
  m18 := by kernel_rfl
  m19 := by kernel_rfl
  c0 := by kernel_rfl
  c2 := by kernel_rfl
  c3 := by kernel_rfl
  c4 := by kernel_rfl
  c5 := by kernel_rfl
  c9 := by kernel_rfl
  c20 := by kernel_rfl
  c21 := by kernel_rfl
  c37 := by kernel_rfl
  c46 := by kernel_rfl
  c51 := by kernel_rfl
  c53 := by kernel_rfl
  c75 := by kernel_rfl
  c76 := by kernel_rfl
  c80 := by kernel_rfl
  c85 := by kernel_rfl
  c127 := by kernel_rfl
  c143 := by kernel_rfl
  c145 := by kernel_rfl
  c167 := by kernel_rfl
  c168 := by kernel_rfl
  c171 := by kernel_rfl
  c173 := by kernel_rfl
  c175 := by kernel_rfl
  c210 := by kernel_rfl
  c212 := by kernel_rfl
  c213 := by kernel_rfl
  c232 := by kernel_rfl
  c233 := by kernel_rfl }
theorem atoi_body : HasBody Tryd.prog (atoi_ren.f 172) := ⟨Tryd.f37, bodyOf Tryd.f37, Tryd.func37, by kernel_rfl, by kernel_rfl⟩
theorem atoi_gs : GSOK Tryd.prog 37 (.r (libS isS (fun x => atoiO x) gErr)) := atoi_spec atoi_lays atoi_body
def parse_ren : Go.Shelf.Ren := ⟨fun | 174 => 42 | 247 => 60 | 245 => 53 | 287 => 75 | 279 => 68 | 280 => 69 | 281 => 70 | 282 => 71 | 321 => 92 | 322 => 93 | 316 => 84 | 171 => 32 | 205 => 85 | 243 => 50 | 246 => 61 | 283 => 76 | 284 => 77 | 285 => 78 | 286 => 79 | 129 => 95 | 317 => 94 | 318 => 96 | 319 => 97 | 320 => 98 | 337 => 102 | 338 => 103 | n => n, fun | 9 => 9 | 3 => 3 | 2 => 2 | 75 => 65 | 85 => 73 | 4 => 4 | 167 => 99 | 5 => 5 | 53 => 104 | 175 => 105 | 46 => 107 | 168 => 100 | 37 => 35 | 0 => 0 | 210 => 119 | 21 => 21 | 127 => 103 | 145 => 135 | 143 => 133 | 171 => 108 | 173 => 111 | 212 => 128 | 51 => 129 | 20 => 20 | 213 => 130 | 232 => 143 | 233 => 144 | 80 => 93 | n => n, fun | 15 => 0 | 16 => 1 | 17 => 3 | 18 => 6 | 19 => 7 | n => n⟩
theorem parse_lays : Go.Proofs.LaysC.n174 Tryd.prog parse_ren := {
  mixed := by kernel_rfl
  f129 := Tryd.func95.trans (congrArg some (by kernel_rfl))
  f171 := Tryd.func32.trans (congrArg some (by kernel_rfl))
  f174 := Tryd.func42.trans (congrArg some (by kernel_rfl))
  f205 := Tryd.func85.trans (congrArg some (by kernel_rfl))
  f243 := Tryd.func50.trans (congrArg some (by kernel_rfl))
  f245 := Tryd.func53.trans (congrArg some (by kernel_rfl))
  f246 := Tryd.func61.trans (congrArg some (by kernel_rfl))
  f247 := Tryd.func60.trans (congrArg some (by kernel_rfl))
  f279 := Tryd.func68.trans (congrArg some (by kernel_rfl))
  f280 := Tryd.func69.trans (congrArg some (by kernel_rfl))
  f281 := Tryd.func70.trans (congrArg some (by kernel_rfl))
  f282 := Tryd.func71.trans (congrArg some (by kernel_rfl))
  f283 := Tryd.func76.trans (congrArg some (by kernel_rfl))
  f284 := Tryd.func77.trans (congrArg some (by kernel_rfl))
  f285 := Tryd.func78.trans (congrArg some (by kernel_rfl))
  f286 := Tryd.func79.trans (congrArg some (by kernel_rfl))
  f287 := Tryd.func75.trans (congrArg some (by kernel_rfl))
  f316 := Tryd.func84.trans (congrArg some (by kernel_rfl))
  f317 := Tryd.func94.trans (congrArg some (by kernel_rfl))
  f318 := Tryd.func96.trans (congrArg some (by kernel_rfl))
  f319 := Tryd.func97.trans (congrArg some (by kernel_rfl))
  f320 := Tryd.func98.trans (congrArg some (by kernel_rfl))
  f321 := Tryd.func92.trans (congrArg some (by kernel_rfl))
  f322 := Tryd.func93.trans (congrArg some (by kernel_rfl))
  f337 := Tryd.func102.trans (congrArg some (by kernel_rfl))
  f338 := Tryd.func103.trans (congrArg some (by kernel_rfl))
  t0 := Tryd.underlying0
  a0 := Tryd.isAgg0
  z0 := Tryd.sizeOf0
  v0 := Tryd.zeroValue0
  t2 := Tryd.underlying2
  a2 := Tryd.isAgg2
  z2 := Tryd.sizeOf2
  v2 := Tryd.zeroValue2
  t3 := Tryd.underlying3
  a3 := Tryd.isAgg3
  z3 := Tryd.sizeOf3
  v3 := Tryd.zeroValue3
  t4 := Tryd.underlying4
  a4 := Tryd.isAgg4
  z4 := Tryd.sizeOf4
  v4 := Tryd.zeroValue4
  t5 := Tryd.underlying5
  a5 := Tryd.isAgg5
  z5 := Tryd.sizeOf5
  v5 := Tryd.zeroValue5
  t9 := Tryd.underlying9
  a9 := Tryd.isAgg9
  z9 := Tryd.sizeOf9
  v9 := Tryd.zeroValue9
  t20 := Tryd.underlying20
  a20 := Tryd.isAgg20
  z20 := Tryd.sizeOf20
  v20 := Tryd.zeroValue20
  t21 := Tryd.underlying21
  a21 := Tryd.isAgg21
  z21 := Tryd.sizeOf21
  v21 := Tryd.zeroValue21
  t37 := Tryd.underlying35
  a37 := Tryd.isAgg35
  z37 := Tryd.sizeOf35
  v37 := Tryd.zeroValue35
  t46 := Tryd.underlying107
  a46 := Tryd.isAgg107
  z46 := Tryd.sizeOf107
  v46 := Tryd.zeroValue107
  t51 := Tryd.underlying129
  a51 := Tryd.isAgg129
  z51 := Tryd.sizeOf129
  v51 := Tryd.zeroValue129
  t53 := Tryd.underlying104
  a53 := Tryd.isAgg104
  z53 := Tryd.sizeOf104
  v53 := Tryd.zeroValue104
  t75 := Tryd.underlying65
  a75 := Tryd.isAgg65
  z75 := Tryd.sizeOf65
  v75 := Tryd.zeroValue65
  t85 := Tryd.underlying73
  a85 := Tryd.isAgg73
  z85 := Tryd.sizeOf73
  v85 := Tryd.zeroValue73
  t127 := Tryd.underlying103
  a127 := Tryd.isAgg103
  z127 := Tryd.sizeOf103
  v127 := Tryd.zeroValue103
  t143 := Tryd.underlying133
  a143 := Tryd.isAgg133
  z143 := Tryd.sizeOf133
  v143 := Tryd.zeroValue133
  t145 := Tryd.underlying135
  a145 := Tryd.isAgg135
  z145 := Tryd.sizeOf135
  v145 := Tryd.zeroValue135
  t167 := Tryd.underlying99
  a167 := Tryd.isAgg99
  z167 := Tryd.sizeOf99
  v167 := Tryd.zeroValue99
  t168 := Tryd.underlying100
  a168 := Tryd.isAgg100
  z168 := Tryd.sizeOf100
  v168 := Tryd.zeroValue100
  t171 := Tryd.underlying108
  a171 := Tryd.isAgg108
  z171 := Tryd.sizeOf108
  v171 := Tryd.zeroValue108
  t173 := Tryd.underlying111
  a173 := Tryd.isAgg111
  z173 := Tryd.sizeOf111
  v173 := Tryd.zeroValue111
  t175 := Tryd.underlying105
  a175 := Tryd.isAgg105
  z175 := Tryd.sizeOf105
  v175 := Tryd.zeroValue105
  t210 := Tryd.underlying119
  a210 := Tryd.isAgg119
  z210 := Tryd.sizeOf119
  v210 := Tryd.zeroValue119
  t212 := Tryd.underlying128
  a212 := Tryd.isAgg128
  z212 := Tryd.sizeOf128
  v212 := Tryd.zeroValue128
  t213 := Tryd.underlying130
  a213 := Tryd.isAgg130
  z213 := Tryd.sizeOf130
  t232 := Tryd.underlying143
  a232 := Tryd.isAgg143
  z232 := Tryd.sizeOf143
  v232 := Tryd.zeroValue143
  t233 := Tryd.underlying144
  a233 := Tryd.isAgg144
  z233 := Tryd.sizeOf144
  v233 := Tryd.zeroValue144
  g15 := by kernel_rfl
  g16 := by kernel_rfl
  g17 := by kernel_rfl
  g18 := by kernel_rfl
  g19 := by kernel_rfl
  t80 := Tryd.underlying93
  a80 := Tryd.isAgg93
  z80 := Tryd.sizeOf93
  v80 := Tryd.zeroValue93
  i0 := by kernel_rfl
  i2 := by kernel_rfl
  i3 := by kernel_rfl
  i4 := by kernel_rfl
  i5 := by kernel_rfl
  i9 := by kernel_rfl
  i20 := by kernel_rfl
  i21 := by kernel_rfl
  i37 := by kernel_rfl
  i46 := by kernel_rfl
  i51 := by kernel_rfl
  i53 := by kernel_rfl
  i75 := by kernel_rfl
  i80 := by kernel_rfl
  i85 := by kernel_rfl
  i127 := by kernel_rfl
  i143 := by kernel_rfl
  i145 := by kernel_rfl
  i167 := by kernel_rfl
  i168 := by kernel_rfl
  i171 := by kernel_rfl
  i173 := by kernel_rfl
  i175 := by kernel_rfl
  i210 := by kernel_rfl
  i212 := by kernel_rfl
  i232 := by kernel_rfl
  i233 := by kernel_rfl
  m15 := by kernel_rfl
  m16 := by kernel_rfl
  m17 := by kernel_rfl
  m18 := by kernel_rfl
  m19 := by kernel_rfl
  c0 := by kernel_rfl
  c2 := by kernel_rfl
  c3 := by kernel_rfl
  c4 := by kernel_rfl
  c5 := by kernel_rfl
  c9 := by kernel_rfl
  c20 := by kernel_rfl
  c21 := by kernel_rfl
  c37 := by kernel_rfl
  c46 := by kernel_rfl
  c51 := by kernel_rfl
  c53 := by kernel_rfl
  c75 := by kernel_rfl
  c80 := by kernel_rfl
  c85 := by kernel_rfl
  c127 := by kernel_rfl
  c143 := by kernel_rfl
  c145 := by kernel_rfl
  c167 := by kernel_rfl
  c168 := by kernel_rfl
  c171 := by kernel_rfl
  c173 := by kernel_rfl
  c175 := by kernel_rfl
  c210 := by kernel_rfl
  c212 := by kernel_rfl
  c213 := by kernel_rfl
  c232 := by kernel_rfl
  c233 := by kernel_rfl }
theorem parse_body : HasBody Tryd.prog (parse_ren.f 174) := ⟨Tryd.f42, bodyOf Tryd.f42, Tryd.func42, by kernel_rfl, by kernel_rfl⟩
theorem parse_gs : GSOK Tryd.prog 42 (.r (libS isSII (fun x => parseO (x.1) (x.2.1) (x.2.2)) gErr)) := parse_spec parse_lays parse_body
def itoa_ren : Go.Shelf.Ren := ⟨fun | 171 => 32 | 243 => 50 | 246 => 61 | 283 => 76 | 284 => 77 | 285 => 78 | 286 => 79 | 129 => 95 | 317 => 94 | 318 => 96 | 319 => 97 | 320 => 98 | 337 => 102 | 338 => 103 | n => n, fun | 3 => 3 | 9 => 9 | 2 => 2 | 4 => 4 | 171 => 108 | 0 => 0 | 53 => 104 | 37 => 35 | 5 => 5 | 173 => 111 | 212 => 128 | 51 => 129 | 20 => 20 | 213 => 130 | 46 => 107 | 232 => 143 | 233 => 144 | n => n, fun | 17 => 3 | 18 => 6 | 19 => 7 | n => n⟩
theorem itoa_lays : Go.Proofs.LaysM.n171 Tryd.prog itoa_ren := {
  mixed := by kernel_rfl
  f129 := Tryd.func95.trans (congrArg some (by kernel_rfl))
  f171 := Tryd.func32.trans (congrArg some (by kernel_rfl))
  f243 := Tryd.func50.trans (congrArg some (by kernel_rfl))
  f246 := Tryd.func61.trans (congrArg some (by kernel_rfl))
  f283 := Tryd.func76.trans (congrArg some (by kernel_rfl))
  f284 := Tryd.func77.trans (congrArg some (by kernel_rfl))
  f285 := Tryd.func78.trans (congrArg some (by kernel_rfl))
  f286 := Tryd.func79.trans (congrArg some (by kernel_rfl))
  f317 := Tryd.func94.trans (congrArg some (by kernel_rfl))
  f318 := Tryd.func96.trans (congrArg some (by kernel_rfl))
  f319 := Tryd.func97.trans (congrArg some (by kernel_rfl))
  f320 := Tryd.func98.trans (congrArg some (by kernel_rfl))
  f337 := Tryd.func102.trans (congrArg some (by kernel_rfl))
  f338 := Tryd.func103.trans (congrArg some (by kernel_rfl))
  t0 := Tryd.underlying0
  a0 := Tryd.isAgg0
  z0 := Tryd.sizeOf0
  v0 := Tryd.zeroValue0
  t2 := Tryd.underlying2
  a2 := Tryd.isAgg2
  z2 := Tryd.sizeOf2
  v2 := Tryd.zeroValue2
  t3 := Tryd.underlying3
  a3 := Tryd.isAgg3
  z3 := Tryd.sizeOf3
  v3 := Tryd.zeroValue3
  t4 := Tryd.underlying4
  a4 := Tryd.isAgg4
  z4 := Tryd.sizeOf4
  v4 := Tryd.zeroValue4
  t5 := Tryd.underlying5
  a5 := Tryd.isAgg5
  z5 := Tryd.sizeOf5
  v5 := Tryd.zeroValue5
  t9 := Tryd.underlying9
  a9 := Tryd.isAgg9
  z9 := Tryd.sizeOf9
  v9 := Tryd.zeroValue9
  t20 := Tryd.underlying20
  a20 := Tryd.isAgg20
  z20 := Tryd.sizeOf20
  v20 := Tryd.zeroValue20
  t37 := Tryd.underlying35
  a37 := Tryd.isAgg35
  z37 := Tryd.sizeOf35
  v37 := Tryd.zeroValue35
  t46 := Tryd.underlying107
  a46 := Tryd.isAgg107
  z46 := Tryd.sizeOf107
  v46 := Tryd.zeroValue107
  t51 := Tryd.underlying129
  a51 := Tryd.isAgg129
  z51 := Tryd.sizeOf129
  v51 := Tryd.zeroValue129
  t53 := Tryd.underlying104
  a53 := Tryd.isAgg104
  z53 := Tryd.sizeOf104
  v53 := Tryd.zeroValue104
  t171 := Tryd.underlying108
  a171 := Tryd.isAgg108
  z171 := Tryd.sizeOf108
  v171 := Tryd.zeroValue108
  t173 := Tryd.underlying111
  a173 := Tryd.isAgg111
  z173 := Tryd.sizeOf111
  v173 := Tryd.zeroValue111
  t212 := Tryd.underlying128
  a212 := Tryd.isAgg128
  z212 := Tryd.sizeOf128
  v212 := Tryd.zeroValue128
  t213 := Tryd.underlying130
  a213 := Tryd.isAgg130
  z213 := Tryd.sizeOf130
  t232 := Tryd.underlying143
  a232 := Tryd.isAgg143
  z232 := Tryd.sizeOf143
  v232 := Tryd.zeroValue143
  t233 := Tryd.underlying144
  a233 := Tryd.isAgg144
  z233 := Tryd.sizeOf144
  v233 := Tryd.zeroValue144
  g17 := by kernel_rfl
  g18 := by kernel_rfl
  g19 := by kernel_rfl
  i0 := by kernel_rfl
  i2 := by kernel_rfl
  i3 := by kernel_rfl
  i4 := by kernel_rfl
  i5 := by kernel_rfl
  i9 := by kernel_rfl
  i20 := by kernel_rfl
  i37 := by kernel_rfl
  i46 := by kernel_rfl
  i51 := by kernel_rfl
  i53 := by kernel_rfl
  i171 := by kernel_rfl
  i173 := by kernel_rfl
  i212 := by kernel_rfl
  i232 := by kernel_rfl
  i233 := by kernel_rfl
  m17 := by kernel_rfl
  m18 := by kernel_rfl
  m19 := by kernel_rfl }
theorem itoa_body : HasBody Tryd.prog (itoa_ren.f 171) := ⟨Tryd.f32, bodyOf Tryd.f32, Tryd.func32, by kernel_rfl, by kernel_rfl⟩
theorem itoa_gs : GSOK Tryd.prog 32 (.r (libS isI (fun x => itoaO x) gStr)) := itoa_spec itoa_lays itoa_body
def fmt_ren : Go.Shelf.Ren := ⟨fun | 173 => 43 | 246 => 61 | 283 => 76 | 284 => 77 | 285 => 78 | 286 => 79 | 129 => 95 | 317 => 94 | 318 => 96 | 319 => 97 | 320 => 98 | 337 => 102 | 338 => 103 | n => n, fun | 2 => 2 | 3 => 3 | 9 => 9 | 4 => 4 | 171 => 108 | 0 => 0 | 53 => 104 | 37 => 35 | 5 => 5 | 173 => 111 | 212 => 128 | 51 => 129 | 20 => 20 | 213 => 130 | 46 => 107 | 232 => 143 | 233 => 144 | n => n, fun | 17 => 3 | 18 => 6 | 19 => 7 | n => n⟩
theorem fmt_lays : Go.Proofs.LaysM.n173 Tryd.prog fmt_ren := {
  mixed := by kernel_rfl
  f129 := Tryd.func95.trans (congrArg some (by kernel_rfl))
  f173 := Tryd.func43.trans (congrArg some (by kernel_rfl))
  f246 := Tryd.func61.trans (congrArg some (by kernel_rfl))
  f283 := Tryd.func76.trans (congrArg some (by kernel_rfl))
  f284 := Tryd.func77.trans (congrArg some (by kernel_rfl))
  f285 := Tryd.func78.trans (congrArg some (by kernel_rfl))
  f286 := Tryd.func79.trans (congrArg some (by kernel_rfl))
  f317 := Tryd.func94.trans (congrArg some (by kernel_rfl))
  f318 := Tryd.func96.trans (congrArg some (by kernel_rfl))
  f319 := Tryd.func97.trans (congrArg some (by kernel_rfl))
  f320 := Tryd.func98.trans (congrArg some (by kernel_rfl))
  f337 := Tryd.func102.trans (congrArg some (by kernel_rfl))
  f338 := Tryd.func103.trans (congrArg some (by kernel_rfl))
  t0 := Tryd.underlying0
  a0 := Tryd.isAgg0
  z0 := Tryd.sizeOf0
  v0 := Tryd.zeroValue0
  t2 := Tryd.underlying2
  a2 := Tryd.isAgg2
  z2 := Tryd.sizeOf2
  v2 := Tryd.zeroValue2
  t3 := Tryd.underlying3
  a3 := Tryd.isAgg3
  z3 := Tryd.sizeOf3
  v3 := Tryd.zeroValue3
  t4 := Tryd.underlying4
  a4 := Tryd.isAgg4
  z4 := Tryd.sizeOf4
  v4 := Tryd.zeroValue4
  t5 := Tryd.underlying5
  a5 := Tryd.isAgg5
  z5 := Tryd.sizeOf5
  v5 := Tryd.zeroValue5
  t9 := Tryd.underlying9
  a9 := Tryd.isAgg9
  z9 := Tryd.sizeOf9
  v9 := Tryd.zeroValue9
  t20 := Tryd.underlying20
  a20 := Tryd.isAgg20
  z20 := Tryd.sizeOf20
  v20 := Tryd.zeroValue20
  t37 := Tryd.underlying35
  a37 := Tryd.isAgg35
  z37 := Tryd.sizeOf35
  v37 := Tryd.zeroValue35
  t46 := Tryd.underlying107
  a46 := Tryd.isAgg107
  z46 := Tryd.sizeOf107
  v46 := Tryd.zeroValue107
  t51 := Tryd.underlying129
  a51 := Tryd.isAgg129
  z51 := Tryd.sizeOf129
  v51 := Tryd.zeroValue129
  t53 := Tryd.underlying104
  a53 := Tryd.isAgg104
  z53 := Tryd.sizeOf104
  v53 := Tryd.zeroValue104
  t171 := Tryd.underlying108
  a171 := Tryd.isAgg108
  z171 := Tryd.sizeOf108
  v171 := Tryd.zeroValue108
  t173 := Tryd.underlying111
  a173 := Tryd.isAgg111
  z173 := Tryd.sizeOf111
  v173 := Tryd.zeroValue111
  t212 := Tryd.underlying128
  a212 := Tryd.isAgg128
  z212 := Tryd.sizeOf128
  v212 := Tryd.zeroValue128
  t213 := Tryd.underlying130
  a213 := Tryd.isAgg130
  z213 := Tryd.sizeOf130
  t232 := Tryd.underlying143
  a232 := Tryd.isAgg143
  z232 := Tryd.sizeOf143
  v232 := Tryd.zeroValue143
  t233 := Tryd.underlying144
  a233 := Tryd.isAgg144
  z233 := Tryd.sizeOf144
  v233 := Tryd.zeroValue144
  g17 := by kernel_rfl
  g18 := by kernel_rfl
  g19 := by kernel_rfl
  i0 := by kernel_rfl
  i2 := by kernel_rfl
  i3 := by kernel_rfl
  i4 := by kernel_rfl
  i5 := by kernel_rfl
  i9 := by kernel_rfl
  i20 := by kernel_rfl
  i37 := by kernel_rfl
  i46 := by kernel_rfl
  i51 := by kernel_rfl
  i53 := by kernel_rfl
  i171 := by kernel_rfl
  i173 := by kernel_rfl
  i212 := by kernel_rfl
  i232 := by kernel_rfl
  i233 := by kernel_rfl
  m17 := by kernel_rfl
  m18 := by kernel_rfl
  m19 := by kernel_rfl }
theorem fmt_body : HasBody Tryd.prog (fmt_ren.f 173) := ⟨Tryd.f43, bodyOf Tryd.f43, Tryd.func43, by kernel_rfl, by kernel_rfl⟩
theorem fmt_gs : GSOK Tryd.prog 43 (.r (libS isII (fun x => fmtO (x.1) (x.2)) gStr)) := fmt_spec fmt_lays fmt_body
def cut_ren : Go.Shelf.Ren := ⟨fun | 145 => 41 | 220 => 59 | 219 => 74 | 217 => 88 | 225 => 89 | 224 => 90 | 267 => 91 | 266 => 100 | 314 => 101 | n => n, fun | 9 => 9 | 4 => 4 | 59 => 71 | 3 => 3 | 5 => 5 | 46 => 107 | 146 => 136 | 51 => 129 | n => n, fun | 1 => 2 | n => n⟩
theorem cut_lays : Go.Proofs.LaysM.n145 Tryd.prog cut_ren := {
  mixed := by kernel_rfl
  f145 := Tryd.func41.trans (congrArg some (by kernel_rfl))
  f217 := Tryd.func88.trans (congrArg some (by kernel_rfl))
  f219 := Tryd.func74.trans (congrArg some (by kernel_rfl))
  f220 := Tryd.func59.trans (congrArg some (by kernel_rfl))
  f224 := Tryd.func90.trans (congrArg some (by kernel_rfl))
  f225 := Tryd.func89.trans (congrArg some (by kernel_rfl))
  f266 := Tryd.func100.trans (congrArg some (by kernel_rfl))
  f267 := Tryd.func91.trans (congrArg some (by kernel_rfl))
  f314 := Tryd.func101.trans (congrArg some (by kernel_rfl))
  t3 := Tryd.underlying3
  a3 := Tryd.isAgg3
  z3 := Tryd.sizeOf3
  v3 := Tryd.zeroValue3
  t4 := Tryd.underlying4
  a4 := Tryd.isAgg4
  z4 := Tryd.sizeOf4
  v4 := Tryd.zeroValue4
  t5 := Tryd.underlying5
  a5 := Tryd.isAgg5
  z5 := Tryd.sizeOf5
  v5 := Tryd.zeroValue5
  t9 := Tryd.underlying9
  a9 := Tryd.isAgg9
  z9 := Tryd.sizeOf9
  v9 := Tryd.zeroValue9
  t46 := Tryd.underlying107
  a46 := Tryd.isAgg107
  z46 := Tryd.sizeOf107
  v46 := Tryd.zeroValue107
  t51 := Tryd.underlying129
  a51 := Tryd.isAgg129
  z51 := Tryd.sizeOf129
  v51 := Tryd.zeroValue129
  t59 := Tryd.underlying71
  a59 := Tryd.isAgg71
  z59 := Tryd.sizeOf71
  v59 := Tryd.zeroValue71
  t146 := Tryd.underlying136
  a146 := Tryd.isAgg136
  z146 := Tryd.sizeOf136
  v146 := Tryd.zeroValue136
  g1 := by kernel_rfl
  i3 := by kernel_rfl
  i4 := by kernel_rfl
  i5 := by kernel_rfl
  i9 := by kernel_rfl
  i46 := by kernel_rfl
  i51 := by kernel_rfl
  i59 := by kernel_rfl
  i146 := by kernel_rfl
  m1 := by kernel_rfl
  s1_3 := fun w h => Go.Proofs.cell_of_shapedOpen_int (zero := #[.int .i64 0]) (t := 3) h (of_decide_eq_true (by kernel_rfl)) (by kernel_rfl) rfl (by kernel_rfl) (by kernel_rfl) Tryd.underlying3 }
theorem cut_body : HasBody Tryd.prog (cut_ren.f 145) := ⟨Tryd.f41, bodyOf Tryd.f41, Tryd.func41, by kernel_rfl, by kernel_rfl⟩
theorem cut_gs : GSOK Tryd.prog 41 (.r (libS isSS (fun x => cutO (x.1) (x.2)) gCut)) := cut_spec cut_lays cut_body
def split_ren : Go.Shelf.Ren := ⟨fun | 146 => 35 | 221 => 51 | 268 => 65 | 138 => 66 | 143 => 67 | 195 => 81 | 197 => 82 | 218 => 83 | 219 => 74 | 260 => 99 | 217 => 88 | 225 => 89 | 224 => 90 | 267 => 91 | 266 => 100 | 314 => 101 | n => n, fun | 9 => 9 | 31 => 57 | 3 => 3 | 4 => 4 | 0 => 0 | 105 => 114 | 21 => 21 | 5 => 5 | 46 => 107 | 119 => 139 | 139 => 142 | 138 => 141 | 146 => 136 | 51 => 129 | n => n, fun | 1 => 2 | 3 => 4 | 4 => 5 | n => n⟩
theorem split_lays : Go.Proofs.LaysM.n146 Tryd.prog split_ren := {
  mixed := by kernel_rfl
  f138 := Tryd.func66.trans (congrArg some (by kernel_rfl))
  f143 := Tryd.func67.trans (congrArg some (by kernel_rfl))
  f146 := Tryd.func35.trans (congrArg some (by kernel_rfl))
  f195 := Tryd.func81.trans (congrArg some (by kernel_rfl))
  f197 := Tryd.func82.trans (congrArg some (by kernel_rfl))
  f217 := Tryd.func88.trans (congrArg some (by kernel_rfl))
  f218 := Tryd.func83.trans (congrArg some (by kernel_rfl))
  f219 := Tryd.func74.trans (congrArg some (by kernel_rfl))
  f221 := Tryd.func51.trans (congrArg some (by kernel_rfl))
  f224 := Tryd.func90.trans (congrArg some (by kernel_rfl))
  f225 := Tryd.func89.trans (congrArg some (by kernel_rfl))
  f260 := Tryd.func99.trans (congrArg some (by kernel_rfl))
  f266 := Tryd.func100.trans (congrArg some (by kernel_rfl))
  f267 := Tryd.func91.trans (congrArg some (by kernel_rfl))
  f268 := Tryd.func65.trans (congrArg some (by kernel_rfl))
  f314 := Tryd.func101.trans (congrArg some (by kernel_rfl))
  t0 := Tryd.underlying0
  a0 := Tryd.isAgg0
  z0 := Tryd.sizeOf0
  v0 := Tryd.zeroValue0
  t3 := Tryd.underlying3
  a3 := Tryd.isAgg3
  z3 := Tryd.sizeOf3
  v3 := Tryd.zeroValue3
  t4 := Tryd.underlying4
  a4 := Tryd.isAgg4
  z4 := Tryd.sizeOf4
  v4 := Tryd.zeroValue4
  t5 := Tryd.underlying5
  a5 := Tryd.isAgg5
  z5 := Tryd.sizeOf5
  v5 := Tryd.zeroValue5
  t9 := Tryd.underlying9
  a9 := Tryd.isAgg9
  z9 := Tryd.sizeOf9
  v9 := Tryd.zeroValue9
  t21 := Tryd.underlying21
  a21 := Tryd.isAgg21
  z21 := Tryd.sizeOf21
  v21 := Tryd.zeroValue21
  t31 := Tryd.underlying57
  a31 := Tryd.isAgg57
  z31 := Tryd.sizeOf57
  v31 := Tryd.zeroValue57
  t46 := Tryd.underlying107
  a46 := Tryd.isAgg107
  z46 := Tryd.sizeOf107
  v46 := Tryd.zeroValue107
  t51 := Tryd.underlying129
  a51 := Tryd.isAgg129
  z51 := Tryd.sizeOf129
  v51 := Tryd.zeroValue129
  t105 := Tryd.underlying114
  a105 := Tryd.isAgg114
  z105 := Tryd.sizeOf114
  v105 := Tryd.zeroValue114
  t119 := Tryd.underlying139
  a119 := Tryd.isAgg139
  z119 := Tryd.sizeOf139
  t138 := Tryd.underlying141
  a138 := Tryd.isAgg141
  z138 := Tryd.sizeOf141
  v138 := Tryd.zeroValue141
  t139 := Tryd.underlying142
  a139 := Tryd.isAgg142
  z139 := Tryd.sizeOf142
  v139 := Tryd.zeroValue142
  t146 := Tryd.underlying136
  a146 := Tryd.isAgg136
  z146 := Tryd.sizeOf136
  v146 := Tryd.zeroValue136
  g1 := by kernel_rfl
  g3 := by kernel_rfl
  g4 := by kernel_rfl
  i0 := by kernel_rfl
  i3 := by kernel_rfl
  i4 := by kernel_rfl
  i5 := by kernel_rfl
  i9 := by kernel_rfl
  i21 := by kernel_rfl
  i31 := by kernel_rfl
  i46 := by kernel_rfl
  i51 := by kernel_rfl
  i105 := by kernel_rfl
  i138 := by kernel_rfl
  i139 := by kernel_rfl
  i146 := by kernel_rfl
  m1 := by kernel_rfl
  s1_3 := fun w h => Go.Proofs.cell_of_shapedOpen_int (zero := #[.int .i64 0]) (t := 3) h (of_decide_eq_true (by kernel_rfl)) (by kernel_rfl) rfl (by kernel_rfl) (by kernel_rfl) Tryd.underlying3
  m3 := by kernel_rfl
  m4 := by kernel_rfl }
theorem split_body : HasBody Tryd.prog (split_ren.f 146) := ⟨Tryd.f35, bodyOf Tryd.f35, Tryd.func35, by kernel_rfl, by kernel_rfl⟩
theorem split_gs : GSOK Tryd.prog 35 (.r (libS isSS (fun x => splitO (x.1) (x.2)) (gStrs (9)))) := split_spec split_lays split_body
end Go.Proofs.Y
namespace Go.Proofs.Y
open Go.Rb Go.Kx
noncomputable abbrev R_itoa : GS := .r (libS [.v (.one (.int .i64)) false] (fun x => itoaO x) gStr)
theorem R_itoa_ok : GSOK Tryd.prog 32 R_itoa := itoa_gs
end Go.Proofs.Y
namespace Go.Proofs.Y
open Go.Rb Go.Kx
noncomputable def C_note_Print : Code := bodyOf Tryd.f7
noncomputable def G_note_Print : FuncId → Option GS := tabG [(12, R_note_Check), (31, R_note_words), (32, R_itoa)]
theorem g_note_Print : ΓOK Tryd.prog G_note_Print := ΓOK_cons (R_note_Check_ok) (ΓOK_cons (R_note_words_ok) (ΓOK_cons (R_itoa_ok) (ΓOK_nil)))
def H_note_Print : HT := ⟨tabL [(9, .it [] (dyn [.a 5 3 (.one (.int .i64)), .t 28 (.int .i64)])), (17, .it [] (dyn [.t 8 (.str), .t 53 (.int .i64)]))], tabH []⟩
abbrev is_note_Print : List IT := [.v (.cons (.int .i64) (.cons (.int .i64) (.cons (.int .i64) (.one (.sl 56 (.cons (.int .i64) (.cons (.int .i64) (.one (.int .i64))))))))) true]
abbrev os_note_Print : List OT := [⟨.one .str, false, []⟩, ⟨.one (.int .i64), false, []⟩]
set_option maxRecDepth 100000
noncomputable def F_note_Print : Int × Int × Int × List (Int × Int × Int) → Option (List UInt8 × Int) := fun (a : Int × Int × Int × List (Int × Int × Int)) => bindO (F_note_Check (a.1, a.2.1, a.2.2.1, a.2.2.2)) fun (y : Int) => ifB (neI y 0) (some ([], y)) (ifB (eqI a.1 1) (loopN maxR (fun (x : Int × List Int) => ifB (ltI x.1 (lenI a.2.2.2)) (bindO (atI a.2.2.2 x.1) fun (y : Int × Int × Int) => ifB (roomA 8 x.2 [y.1, y.2.1, y.2.2]) (some (Sum.inl (wadd .i64 x.1 1, cat x.2 [y.1, y.2.1, y.2.2]))) none) (mapO Sum.inr (bindO F_note_words fun (y : List (List UInt8)) => bindO (atI y a.1) fun (y : List UInt8) => loopN maxR (fun (x_1 : List UInt8 × Int) => ifB (ltI x_1.2 (lenI x.2)) (ifB (ltL x_1.2 x.2) (bindO (atN x.2 (natI x_1.2)) fun (y : Int) => bindO (itoaO y) fun (y : List UInt8) => ifB (roomS [32] y) (ifB (roomS x_1.1 (catS [32] y)) (some (Sum.inl (catS x_1.1 (catS [32] y), wadd .i64 x_1.2 1))) none) none) none) (mapO Sum.inr (some (x_1.1, 0)))) (y, 0)))) (0, [])) (ifB (eqI a.1 4) (ifB (in1 [a.2.1, a.2.2.1] 1) (bindO F_note_words fun (y : List (List UInt8)) => bindO (atI y a.1) fun (y : List UInt8) => loopN maxR (fun (x : List UInt8 × Int) => ifB (ltI x.2 (intN (subNI (lenN [a.2.1, a.2.2.1]) 1))) (ifB (ltN x.2 (subNI (lenN [a.2.1, a.2.2.1]) 1)) (bindO (atN [a.2.1, a.2.2.1] (addN (addN 0 (natI 1)) (natI x.2))) fun (y : Int) => bindO (itoaO y) fun (y : List UInt8) => ifB (roomS [32] y) (ifB (roomS x.1 (catS [32] y)) (some (Sum.inl (catS x.1 (catS [32] y), wadd .i64 x.2 1))) none) none) none) (mapO Sum.inr (some (x.1, 0)))) (y, 0)) none) (bindO F_note_words fun (y : List (List UInt8)) => bindO (atI y a.1) fun (y : List UInt8) => loopN maxR (fun (x : List UInt8 × Int) => ifB (ltI x.2 (lenI [a.2.1, a.2.2.1])) (ifB (ltL x.2 [a.2.1, a.2.2.1]) (bindO (atN [a.2.1, a.2.2.1] (natI x.2)) fun (y : Int) => bindO (itoaO y) fun (y : List UInt8) => ifB (roomS [32] y) (ifB (roomS x.1 (catS [32] y)) (some (Sum.inl (catS x.1 (catS [32] y), wadd .i64 x.2 1))) none) none) none) (mapO Sum.inr (some (x.1, 0)))) (y, 0))))
theorem F_note_Print_eq (x : PI is_note_Print) : F_note_Print x = fnE T G_note_Print H_note_Print C_note_Print (resOf Tryd.f7) is_note_Print os_note_Print x := by kernel_rfl
noncomputable abbrev R_note_Print : GS := mkSpec false is_note_Print os_note_Print fun x => F_note_Print x
theorem R_note_Print_ok : GSOK Tryd.prog 7 R_note_Print := spec_ok tok g_note_Print fmo (Ht := H_note_Print) (fn := Tryd.f7) (Tryd.func7) (c := C_note_Print) (by kernel_rfl) (by kernel_rfl) (by kernel_rfl) (by decide +kernel) (by decide) F_note_Print_eq
end Go.Proofs.Y
namespace Go.Proofs.Y
open Go.Rb Go.Kx
noncomputable def C_rainbooklaw_batch : Code := bodyOf Tryd.f33
noncomputable def G_rainbooklaw_batch : FuncId → Option GS := tabG []
theorem g_rainbooklaw_batch : ΓOK Tryd.prog G_rainbooklaw_batch := ΓOK_nil
def H_rainbooklaw_batch : HT := ⟨tabL [], tabH []⟩
abbrev is_rainbooklaw_batch : List IT := []
abbrev os_rainbooklaw_batch : List OT := [⟨.cons (.int .i64) (.cons (.int .i64) (.cons (.int .i64) (.one (.sl 56 (.cons (.int .i64) (.cons (.int .i64) (.one (.int .i64)))))))), true, []⟩]
set_option maxRecDepth 100000
noncomputable def F_rainbooklaw_batch : Option (Int × Int × Int × List (Int × Int × Int)) := some (1, 0, 0, [(1, 10, -5), (2, 3, 4)])
theorem F_rainbooklaw_batch_eq (x : PI is_rainbooklaw_batch) : F_rainbooklaw_batch  = fnE T G_rainbooklaw_batch H_rainbooklaw_batch C_rainbooklaw_batch (resOf Tryd.f33) is_rainbooklaw_batch os_rainbooklaw_batch x := by kernel_rfl
noncomputable abbrev R_rainbooklaw_batch : GS := mkSpec false is_rainbooklaw_batch os_rainbooklaw_batch fun x => F_rainbooklaw_batch 
theorem R_rainbooklaw_batch_ok : GSOK Tryd.prog 33 R_rainbooklaw_batch := spec_ok tok g_rainbooklaw_batch fmo (Ht := H_rainbooklaw_batch) (fn := Tryd.f33) (Tryd.func33) (c := C_rainbooklaw_batch) (by kernel_rfl) (by kernel_rfl) (by kernel_rfl) (by decide +kernel) (by decide) F_rainbooklaw_batch_eq
end Go.Proofs.Y
namespace Go.Proofs.Y
open Go.Rb Go.Kx
noncomputable abbrev R_split : GS := .r (libS [.v (.one .str) false, .v (.one .str) false] (fun x => splitO (x.1) (x.2)) (gStrs 9))
theorem R_split_ok : GSOK Tryd.prog 35 R_split := split_gs
end Go.Proofs.Y
namespace Go.Proofs.Y
open Go.Rb Go.Kx
noncomputable def C_indexS : Code := bodyOf Tryd.f36
noncomputable def G_indexS : FuncId → Option GS := tabG []
theorem g_indexS : ΓOK Tryd.prog G_indexS := ΓOK_nil
def H_indexS : HT := ⟨tabL [(2, .it [] (dyn [.t 8 (.int .i64)]))], tabH []⟩
abbrev is_indexS : List IT := [.v (.one (.sl 9 (.one .str))) false, .v (.one .str) false]
abbrev os_indexS : List OT := [⟨.one (.int .i64), false, []⟩]
set_option maxRecDepth 100000
noncomputable def F_indexS : List (List UInt8) → List UInt8 → Option Int := fun (a : List (List UInt8)) (b : List UInt8) => loopN maxR (fun (x : Int) => ifB (ltI x (lenI a)) (bindO (atI a x) fun (y : List UInt8) => ifB (eqS b y) (mapO Sum.inr (some x)) (some (Sum.inl (wadd .i64 x 1)))) (mapO Sum.inr (some (-1)))) 0
theorem F_indexS_eq (x : PI is_indexS) : F_indexS (x.1) (x.2) = fnE T G_indexS H_indexS C_indexS (resOf Tryd.f36) is_indexS os_indexS x := by kernel_rfl
noncomputable abbrev R_indexS : GS := mkSpec false is_indexS os_indexS fun x => F_indexS (x.1) (x.2)
theorem R_indexS_ok : GSOK Tryd.prog 36 R_indexS := spec_ok tok g_indexS fmo (Ht := H_indexS) (fn := Tryd.f36) (Tryd.func36) (c := C_indexS) (by kernel_rfl) (by kernel_rfl) (by kernel_rfl) (by decide +kernel) (by decide) F_indexS_eq
end Go.Proofs.Y
namespace Go.Proofs.Y
open Go.Rb Go.Kx
noncomputable abbrev R_atoi : GS := .r (libS [.v (.one .str) false] (fun x => atoiO x) gErr)
theorem R_atoi_ok : GSOK Tryd.prog 37 R_atoi := atoi_gs
end Go.Proofs.Y
namespace Go.Proofs.Y
open Go.Rb Go.Kx
noncomputable def C_note_Parse : Code := bodyOf Tryd.f10
noncomputable def G_note_Parse : FuncId → Option GS := tabG [(35, R_split), (31, R_note_words), (36, R_indexS), (37, R_atoi), (32, R_itoa), (12, R_note_Check)]
theorem g_note_Parse : ΓOK Tryd.prog G_note_Parse := ΓOK_cons (R_split_ok) (ΓOK_cons (R_note_words_ok) (ΓOK_cons (R_indexS_ok) (ΓOK_cons (R_atoi_ok) (ΓOK_cons (R_itoa_ok) (ΓOK_cons (R_note_Check_ok) (ΓOK_nil))))))
def H_note_Parse : HT := ⟨tabL [(7, .it [] (dyn [.a 6 3 (.one (.int .i64)), .t 28 (.int .i64), .c 2 0 (.int .i64), .c 2 1 (.int .i64), .c 2 2 (.int .i64), .c 2 3 (.sl 56 (.cons (.int .i64) (.cons (.int .i64) (.one (.int .i64)))))])), (17, .it [] (dyn [.t 11 (.int .i64), .b 5 3 56 (.cons (.int .i64) (.cons (.int .i64) (.one (.int .i64))))]))], tabH []⟩
abbrev is_note_Parse : List IT := [.v (.one .str) false]
abbrev os_note_Parse : List OT := [⟨.cons (.int .i64) (.cons (.int .i64) (.cons (.int .i64) (.one (.sl 56 (.cons (.int .i64) (.cons (.int .i64) (.one (.int .i64)))))))), true, []⟩, ⟨.one (.int .i64), false, []⟩]
set_option maxRecDepth 100000
noncomputable def F_note_Parse : List UInt8 → Option ((Int × Int × Int × List (Int × Int × Int)) × Int) := fun (a : List UInt8) => ifB (gtI (lenI a) 60000) (some ((0, 0, 0, []), 2)) (bindO (splitO a [32]) fun (y : List (List UInt8)) => bindO F_note_words fun (y_1 : List (List UInt8)) => bindO (atI y 0) fun (y_2 : List UInt8) => bindO (F_indexS y_1 y_2) fun (y_3 : Int) => ifB (in1 y 1) (loopN maxR (fun (x : Int × Int × Int × Int × List (Int × Int × Int) × List Int) => ifB (ltI x.1 (lenI (dropI y 1))) (bindO (atI (dropI y 1) x.1) fun (y : List UInt8) => bindO (atoiO y) fun (y_4 : Int × Bool) => ifB y_4.2 (mapO Sum.inr (some ((0, 0, 0, []), 1))) (bindO (itoaO y_4.1) fun (y_5 : List UInt8) => ifB (notB (eqS y_5 y)) (mapO Sum.inr (some ((0, 0, 0, []), 1))) (ifB (roomA 8 x.2.2.2.2.2 [y_4.1]) (some (Sum.inl (wadd .i64 x.1 1, x.2.1, x.2.2.1, x.2.2.2.1, x.2.2.2.2.1, cat x.2.2.2.2.2 [y_4.1]))) none))) (mapO Sum.inr (ifB (eqI y_3 1) (ifB (eqI (wrem (lenI x.2.2.2.2.2) 3) 0) (loopN maxR (fun (x_1 : Int × List (Int × Int × Int)) => ifB (ltI x_1.1 (lenI x.2.2.2.2.2)) (ifB (ltL x_1.1 x.2.2.2.2.2) (bindO (atN x.2.2.2.2.2 (natI x_1.1)) fun (y : Int) => ifB (ltL (wadd .i64 x_1.1 1) x.2.2.2.2.2) (bindO (atN x.2.2.2.2.2 (natI (wadd .i64 x_1.1 1))) fun (y_4 : Int) => ifB (ltL (wadd .i64 x_1.1 2) x.2.2.2.2.2) (bindO (atN x.2.2.2.2.2 (natI (wadd .i64 x_1.1 2))) fun (y_5 : Int) => ifB (roomA 24 x_1.2 [(y, y_4, y_5)]) (some (Sum.inl (wadd .i64 x_1.1 3, cat x_1.2 [(y, y_4, y_5)]))) none) none) none) none) (mapO Sum.inr (bindO (F_note_Check (y_3, 0, 0, x_1.2)) fun (y : Int) => ifB (neI y 0) (some ((0, 0, 0, []), y)) (some ((y_3, 0, 0, x_1.2), 0))))) (0, [])) (ifB (eqI y_3 2) (ifB (eqI (lenI x.2.2.2.2.2) 2) (ifB (ltL 0 x.2.2.2.2.2) (bindO (atN x.2.2.2.2.2 (natI 0)) fun (y : Int) => ifB (ltL 1 x.2.2.2.2.2) (bindO (atN x.2.2.2.2.2 (natI 1)) fun (y_4 : Int) => bindO (F_note_Check (y_3, y, y_4, [])) fun (y_5 : Int) => ifB (neI y_5 0) (some ((0, 0, 0, []), y_5)) (some ((y_3, y, y_4, []), 0))) none) none) (ifB (eqI y_3 4) (ifB (eqI (lenI x.2.2.2.2.2) 1) (ifB (ltL 0 x.2.2.2.2.2) (bindO (atN x.2.2.2.2.2 (natI 0)) fun (y : Int) => bindO (F_note_Check (y_3, 0, y, [])) fun (y_4 : Int) => ifB (neI y_4 0) (some ((0, 0, 0, []), y_4)) (some ((y_3, 0, y, []), 0))) none) (some ((0, 0, 0, []), 1))) (some ((0, 0, 0, []), 1)))) (ifB (eqI y_3 3) (ifB (eqI (lenI x.2.2.2.2.2) 2) (ifB (ltL 0 x.2.2.2.2.2) (bindO (atN x.2.2.2.2.2 (natI 0)) fun (y : Int) => ifB (ltL 1 x.2.2.2.2.2) (bindO (atN x.2.2.2.2.2 (natI 1)) fun (y_4 : Int) => bindO (F_note_Check (y_3, y, y_4, [])) fun (y_5 : Int) => ifB (neI y_5 0) (some ((0, 0, 0, []), y_5)) (some ((y_3, y, y_4, []), 0))) none) none) (ifB (eqI y_3 4) (ifB (eqI (lenI x.2.2.2.2.2) 1) (ifB (ltL 0 x.2.2.2.2.2) (bindO (atN x.2.2.2.2.2 (natI 0)) fun (y : Int) => bindO (F_note_Check (y_3, 0, y, [])) fun (y_4 : Int) => ifB (neI y_4 0) (some ((0, 0, 0, []), y_4)) (some ((y_3, 0, y, []), 0))) none) (some ((0, 0, 0, []), 1))) (some ((0, 0, 0, []), 1)))) (ifB (eqI y_3 4) (ifB (eqI (lenI x.2.2.2.2.2) 1) (ifB (ltL 0 x.2.2.2.2.2) (bindO (atN x.2.2.2.2.2 (natI 0)) fun (y : Int) => bindO (F_note_Check (y_3, 0, y, [])) fun (y_4 : Int) => ifB (neI y_4 0) (some ((0, 0, 0, []), y_4)) (some ((y_3, 0, y, []), 0))) none) (some ((0, 0, 0, []), 1))) (some ((0, 0, 0, []), 1)))))) (ifB (eqI y_3 2) (ifB (eqI (lenI x.2.2.2.2.2) 2) (ifB (ltL 0 x.2.2.2.2.2) (bindO (atN x.2.2.2.2.2 (natI 0)) fun (y : Int) => ifB (ltL 1 x.2.2.2.2.2) (bindO (atN x.2.2.2.2.2 (natI 1)) fun (y_4 : Int) => bindO (F_note_Check (y_3, y, y_4, [])) fun (y_5 : Int) => ifB (neI y_5 0) (some ((0, 0, 0, []), y_5)) (some ((y_3, y, y_4, []), 0))) none) none) (ifB (eqI y_3 4) (ifB (eqI (lenI x.2.2.2.2.2) 1) (ifB (ltL 0 x.2.2.2.2.2) (bindO (atN x.2.2.2.2.2 (natI 0)) fun (y : Int) => bindO (F_note_Check (y_3, 0, y, [])) fun (y_4 : Int) => ifB (neI y_4 0) (some ((0, 0, 0, []), y_4)) (some ((y_3, 0, y, []), 0))) none) (some ((0, 0, 0, []), 1))) (some ((0, 0, 0, []), 1)))) (ifB (eqI y_3 3) (ifB (eqI (lenI x.2.2.2.2.2) 2) (ifB (ltL 0 x.2.2.2.2.2) (bindO (atN x.2.2.2.2.2 (natI 0)) fun (y : Int) => ifB (ltL 1 x.2.2.2.2.2) (bindO (atN x.2.2.2.2.2 (natI 1)) fun (y_4 : Int) => bindO (F_note_Check (y_3, y, y_4, [])) fun (y_5 : Int) => ifB (neI y_5 0) (some ((0, 0, 0, []), y_5)) (some ((y_3, y, y_4, []), 0))) none) none) (ifB (eqI y_3 4) (ifB (eqI (lenI x.2.2.2.2.2) 1) (ifB (ltL 0 x.2.2.2.2.2) (bindO (atN x.2.2.2.2.2 (natI 0)) fun (y : Int) => bindO (F_note_Check (y_3, 0, y, [])) fun (y_4 : Int) => ifB (neI y_4 0) (some ((0, 0, 0, []), y_4)) (some ((y_3, 0, y, []), 0))) none) (some ((0, 0, 0, []), 1))) (some ((0, 0, 0, []), 1)))) (ifB (eqI y_3 4) (ifB (eqI (lenI x.2.2.2.2.2) 1) (ifB (ltL 0 x.2.2.2.2.2) (bindO (atN x.2.2.2.2.2 (natI 0)) fun (y : Int) => bindO (F_note_Check (y_3, 0, y, [])) fun (y_4 : Int) => ifB (neI y_4 0) (some ((0, 0, 0, []), y_4)) (some ((y_3, 0, y, []), 0))) none) (some ((0, 0, 0, []), 1))) (some ((0, 0, 0, []), 1)))))))) (0, 0, 0, 0, [], [])) none)
theorem F_note_Parse_eq (x : PI is_note_Parse) : F_note_Parse x = fnE T G_note_Parse H_note_Parse C_note_Parse (resOf Tryd.f10) is_note_Parse os_note_Parse x := by kernel_rfl
noncomputable abbrev R_note_Parse : GS := mkSpec false is_note_Parse os_note_Parse fun x => F_note_Parse x
theorem R_note_Parse_ok : GSOK Tryd.prog 10 R_note_Parse := spec_ok tok g_note_Parse fmo (Ht := H_note_Parse) (fn := Tryd.f10) (Tryd.func10) (c := C_note_Parse) (by kernel_rfl) (by kernel_rfl) (by kernel_rfl) (by decide +kernel) (by decide) F_note_Parse_eq
end Go.Proofs.Y
namespace Go.Proofs.Y
open Go.Rb Go.Kx
noncomputable def C_equalE : Code := bodyOf Tryd.f34
noncomputable def G_equalE : FuncId → Option GS := tabG []
theorem g_equalE : ΓOK Tryd.prog G_equalE := ΓOK_nil
def H_equalE : HT := ⟨tabL [(4, .it [] (dyn [.t 13 (.int .i64)]))], tabH []⟩
abbrev is_equalE : List IT := [.v (.one (.sl 56 (.cons (.int .i64) (.cons (.int .i64) (.one (.int .i64)))))) false, .v (.one (.sl 56 (.cons (.int .i64) (.cons (.int .i64) (.one (.int .i64)))))) false]
abbrev os_equalE : List OT := [⟨.one .bool, false, []⟩]
set_option maxRecDepth 100000
noncomputable def F_equalE : List (Int × Int × Int) → List (Int × Int × Int) → Option Bool := fun (a b : List (Int × Int × Int)) => ifB (neI (lenI a) (lenI b)) (some false) (loopN maxR (fun (x : Int) => ifB (ltI x (lenI a)) (bindO (atI a x) fun (y : Int × Int × Int) => bindO (atI b x) fun (y_1 : Int × Int × Int) => ifB (notB (eqL [y.1, y.2.1, y.2.2] [y_1.1, y_1.2.1, y_1.2.2])) (mapO Sum.inr (some false)) (some (Sum.inl (wadd .i64 x 1)))) (mapO Sum.inr (some true))) 0)
theorem F_equalE_eq (x : PI is_equalE) : F_equalE (x.1) (x.2) = fnE T G_equalE H_equalE C_equalE (resOf Tryd.f34) is_equalE os_equalE x := by kernel_rfl
noncomputable abbrev R_equalE : GS := mkSpec false is_equalE os_equalE fun x => F_equalE (x.1) (x.2)
theorem R_equalE_ok : GSOK Tryd.prog 34 R_equalE := spec_ok tok g_equalE fmo (Ht := H_equalE) (fn := Tryd.f34) (Tryd.func34) (c := C_equalE) (by kernel_rfl) (by kernel_rfl) (by kernel_rfl) (by decide +kernel) (by decide) F_equalE_eq
end Go.Proofs.Y
namespace Go.Proofs.Y
open Go.Rb Go.Kx
noncomputable def C_note_Same : Code := bodyOf Tryd.f9
noncomputable def G_note_Same : FuncId → Option GS := tabG [(34, R_equalE)]
theorem g_note_Same : ΓOK Tryd.prog G_note_Same := ΓOK_cons (R_equalE_ok) (ΓOK_nil)
def H_note_Same : HT := ⟨tabL [], tabH []⟩
abbrev is_note_Same : List IT := [.v (.cons (.int .i64) (.cons (.int .i64) (.cons (.int .i64) (.one (.sl 56 (.cons (.int .i64) (.cons (.int .i64) (.one (.int .i64))))))))) true, .v (.cons (.int .i64) (.cons (.int .i64) (.cons (.int .i64) (.one (.sl 56 (.cons (.int .i64) (.cons (.int .i64) (.one (.int .i64))))))))) true]
abbrev os_note_Same : List OT := [⟨.one .bool, false, []⟩]
set_option maxRecDepth 100000
noncomputable def F_note_Same : Int × Int × Int × List (Int × Int × Int) → Int × Int × Int × List (Int × Int × Int) → Option Bool := fun (a b : Int × Int × Int × List (Int × Int × Int)) => ifB (eqI a.1 b.1) (ifB (eqI a.2.1 b.2.1) (ifB (eqI a.2.2.1 b.2.2.1) (bindO (F_equalE a.2.2.2 b.2.2.2) fun (y : Bool) => some y) (some false)) (some false)) (some false)
theorem F_note_Same_eq (x : PI is_note_Same) : F_note_Same (x.1) (x.2) = fnE T G_note_Same H_note_Same C_note_Same (resOf Tryd.f9) is_note_Same os_note_Same x := by kernel_rfl
noncomputable abbrev R_note_Same : GS := mkSpec false is_note_Same os_note_Same fun x => F_note_Same (x.1) (x.2)
theorem R_note_Same_ok : GSOK Tryd.prog 9 R_note_Same := spec_ok tok g_note_Same fmo (Ht := H_note_Same) (fn := Tryd.f9) (Tryd.func9) (c := C_note_Same) (by kernel_rfl) (by kernel_rfl) (by kernel_rfl) (by decide +kernel) (by decide) F_note_Same_eq
end Go.Proofs.Y
namespace Go.Proofs.Y
open Go.Rb Go.Kx
noncomputable def C_rainbooklaw_noted : Code := bodyOf Tryd.f8
noncomputable def G_rainbooklaw_noted : FuncId → Option GS := tabG [(33, R_rainbooklaw_batch), (7, R_note_Print), (10, R_note_Parse), (9, R_note_Same)]
theorem g_rainbooklaw_noted : ΓOK Tryd.prog G_rainbooklaw_noted := ΓOK_cons (R_rainbooklaw_batch_ok) (ΓOK_cons (R_note_Print_ok) (ΓOK_cons (R_note_Parse_ok) (ΓOK_cons (R_note_Same_ok) (ΓOK_nil))))
def H_rainbooklaw_noted : HT := ⟨tabL [], tabH []⟩
abbrev is_rainbooklaw_noted : List IT := []
abbrev os_rainbooklaw_noted : List OT := [⟨.one .bool, false, []⟩]
set_option maxRecDepth 100000
noncomputable def F_rainbooklaw_noted : Option Bool :=  bindO F_rainbooklaw_batch fun (y : Int × Int × Int × List (Int × Int × Int)) => bindO (F_note_Print (y.1, y.2.1, y.2.2.1, y.2.2.2)) fun (y : List UInt8 × Int) => bindO (F_note_Print (2, 1, 2, [])) fun (y_1 : List UInt8 × Int) => bindO (F_note_Parse y.1) fun (y_2 : (Int × Int × Int × List (Int × Int × Int)) × Int) => ifB (eqI y.2 0) (ifB (eqI y_1.2 0) (ifB (eqI y_2.2 0) (ifB (eqS y.1 [98, 97, 116, 99, 104, 32, 49, 32, 49, 48, 32, 45, 53, 32, 50, 32, 51, 32, 52]) (ifB (eqS y_1.1 [115, 101, 97, 108, 32, 49, 32, 50]) (bindO F_rainbooklaw_batch fun (y : Int × Int × Int × List (Int × Int × Int)) => bindO (F_note_Same (y_2.1.1, y_2.1.2.1, y_2.1.2.2.1, y_2.1.2.2.2) (y.1, y.2.1, y.2.2.1, y.2.2.2)) fun (y : Bool) => some y) (some false)) (some false)) (some false)) (some false)) (some false)
theorem F_rainbooklaw_noted_eq (x : PI is_rainbooklaw_noted) : F_rainbooklaw_noted  = fnE T G_rainbooklaw_noted H_rainbooklaw_noted C_rainbooklaw_noted (resOf Tryd.f8) is_rainbooklaw_noted os_rainbooklaw_noted x := by kernel_rfl
noncomputable abbrev R_rainbooklaw_noted : GS := mkSpec false is_rainbooklaw_noted os_rainbooklaw_noted fun x => F_rainbooklaw_noted 
theorem R_rainbooklaw_noted_ok : GSOK Tryd.prog 8 R_rainbooklaw_noted := spec_ok tok g_rainbooklaw_noted fmo (Ht := H_rainbooklaw_noted) (fn := Tryd.f8) (Tryd.func8) (c := C_rainbooklaw_noted) (by kernel_rfl) (by kernel_rfl) (by kernel_rfl) (by decide +kernel) (by decide) F_rainbooklaw_noted_eq
end Go.Proofs.Y
namespace Go.Proofs.Y
open Go.Rb Go.Kx
set_option maxRecDepth 100000
end Go.Proofs.Y
namespace Go.Proofs.Y
open Go.Rb Go.Kx
theorem noteCheck_eq (r : Rc) (hl : r.2.2.2.length < 4611686018427387904) : F_note_Check r = some (chkRec r) := by
  unfold F_note_Check chkRec
  have hloop : loopN maxR (fun (x : Int) => ifB (ltI x (lenI (Prod.snd (Prod.snd (Prod.snd r))))) (bindO (atI (Prod.snd (Prod.snd (Prod.snd r))) x) fun (y : Int × Int × Int) =>
      ifB (ltI (Prod.fst y) 0) (mapO Sum.inr (some 3)) (ifB (geI (Prod.fst y) 4) (mapO Sum.inr (some 3)) (ifB (ltI (Prod.fst (Prod.snd y)) 0) (mapO Sum.inr (some 3)) (ifB (gtI (Prod.fst (Prod.snd y)) 100000) (mapO Sum.inr (some 3))
        (ifB (ltI (Prod.snd (Prod.snd y)) (-1000000)) (mapO Sum.inr (some 3)) (ifB (gtI (Prod.snd (Prod.snd y)) 1000000) (mapO Sum.inr (some 3)) (some (Sum.inl (wadd IntKind.i64 x 1))))))))) (mapO Sum.inr (some 0))) 0 = some (entE r.2.2.2) := by
    generalize r.2.2.2 = l at *
    refine loop_range l (fun j (_ : Unit) => (j : Int)) (G := fun rest _ => some (entE rest)) (P := fun _ _ => True) ?_ ?_ (s0 := ()) trivial (by omega)
    · rintro j _ hj _ k hk
      have hat := atI_nat hj
      generalize l.getD j default = x at *
      simp only [stepK_ifB, stepK_bind, stepK_map, stepK_inl]
      rw [ifB_ltI, lenI_eq, if_pos (by omega), hat, bindO_some, ifB_ltI, ifB_geI, ifB_ltI, ifB_gtI, ifB_ltI, ifB_gtI, wadd_nat (by omega), hk () trivial, entE]
      by_cases hb : badEnt x
      · rw [if_pos hb]
        unfold badEnt at hb
        repeat' split
        all_goals first | rfl | (exfalso; omega)
      · rw [if_neg hb]
        unfold badEnt at hb
        repeat' split
        all_goals first | rfl | (exfalso; omega)
    · rintro _ _ k
      simp only [stepK_ifB, stepK_map]
      rw [ifB_ltI, lenI_eq, if_neg (by omega)]; rfl
  rw [hloop]
  simp only [ifB_ltI, ifB_gtI, ifB_eqI, ifB_neI, ifB_geI, lenI_eq]
  repeat' split
  all_goals first | rfl | (exfalso; omega)
theorem words_eq : F_note_words = some kindW := rfl
theorem index_eq (a : List (List UInt8)) (b : List UInt8) (h : a.length < 4611686018427387904) : F_indexS a b = some (ixW a b 0) := by
  unfold F_indexS
  refine loop_range a (fun j (_ : Int) => (j : Int)) (G := fun rest s => some (ixW rest b s)) (P := fun j s => s = (j : Int)) (s0 := (0 : Int)) ?_ ?_ rfl (by omega)
  · rintro j s hj rfl k hk
    have hat := atI_nat hj
    generalize a.getD j default = x at *
    rw [stepK_ifB, stepK_map, ifB_ltI, lenI_eq, if_pos (by omega), hat, stepK_bind, bindO_some, stepK_ifB, stepK_map, stepK_inl, ifB_eqS, wadd_nat (by omega), hk _ rfl, ixW]
    split
    · rfl
    · rfl
  · rintro s rfl k
    rw [stepK_ifB, stepK_map, ifB_ltI, lenI_eq, if_neg (by omega)]; rfl
theorem print_loop (f : List UInt8 × Int → Option (Sum (List UInt8 × Int) (List UInt8 × Int))) (l : List Int) (w : List UInt8) (hl : l.length ≤ 30) (hb : ∀ n ∈ l, -1000000 ≤ n ∧ n ≤ 1000000) (hw : w.length ≤ 5)
    (hs : ∀ (j : Nat) (s : List UInt8), j < l.length → f (s, (j : Int)) = bindO (itoaO (l.getD j default)) fun (y : List UInt8) => ifB (roomS [32] y) (ifB (roomS s (catS [32] y)) (some (Sum.inl (catS s (catS [32] y), wadd IntKind.i64 (j : Int) 1))) none) none)
    (he : ∀ s, f (s, (l.length : Int)) = some (Sum.inr (s, 0))) : loopN maxR f (w, 0) = some (jn 32 (w :: l.map Lib.itoa), 0) := by
  have hh : ∀ n ∈ l, itoaO n = some (Lib.itoa n) ∧ (Lib.itoa n).length ≤ 21 := fun n hn => by
    have := hb n hn
    exact ⟨by unfold itoaO; rw [if_pos (by omega)], Lib.itoa_length_le n (by omega) (by omega)⟩
  have := loop_range l (fun j (s : List UInt8) => (s, (j : Int))) (f := f) (G := fun rest s => some (s ++ (rest.map fun n => 32 :: Lib.itoa n).flatten, 0)) (P := fun j s => s.length ≤ 5 + 22 * j) (s0 := w) ?_ ?_ (by omega) (by omega)
  · rw [show ((0 : Nat) : Int) = 0 from rfl] at this
    rw [this]
    simp only [jn, List.map_map]; rfl
  · intro j s hj hp k hk
    have hm : l.getD j default ∈ l := by simp [List.getD, List.getElem?_eq_getElem hj]
    obtain ⟨h1, h2⟩ := hh _ hm
    rw [hs j s hj, h1, bindO_some]
    generalize l.getD j default = x at *
    rw [ifB_roomS, if_pos (by simp; omega), ifB_roomS, if_pos (by simp [catS]; omega), stepK_inl, wadd_nat (by omega), hk _ (by simp [catS]; omega)]
    simp [catS]
  · intro s _ k
    rw [he, stepK_inr]; simp
theorem print_eq (r : Rc) (hl : r.2.2.2.length < 4611686018427387904) : F_note_Print r = some (printR r) := by
  unfold F_note_Print printR
  have hck : F_note_Check (Prod.fst r, Prod.fst (Prod.snd r), Prod.fst (Prod.snd (Prod.snd r)), Prod.snd (Prod.snd (Prod.snd r))) = some (chkRec r) := noteCheck_eq r hl
  rw [hck, bindO_some, ifB_neI]
  by_cases hc : chkRec r = 0
  · rw [if_pos hc, if_pos hc]
    obtain ⟨k1, k2, k3, k4⟩ := chkRec_kind hc
    obtain ⟨a1, a2⟩ := args_in hc
    obtain ⟨_, _, hw⟩ := kind_word k1 k2
    have hat : atI kindW r.1 = some (kindW.getD r.1.toNat []) := by
      have : r.1 = 1 ∨ r.1 = 2 ∨ r.1 = 3 ∨ r.1 = 4 := by omega
      rcases this with h | h | h | h <;> rw [h] <;> rfl
    rw [words_eq, bindO_some]
    simp only [hat, bindO_some]
    rw [ifB_eqI]
    by_cases h1 : r.1 = 1
    · rw [if_pos h1]
      have he : rcArgs r = flatE r.2.2.2 := by unfold rcArgs; rw [if_pos h1]
      have ht : textR r = jn 32 (kindW.getD r.1.toNat [] :: (flatE r.2.2.2).map Lib.itoa) := by unfold textR; rw [he]
      rw [he] at a1 a2
      have hll := flat_len r.2.2.2
      rw [ht]
      generalize kindW.getD r.1.toNat [] = w at *
      generalize hle : r.2.2.2 = l at *
      refine loop_range l (fun j (s : List Int) => ((j : Int), s)) (G := fun rest s => if s ++ flatE rest = flatE l then some (jn 32 (w :: (flatE l).map Lib.itoa), 0) else none) (P := fun j s => s.length = 3 * j ∧ s ++ flatE (l.drop j) = flatE l) (s0 := []) ?_ ?_ ⟨rfl, rfl⟩ (by omega) |>.trans (by simp)
      · rintro j s hj ⟨hp, hq⟩ k hk
        have hat := atI_nat hj
        have hd : l.drop j = l.getD j default :: l.drop (j + 1) := by rw [List.drop_eq_getElem_cons hj]; simp [List.getD, List.getElem?_eq_getElem hj]
        rw [hd] at hq
        generalize l.getD j default = x at *
        rw [stepK_ifB, stepK_map, ifB_ltI, lenI_eq, if_pos (by omega), hat, stepK_bind, bindO_some, stepK_ifB, stepK_none, stepK_inl, ifB_roomA, if_pos (by simp; omega), wadd_nat (by omega)]
        simp only [cat_eq]
        have hq2 : (s ++ [x.1, x.2.1, x.2.2]) ++ flatE (l.drop (j + 1)) = flatE l := by rw [← hq, flatE]; simp
        rw [hk _ ⟨by simp; omega, hq2⟩, if_pos hq2, if_pos hq]
      · rintro s ⟨hp, hq⟩ k
        rw [List.drop_length] at hq
        have hq' : s = flatE l := by simpa [flatE] using hq
        subst hq'
        rw [stepK_ifB, stepK_map, ifB_ltI, lenI_eq, if_neg (by omega), if_pos hq]
        refine print_loop _ (flatE l) w a1 a2 hw ?_ ?_
        · intro j s hj
          simp only [stepK_none, stepK_inl, stepK_inr, stepK_map, stepK_if, stepK_bind, ifB_t, ifB_f, ifB_same, ifB_ltI, ifB_leI, ifB_gtI, ifB_geI, ifB_eqI, ifB_neI, ifB_not, ifB_and, ifB_eqB, ifB_isE, ifB_in1, ifB_in2, ifB_in1N, ifB_in2N, ifB_in1C, ifB_in2C, ifB_inN, ifB_ltL, ifB_ltN, ifB_roomA, ifB_roomI, ifB_roomZ, ifB_roomS, ifB_eqS, ifB_eqL, ifB_fits, bindO_some, bindO_none, mapO_some, mapO_none, lenI_eq, lenN_eq, cat_eq, takeI_eq, dropI_eq, sliI_eq, setN_eq, natI_eq, intN_eq]
          have hat := atN_nat hj
          rw [if_pos (by omega), if_pos (by omega), show ((j : Int)).toNat = j by omega, hat, bindO_some]
        · intro s
          simp only [stepK_none, stepK_inl, stepK_inr, stepK_map, stepK_if, stepK_bind, ifB_t, ifB_f, ifB_same, ifB_ltI, ifB_leI, ifB_gtI, ifB_geI, ifB_eqI, ifB_neI, ifB_not, ifB_and, ifB_eqB, ifB_isE, ifB_in1, ifB_in2, ifB_in1N, ifB_in2N, ifB_in1C, ifB_in2C, ifB_inN, ifB_ltL, ifB_ltN, ifB_roomA, ifB_roomI, ifB_roomZ, ifB_roomS, ifB_eqS, ifB_eqL, ifB_fits, bindO_some, bindO_none, mapO_some, mapO_none, lenI_eq, lenN_eq, cat_eq, takeI_eq, dropI_eq, sliI_eq, setN_eq, natI_eq, intN_eq]
          rw [if_neg (by omega)]
    · rw [if_neg h1, ifB_eqI]
      by_cases h4 : r.1 = 4
      · rw [if_pos h4]
        have he : rcArgs r = [r.2.2.1] := by unfold rcArgs; rw [if_neg h1, if_pos h4]
        have ht : textR r = jn 32 (kindW.getD r.1.toNat [] :: [r.2.2.1].map Lib.itoa) := by unfold textR; rw [he]
        rw [he] at a1 a2
        rw [ht, ifB_in1, if_pos ⟨by omega, by simp⟩]
        refine print_loop _ [r.2.2.1] _ a1 a2 hw ?_ ?_
        · intro j s hj
          have : j = 0 := by simpa using hj
          subst this
          rfl
        · intro s; rfl
      · rw [if_neg h4]
        have he : rcArgs r = [r.2.1, r.2.2.1] := by unfold rcArgs; rw [if_neg h1, if_neg h4]
        have ht : textR r = jn 32 (kindW.getD r.1.toNat [] :: [r.2.1, r.2.2.1].map Lib.itoa) := by unfold textR; rw [he]
        rw [he] at a1 a2
        rw [ht]
        refine print_loop _ [r.2.1, r.2.2.1] _ a1 a2 hw ?_ ?_
        · intro j s hj
          have : j = 0 ∨ j = 1 := by simp at hj; omega
          rcases this with rfl | rfl <;> rfl
        · intro s; rfl
  · rw [if_neg hc, if_neg hc]
end Go.Proofs.Y
namespace Go.Proofs.Y
open Go.Rb Go.Kx
theorem sp_wlen (c : UInt8) : ∀ l, ∀ w ∈ sp c l, w.length ≤ l.length
  | [], w, hw => by simp [sp] at hw; subst hw; simp
  | b :: l, w, hw => by
    have ih := sp_wlen c l
    have hn := sp_ne c l
    unfold sp at hw
    split at hw
    · rcases List.mem_cons.1 hw with rfl | hw
      · simp
      · have := ih w hw; simp; omega
    · split at hw
      · rename_i h2; exact absurd h2 hn
      · rename_i v r h2
        rw [h2] at ih
        rcases List.mem_cons.1 hw with rfl | hw
        · have := ih v (by simp); simp; omega
        · have := ih w (by simp [hw]); simp; omega
def endP (k : Int) (ns : List Int) : Rc × Int := match recOf k ns with
  | none => (noRec, 1)
  | some r => if chkRec r = 0 then (r, 0) else (noRec, chkRec r)
theorem parseW_eq (w : List UInt8) (xs : List (List UInt8)) : parseW w xs = match nums xs with | none => (noRec, 1) | some ns => endP (ixW kindW w 0) ns := rfl
theorem trip_len : ∀ (n : Nat) (l : List Int), l.length = 3 * n → (trip l).length = n
  | 0, l, h => by have := List.eq_nil_of_length_eq_zero (show l.length = 0 by omega); subst this; rfl
  | n + 1, l, h => by
    match l, h with
    | a :: b :: c :: r, h => rw [trip, List.length_cons, trip_len n r (by simp at h; omega)]
    | [], h => simp at h
    | [_], h => simp at h; omega
    | [_, _], h => simp at h; omega
theorem trip_get : ∀ (n : Nat) (l : List Int) (j : Nat), l.length = 3 * n → j < n → (trip l).getD j default = (l.getD (3 * j) default, l.getD (3 * j + 1) default, l.getD (3 * j + 2) default)
  | 0, l, j, h, hj => by omega
  | n + 1, l, j, h, hj => by
    match l, h with
    | a :: b :: c :: r, h =>
      rw [trip]
      cases j with
      | zero => rfl
      | succ j =>
        have := trip_get n r j (by simp at h; omega) (by omega)
        rw [show 3 * (j + 1) = 3 * j + 3 by omega]
        simpa [List.getD] using this
    | [], h => simp at h
    | [_], h => simp at h; omega
    | [_, _], h => simp at h; omega
theorem wrem3 (n : Nat) : wrem (n : Int) 3 = ((n % 3 : Nat) : Int) := by unfold wrem; rw [Int.tmod_eq_emod_of_nonneg (by omega)]; omega
theorem chkend (r : Rc) (hl : r.2.2.2.length < 4611686018427387904) : (bindO (F_note_Check r) fun (y : Int) => ifB (neI y 0) (some (((0, 0, 0, []) : Rc), y)) (some (r, (0 : Int)))) = some (if chkRec r = 0 then (r, 0) else (noRec, chkRec r)) := by
  rw [noteCheck_eq r hl, bindO_some, ifB_neI]
  split
  · rfl
  · rfl
theorem parse_eq (s : List UInt8) : F_note_Parse s = some (parseR s) := by
  unfold F_note_Parse parseR
  rw [ifB_gtI, lenI_eq]
  by_cases hlen : 60000 < s.length
  · rw [if_pos (by omega), if_pos hlen]; rfl
  · rw [if_neg (by omega), if_neg hlen]
    have hsp : splitO s [32] = some (sp 32 s) := by unfold splitO; rw [if_pos ⟨by omega, by simp⟩, split_words]
    rw [hsp, bindO_some, words_eq, bindO_some]
    have hwl := sp_wlen 32 s
    have hsl := sp_len 32 s
    have hne := sp_ne 32 s
    generalize sp 32 s = ws at *
    cases ws with
    | nil => exact absurd rfl hne
    | cons w xs =>
    rw [show atI (w :: xs) 0 = some w from rfl, bindO_some, index_eq kindW w (by decide), bindO_some, parseW_eq]
    simp only [List.headD_cons, List.tail_cons]
    generalize ixW kindW w 0 = q
    rw [ifB_in1, if_pos ⟨by omega, by simp; omega⟩]
    simp only [show dropI (w :: xs) 1 = xs from rfl]
    have hxl : xs.length ≤ 60000 := by simp at hsl; omega
    have hxw : ∀ x ∈ xs, x.length ≤ 60000 := fun x hx => by have := hwl x (by simp [hx]); omega
    refine (loop_range xs (fun j (a : List Int) => ((j : Int), 0, 0, 0, [], a)) (G := fun rest a => some (match nums rest with | none => (noRec, 1) | some ns => endP q (a ++ ns))) (P := fun j a => a.length = j) (s0 := []) ?_ ?_ rfl (by omega)).trans ?_
    · intro j a hj hp k hk
      have hat := atI_nat hj
      have hm : xs.getD j default ∈ xs := by simp [List.getD, List.getElem?_eq_getElem hj]
      have hx := hxw _ hm
      generalize xs.getD j default = x at *
      rw [stepK_ifB, ifB_ltI, lenI_eq, if_pos (by omega), hat, bindO_some]
      have ha : atoiO x = some (endO (Lib.atoiAll x) (Lib.atoiSat x)) := by unfold atoiO; rw [if_pos (by omega)]
      rw [ha, bindO_some, nums]
      rcases hv : Lib.atoiAll x with v | _ | _
      · have hb := Lib.atoiAll_bounds hv
        have hi : itoaO v = some (Lib.itoa v) := by unfold itoaO; rw [if_pos hb]
        simp only [endO]
        rw [ifB_f, hi, bindO_some, stepK_ifB, ifB_not, ifB_eqS]
        by_cases he : Lib.itoa v = x
        · rw [if_pos he, if_pos he, stepK_ifB, ifB_roomA, if_pos (by simp; omega), stepK_inl, wadd_nat (by omega)]
          simp only [cat_eq]
          rw [hk _ (by simp; omega)]
          cases nums (xs.drop (j + 1)) with
          | none => rfl
          | some ns => simp
        · rw [if_neg he, if_neg he]; rfl
      · rfl
      · rfl
    · intro a hp k
      have hal : a.length ≤ 60000 := by omega
      clear hp hxw hwl
      rw [stepK_ifB, stepK_map, ifB_ltI, lenI_eq, if_neg (by omega)]
      simp only [nums, List.append_nil]
      rw [ifB_eqI]
      by_cases h1 : q = 1
      · subst h1
        rw [if_pos rfl, ifB_eqI, lenI_eq, wrem3]
        by_cases h3 : a.length % 3 = 0
        · rw [if_pos (by omega)]
          have hn : a.length = 3 * (a.length / 3) := by omega
          have htl := trip_len _ a hn
          have he : endP 1 a = if chkRec (1, 0, 0, trip a) = 0 then ((1, 0, 0, trip a), 0) else (noRec, chkRec (1, 0, 0, trip a)) := by unfold endP recOf; rw [if_pos rfl, if_pos h3]
          rw [he]
          refine (loop_range (trip a) (fun j (es : List Ent) => (((3 * j : Nat) : Int), es)) (G := fun rest es => some (if chkRec (1, 0, 0, es ++ rest) = 0 then (((1, 0, 0, es ++ rest) : Rc), 0) else (noRec, chkRec (1, 0, 0, es ++ rest)))) (P := fun j es => es.length = j) (s0 := []) ?_ ?_ rfl (by omega)).trans (by simp)
          · intro j es hj hp k hk
            rw [htl] at hj
            have hg := trip_get _ a j hn hj
            rw [hg]
            have e0 := atN_nat (show 3 * j < a.length by omega)
            have e1 := atN_nat (show 3 * j + 1 < a.length by omega)
            have e2 := atN_nat (show 3 * j + 2 < a.length by omega)
            generalize a.getD (3 * j) default = x0 at *
            generalize a.getD (3 * j + 1) default = x1 at *
            generalize a.getD (3 * j + 2) default = x2 at *
            have w1 : wadd .i64 ((3 * j : Nat) : Int) 1 = ((3 * j + 1 : Nat) : Int) := by rw [wadd_in ⟨by omega, by omega⟩]; rfl
            have w2 : wadd .i64 ((3 * j : Nat) : Int) 2 = ((3 * j + 2 : Nat) : Int) := by rw [wadd_in ⟨by omega, by omega⟩]; rfl
            have w3 : wadd .i64 ((3 * j : Nat) : Int) 3 = ((3 * (j + 1) : Nat) : Int) := by rw [wadd_in ⟨by omega, by omega⟩]; omega
            rw [stepK_ifB, ifB_ltI, if_pos (show ((3 * j : Nat) : Int) < a.length by omega)]
            simp only [w1, w2, w3, natI_eq, Int.toNat_natCast]
            rw [stepK_ifB, ifB_ltL, if_pos (by omega), e0, bindO_some, stepK_ifB, ifB_ltL, if_pos (by omega), e1, bindO_some, stepK_ifB, ifB_ltL, if_pos (by omega), e2, bindO_some, stepK_ifB, ifB_roomA, if_pos (by simp; omega), stepK_inl]
            simp only [cat_eq]
            rw [hk _ (by simp; omega)]
            simp
          · intro es hp k
            rw [stepK_ifB, stepK_map, ifB_ltI, if_neg (show ¬ ((3 * (trip a).length : Nat) : Int) < a.length by omega), List.append_nil]
            exact chkend (1, 0, 0, es) (by simp; omega)
        · rw [if_neg (by omega)]
          unfold endP recOf
          rw [if_pos rfl, if_neg h3]
          rfl
      · rw [if_neg h1]
        by_cases h2 : a.length = 2
        · match a, h2 with
          | [x, y], _ =>
            have c2 := chkend (q, x, y, []) (by simp)
            rw [ifB_eqI, ifB_eqI]
            by_cases k2 : q = 2
            · rw [if_pos k2]
              have : endP q [x, y] = if chkRec (q, x, y, []) = 0 then ((q, x, y, []), 0) else (noRec, chkRec (q, x, y, [])) := by unfold endP recOf; rw [if_neg h1, if_pos (.inl k2)]
              rw [this]
              exact c2
            · rw [if_neg k2, ifB_eqI]
              by_cases k3 : q = 3
              · rw [if_pos k3]
                have : endP q [x, y] = if chkRec (q, x, y, []) = 0 then ((q, x, y, []), 0) else (noRec, chkRec (q, x, y, [])) := by unfold endP recOf; rw [if_neg h1, if_pos (.inr k3)]
                rw [this]
                exact c2
              · rw [if_neg k3, ifB_eqI]
                unfold endP recOf
                rw [if_neg h1, if_neg (show ¬ (q = 2 ∨ q = 3) by omega)]
                by_cases k4 : q = 4
                · rw [if_pos k4, if_pos k4]; rfl
                · rw [if_neg k4, if_neg k4]; rfl
        · have g2 : ¬ (lenI a = 2) := by rw [lenI_eq]; omega
          have r2 : ∀ k : Int, (k = 2 ∨ k = 3) → recOf k a = none := by
            intro k hk
            unfold recOf
            rw [if_neg (by omega), if_pos hk]
            match a, h2 with
            | [], _ => rfl
            | [_], _ => rfl
            | _ :: _ :: _ :: _, _ => rfl
          simp only [ifB_eqI, if_neg g2]
          by_cases k4 : q = 4
          · subst k4
            by_cases l1 : a.length = 1
            · match a, l1 with
              | [x], _ => exact chkend (4, 0, x, []) (by simp)
            · have g1 : ¬ (lenI a = 1) := by rw [lenI_eq]; omega
              have : endP 4 a = (noRec, 1) := by
                unfold endP recOf
                rw [if_neg (by omega), if_neg (by omega), if_pos rfl]
                match a, l1 with
                | [], _ => rfl
                | _ :: _ :: _, _ => rfl
              rw [this]
              simp only [if_neg g1]
              rfl
          · simp only [if_neg k4]
            have : endP q a = (noRec, 1) := by
              unfold endP
              by_cases hk : q = 2 ∨ q = 3
              · rw [r2 q hk]
              · unfold recOf; rw [if_neg h1, if_neg hk, if_neg k4]
            rw [this]
            split
            · rfl
            · split <;> rfl
    · cases nums xs <;> rfl
theorem noteSame_eq (a b : Rc) (h : a.2.2.2.length < 4611686018427387904) : F_note_Same a b = some (decide (a = b)) := by
  unfold F_note_Same
  have he : F_equalE a.2.2.2 b.2.2.2 = some (decide (a.2.2.2 = b.2.2.2)) := by
    unfold F_equalE
    refine equal_gen (fun y y_1 => eqL [Prod.fst y, Prod.fst (Prod.snd y), Prod.snd (Prod.snd y)] [Prod.fst y_1, Prod.fst (Prod.snd y_1), Prod.snd (Prod.snd y_1)]) ?_ _ _ h
    rintro ⟨x1, x2, x3⟩ ⟨y1, y2, y3⟩
    simp [eqL]
  obtain ⟨a1, a2, a3, a4⟩ := a
  obtain ⟨b1, b2, b3, b4⟩ := b
  simp only at he
  simp only [he, bindO_some, ifB_eqI]
  by_cases h1 : a1 = b1
  · by_cases h2 : a2 = b2
    · by_cases h3 : a3 = b3
      · simp [h1, h2, h3]
      · simp [h1, h2, h3]
    · simp [h1, h2]
  · simp [h1]
theorem noted_eq : F_rainbooklaw_noted = some true := by
  unfold F_rainbooklaw_noted
  have hb : F_rainbooklaw_batch = some (1, 0, 0, [(1, 10, -5), (2, 3, 4)]) := rfl
  have p1 : printR (1, 0, 0, [(1, 10, -5), (2, 3, 4)]) = ([98, 97, 116, 99, 104, 32, 49, 32, 49, 48, 32, 45, 53, 32, 50, 32, 51, 32, 52], 0) := by decide +kernel
  have p2 : printR (2, 1, 2, []) = ([115, 101, 97, 108, 32, 49, 32, 50], 0) := by decide +kernel
  have p3 : parseR [98, 97, 116, 99, 104, 32, 49, 32, 49, 48, 32, 45, 53, 32, 50, 32, 51, 32, 52] = ((1, 0, 0, [(1, 10, -5), (2, 3, 4)]), 0) := by
    have := parse_print (r := (1, 0, 0, [(1, 10, -5), (2, 3, 4)])) (by decide +kernel)
    rw [show textR (1, 0, 0, [(1, 10, -5), (2, 3, 4)]) = [98, 97, 116, 99, 104, 32, 49, 32, 49, 48, 32, 45, 53, 32, 50, 32, 51, 32, 52] by decide +kernel] at this
    exact this
  simp only [hb, bindO_some]
  rw [print_eq (1, 0, 0, [(1, 10, -5), (2, 3, 4)]) (by decide), bindO_some, print_eq (2, 1, 2, []) (by decide), bindO_some, p1, parse_eq, bindO_some, p2, p3]
  rw [noteSame_eq (1, 0, 0, [(1, 10, -5), (2, 3, 4)]) (1, 0, 0, [(1, 10, -5), (2, 3, 4)]) (by decide)]
  decide +kernel
end Go.Proofs.Y
namespace Go.Proofs.Y
open Go.Rb Go.Kx
noncomputable abbrev R_cut : GS := .r (libS [.v (.one .str) false, .v (.one .str) false] (fun x => cutO (x.1) (x.2)) gCut)
theorem R_cut_ok : GSOK Tryd.prog 41 R_cut := cut_gs
end Go.Proofs.Y
namespace Go.Proofs.Y
open Go.Rb Go.Kx
set_option maxRecDepth 100000
end Go.Proofs.Y
namespace Go.Proofs.Y
open Go.Rb Go.Kx
set_option maxRecDepth 100000
end Go.Proofs.Y
namespace Go.Proofs.Y
open Go.Rb Go.Kx
end Go.Proofs.Y
namespace Go.Proofs.Y
open Go.Rb Go.Kx
set_option maxRecDepth 100000
end Go.Proofs.Y
namespace Go.Proofs.Y
open Go.Rb Go.Kx
set_option maxRecDepth 100000
end Go.Proofs.Y
namespace Go.Proofs.Y
open Go.Rb Go.Kx
set_option maxRecDepth 100000
end Go.Proofs.Y
namespace Go.Proofs.Y
open Go.Rb Go.Kx
set_option maxRecDepth 100000
end Go.Proofs.Y
namespace Go.Proofs.Y
open Go.Rb Go.Kx
set_option maxRecDepth 100000
end Go.Proofs.Y
namespace Go.Proofs.Y
open Go.Rb Go.Kx
set_option maxRecDepth 100000
end Go.Proofs.Y
namespace Go.Proofs.Y
open Go.Rb Go.Kx
set_option maxRecDepth 100000
end Go.Proofs.Y
namespace Go.Proofs.Y
open Go.Rb Go.Kx
set_option maxRecDepth 100000
end Go.Proofs.Y
namespace Go.Proofs.Y
open Go.Rb Go.Kx
set_option maxRecDepth 100000
noncomputable def F_rainbooklaw_at : Int → Int → Option Int := fun (a b : Int) => ifB (eqI b 0) none (ifB (ltI (wrem a b) 0) (some (wadd .i64 (wrem a b) b)) (some (wrem a b)))
end Go.Proofs.Y
namespace Go.Proofs.Y
open Go.Rb Go.Kx
set_option maxRecDepth 100000
end Go.Proofs.Y
namespace Go.Proofs.Y
open Go.Rb Go.Kx
theorem at_some (a b : Int) (hb : 0 < b) (hb2 : b ≤ 4611686018427387904) : ∃ n, F_rainbooklaw_at a b = some n ∧ 0 ≤ n ∧ n < b := by
  unfold F_rainbooklaw_at wrem
  rw [ifB_eqI, if_neg (by omega), ifB_ltI]
  have h1 := Int.tmod_lt_of_pos a hb
  have h2 : -b < a.tmod b := by
    have := Int.tmod_lt_of_pos (-a) hb
    rw [Int.neg_tmod] at this
    omega
  by_cases h : a.tmod b < 0
  · rw [if_pos h, wadd_in ⟨by omega, by omega⟩]
    exact ⟨_, rfl, by omega, by omega⟩
  · rw [if_neg h]
    exact ⟨_, rfl, by omega, h1⟩
end Go.Proofs.Y
namespace Go.Proofs.Y
open Go.Rb Go.Kx
end Go.Proofs.Y
namespace Go.Proofs.Y
open Go.Rb Go.Kx
end Go.Proofs.Y
namespace Go.Proofs.Y
open Go.Rb Go.Kx
set_option maxRecDepth 100000
end Go.Proofs.Y
namespace Go.Proofs.Y
open Go.Rb Go.Kx
end Go.Proofs.Y
