/-
  What is proved, part by part: What is stated: the program's data as plain Lean types. how loops run; plain operations in plain words. texts as words between one and the same byte; numerals read back. records and what is asked of them, as a plain function. a record as a text, and read back, as plain functions; the one undoes the other. a disk's text as lines of records, as plain functions; whole lines are read back, a torn one is left. slices cloned, held against each other, put together: in plain words, for elements of any kind. facts on the types of the program. what note.Check comes to. what note.words comes to. the layings of the functions of Go's library that the program reaches. strconv.Itoa of Go's library is known by its answer. what note.Print comes to. what rainbooklaw.batch comes to. strings.Split of Go's library is known by its answer. what slices.Index[[]string,string] comes to. strconv.Atoi of Go's library is known by its answer. what note.Parse comes to. what slices.Equal[[]api.Entry,api.Entry] comes to. what note.Same comes to. what rainbooklaw.noted comes to. what rainbooklaw.NoteBack comes to. records checked, printed, read back by the program: what its functions come to, in plain words. a text read by the program, and the law of notes: what its functions come to, in plain words. strings.Cut of Go's library is known by its answer. what disk.lines comes to. what disk.Check comes to. what slices.Grow[[]byte,byte] comes to. what slices.Concat[[]byte,byte] comes to. what disk.Recover comes to. what disk.Sync comes to. what slices.Clone[[]byte,byte] comes to. what disk.Put comes to. what disk.Crash comes to. what slices.Equal[[]byte,byte] comes to. what disk.Same comes to. what rainbooklaw.at comes to. what rainbooklaw.filed comes to. disks: what the program's functions come to, in plain words. what rainbooklaw.DiskKeeps$1 comes to. what slices.Grow[[]api.Rec,api.Rec] comes to. what slices.Concat[[]api.Rec,api.Rec] comes to. what slices.EqualFunc[[]api.Rec,[]api.Rec,api.Rec,api.Rec] comes to. Conditions: none.
-/
import Derived.Test.YtnkegapccacndaaDoorKED
import Derived.Lib.CountLaws
import Derived.Lib.AtoiAllCases
import Derived.Lib.ParseIntBTie
import Derived.Lib.ItoaMem
import Derived.Lib.ItoaLen
import Derived.Lib.Split
import Derived.Lib.IndexBytes
import Derived.Test.YtnkegapccacndaaDoorProg
import Derived.KernelRfl
import Derived.Shelf.LaysM
import Derived.Shelf.LaysC
set_option linter.unusedVariables false
set_option linter.unusedSimpArgs false
set_option linter.unnecessarySimpa false
set_option maxRecDepth 4000
namespace Go.Rb
abbrev Pt := Int × Int
abbrev Pt.t (p : Pt) : Int := Prod.fst p
abbrev Pt.v (p : Pt) : Int := Prod.snd p
abbrev Bk := Int × Int × Int × List Bool
abbrev Bk.n (b : Bk) : Int := Prod.fst b
abbrev Bk.fr (b : Bk) : Int := Prod.fst (Prod.snd b)
abbrev Bk.to (b : Bk) : Int := Prod.fst (Prod.snd (Prod.snd b))
abbrev Bk.bits (b : Bk) : List Bool := Prod.snd (Prod.snd (Prod.snd b))
abbrev Rowd := List Bk × List Pt
abbrev Rowd.blocks (r : Rowd) : List Bk := Prod.fst r
abbrev Rowd.head (r : Rowd) : List Pt := Prod.snd r
abbrev Ent := Int × Int × Int
abbrev Rc := Int × Int × Int × List Ent
def z0F (n : Int) : Prop := -9223372036854775808 ≤ n ∧ n ≤ 9223372036854775807
theorem zb5 {n : Int} (h1 : -9223372036854775808 ≤ n) (h2 : n ≤ 9223372036854775807) : IntKind.wrap .i64 n = n := by rw [IntKind.wrap_i64]; omega
theorem z4S {α : Type} [Inhabited α] {l : List α} {i : Nat} (h : i < l.length) : l.take (i + 1) = l.take i ++ [l.getD i default] := by
 rw [List.take_succ_eq_append_getElem h]; simp [List.getD, List.getElem?_eq_getElem h]
end Go.Rb
namespace Go.Kx
open Go.Rb
/-! ### Tests -/
theorem Zs {α : Type} (x y : α) : ifB true x y = x := rfl
theorem vj {α : Type} (x y : α) : ifB false x y = y := rfl
theorem vl {α : Type} (b : Bool) (x : α) : ifB b x x = x := by cases b <;> rfl
theorem z3v {α : Type} (b : Bool) (x y : α) : ifB b x y = if b = true then x else y := by cases b <;> rfl
theorem zK {α : Type} (p : Prop) [Decidable p] (x y : α) : ifB (decide p) x y = if p then x else y := by by_cases h : p <;> simp [ifB, h]
theorem zt {α : Type} (a b : Int) (x y : α) : ifB (ltI a b) x y = if a < b then x else y := zK _ _ _
theorem vA {α : Type} (a b : Int) (x y : α) : ifB (leI a b) x y = if a ≤ b then x else y := zK _ _ _
theorem Z0 {α : Type} (a b : Int) (x y : α) : ifB (gtI a b) x y = if b < a then x else y := zK _ _ _
theorem yw {α : Type} (a b : Int) (x y : α) : ifB (geI a b) x y = if b ≤ a then x else y := zK _ _ _
theorem zw {α : Type} (a b : Int) (x y : α) : ifB (eqI a b) x y = if a = b then x else y := by
 rw [z3v]; simp only [eqI, beq_iff_eq]
theorem zA {α : Type} (a b : Int) (x y : α) : ifB (neI a b) x y = if a = b then y else x := by
 rw [z3v]; simp only [neI, bne_iff_ne, ne_eq, ite_not]
theorem zW {α : Type} (b : Bool) (x y : α) : ifB (notB b) x y = ifB b y x := by cases b <;> rfl
theorem Vx {α : Type} (a b : Bool) (x y : α) : ifB (ifB a b false) x y = ifB a (ifB b x y) y := by cases a <;> rfl
theorem Vy {α : Type} (a b : Bool) (x y : α) : ifB (eqB a b) x y = if a = b then x else y := by
 rw [z3v]; simp only [eqB, beq_iff_eq]
theorem Vz {α β : Type} (l : List β) (x y : α) : ifB (isE l) x y = if l = [] then x else y := by cases l <;> rfl
theorem Zy {α β : Type} (l : List β) (a : Int) (x y : α) : ifB (in1 l a) x y = if 0 ≤ a ∧ a ≤ l.length then x else y := by rw [in1, ← Bool.decide_and]; exact zK _ _ _
theorem VA {α β : Type} (l : List β) (a b : Int) (x y : α) : ifB (in2 l a b) x y = if 0 ≤ a ∧ a ≤ b ∧ b ≤ l.length then x else y := by rw [in2, ← Bool.decide_and, ← Bool.decide_and]; exact zK _ _ _
theorem vm {α : Type} (c : Nat) (a : Int) (x y : α) : ifB (in1N c a) x y = if 0 ≤ a ∧ a ≤ c then x else y := by rw [in1N, ← Bool.decide_and]; exact zK _ _ _
theorem vn {α : Type} (c : Nat) (a b : Int) (x y : α) : ifB (in2N c a b) x y = if 0 ≤ a ∧ a ≤ b ∧ b ≤ c then x else y := by rw [in2N, ← Bool.decide_and, ← Bool.decide_and]; exact zK _ _ _
theorem vo {α : Type} (n c : Nat) (a : Int) (x y : α) : ifB (in1C n c a) x y = if 0 ≤ a ∧ a ≤ (max n c : Nat) then x else y := by rw [in1C, ← Bool.decide_and]; exact zK _ _ _
theorem vp {α : Type} (n c : Nat) (a b : Int) (x y : α) : ifB (in2C n c a b) x y = if 0 ≤ a ∧ a ≤ b ∧ b ≤ (max n c : Nat) then x else y := by rw [in2C, ← Bool.decide_and, ← Bool.decide_and]; exact zK _ _ _
theorem vB {α β : Type} (l : List β) (o n : Nat) (x y : α) : ifB (inN l o n) x y = if o + n ≤ l.length then x else y := zK _ _ _
theorem Y0 {α β : Type} (n : Int) (l : List β) (x y : α) : ifB (ltL n l) x y = if 0 ≤ n ∧ n < l.length then x else y := by rw [ltL, ← Bool.decide_and]; exact zK _ _ _
theorem VB {α : Type} (n : Int) (c : Nat) (x y : α) : ifB (ltN n c) x y = if 0 ≤ n ∧ n < c then x else y := by rw [ltN, ← Bool.decide_and]; exact zK _ _ _
theorem zR {α β : Type} (n : Nat) (a b : List β) (x y : α) : ifB (zB n a b) x y = if (a.length + b.length + (a.length + b.length) / 4 + 192) * n ≤ 281474976710656 ∧ a.length + b.length ≤ 9223372036854775807 then x else y := by rw [zB, ← Bool.decide_and]; exact zK _ _ _
theorem Ye {α : Type} (b : Nat) (n : Int) (x y : α) : ifB (z0r b n) x y = if 0 ≤ n ∧ n * b ≤ 140737488355328 ∧ n ≤ 9223372036854775807 then x else y := by rw [z0r, ← Bool.decide_and, ← Bool.decide_and]; exact zK _ _ _
theorem yI {α : Type} (b : Nat) (n : Int) (x y : α) : ifB (jj b n) x y = if 1 ≤ n ∧ n * b ≤ 140737488355328 ∧ n ≤ 9223372036854775807 then x else y := by rw [jj, ← Bool.decide_and, ← Bool.decide_and]; exact zK _ _ _
theorem ZS {α : Type} (a b : List UInt8) (x y : α) : ifB (Ys a b) x y = if (a.length : Int) + b.length ≤ 9223372036854775807 then x else y := zK _ _ _
theorem yx {α : Type} (a b : List UInt8) (x y : α) : ifB (eqS a b) x y = if a = b then x else y := by
 rw [z3v]; simp only [eqS, beq_iff_eq]
theorem VC {α : Type} (a b : List Int) (x y : α) : ifB (eqL a b) x y = if a = b then x else y := zK _ _ _
theorem vq {α β : Type} (n : Nat) (l : List β) (c : Nat) (x y : α) : ifB (fits n l c) x y = if l = [] ∨ n + l.length ≤ c then x else y := by
 cases l with
 | nil => simp [ifB, fits]
 | cons a l => rw [fits]; simp only [List.isEmpty_cons, Bool.false_or, zK, reduceCtorEq, false_or]
theorem z7 {α β : Type} (a : α) (f : α → Option β) : z6 (some a) f = f a := rfl
theorem yQ {α β : Type} (f : α → Option β) : z6 none f = none := rfl
theorem Yf {α β : Type} (a : α) (f : α → β) : mapO f (some a) = some (f a) := rfl
theorem Yg {α β : Type} (f : α → β) : mapO f none = none := rfl
theorem z9G {α : Type} (a : Option α) : ambO a a = a := by simp [ambO]
theorem zf {α : Type} (l : List α) : lenI l = (l.length : Int) := rfl
theorem VD {α : Type} (l : List α) : lenN l = l.length := rfl
theorem ZG {α : Type} (a b : List α) : cat a b = a ++ b := rfl
theorem ZI {α : Type} (a : List α) (b : Int) : Yt a b = a.take b.toNat := rfl
theorem Yh {α : Type} (a : List α) (b : Int) : ji a b = a.drop b.toNat := rfl
theorem VE {α : Type} (l : List α) (a b : Int) : sliI l a b = (l.take b.toNat).drop a.toNat := rfl
theorem VF {α : Type} (l : List α) (n : Nat) (a : α) : setN l n a = l.set n a := rfl
theorem vC (a : Int) : natI a = a.toNat := rfl
theorem VG (a : Nat) : intN a = (a : Int) := rfl
theorem ZT {α : Type} [Inhabited α] {l : List α} {j : Nat} (h : j < l.length) : atI l (j : Int) = some (l.getD j default) := by
 rw [atI, if_pos (by omega), Int.toNat_natCast, List.getElem?_eq_getElem h]; simp [List.getD, List.getElem?_eq_getElem h]
theorem z2k {α : Type} [Inhabited α] {l : List α} {j : Nat} (h : j < l.length) : atN l j = some (l.getD j default) := by
 rw [atN, List.getElem?_eq_getElem h]; simp [List.getD, List.getElem?_eq_getElem h]
theorem yy {a b : Int} (h : -9223372036854775808 ≤ a + b ∧ a + b ≤ 9223372036854775807) : wadd .i64 a b = a + b := zb5 h.1 h.2
theorem y9 {a b : Int} (h : -9223372036854775808 ≤ a - b ∧ a - b ≤ 9223372036854775807) : wsub .i64 a b = a - b := zb5 h.1 h.2
theorem ZB {j : Nat} (h : (j : Int) < 4611686018427387904) : wadd .i64 (j : Int) 1 = ((j + 1 : Nat) : Int) := by rw [yy ⟨by omega, by omega⟩]; rfl
/-! ### Loops -/
def yb {α β : Type} (o : Option (Sum β α)) (k : β → Option α) : Option α :=
 match o with
 | none => none
 | some (.inl y) => k y
 | some (.inr a) => some a
theorem yc {α β : Type} (k : β → Option α) : yb none k = none := rfl
theorem zG {α β : Type} (y : β) (k : β → Option α) : yb (some (.inl y)) k = k y := rfl
theorem yd {α β : Type} (a : α) (k : β → Option α) : yb (some (.inr a)) k = some a := rfl
theorem zm {α β : Type} (o : Option α) (k : β → Option α) : yb (mapO Sum.inr o) k = o := by cases o <;> rfl
theorem vr {α β : Type} (p : Prop) [Decidable p] (x y : Option (Sum β α)) (k : β → Option α) : yb (if p then x else y) k = if p then yb x k else yb y k := by split <;> rfl
theorem ze {α β : Type} (b : Bool) (x y : Option (Sum β α)) (k : β → Option α) : yb (ifB b x y) k = ifB b (yb x k) (yb y k) := by cases b <;> rfl
theorem Zt {α β γ : Type} (o : Option γ) (f : γ → Option (Sum β α)) (k : β → Option α) : yb (z6 o f) k = z6 o fun y => yb (f y) k := by cases o <;> rfl
theorem jQ {α β : Type} {f : β → Option (Sum β α)} (G : β → Option α) (P : β → Prop) (μ : β → Nat)
  (h : ∀ x, P x → ∀ k : β → Option α, (∀ y, P y → μ y < μ x → k y = G y) → yb (f x) k = G x) : ∀ (n : Nat) (x : β), P x → μ x < n → zi n f x = G x
 | 0, x, _, hm => absurd hm (Nat.not_lt_zero _)
 | n + 1, x, hp, hm => by
  rw [jk, ← h x hp (zi n f) (fun y hy hl => jQ G P μ h n y hy (by omega))]
  cases f x with
  | none => rfl
  | some s => cases s <;> rfl
theorem Z9 {α β γ σ : Type} [Inhabited γ] (l : List γ) (enc : Nat → σ → β) {f : β → Option (Sum β α)} (G : List γ → σ → Option α) (P : Nat → σ → Prop)
  (hs : ∀ (j : Nat) (s : σ), j < l.length → P j s → ∀ k : β → Option α, (∀ s', P (j + 1) s' → k (enc (j + 1) s') = G (l.drop (j + 1)) s') → yb (f (enc j s)) k = G (l.getD j default :: l.drop (j + 1)) s)
  (he : ∀ s, P l.length s → ∀ k : β → Option α, yb (f (enc l.length s)) k = G [] s) {s0 : σ} (h0 : P 0 s0) (hl : l.length < 9223372036854775808) : zi maxR f (enc 0 s0) = G l s0 := by
 have key : ∀ (d j : Nat) (s : σ) (n : Nat), j + d = l.length → P j s → d < n → zi n f (enc j s) = G (l.drop j) s := by
  intro d
  induction d with
  | zero =>
   intro j s n hj hp hn
   obtain ⟨n, rfl⟩ : ∃ m, n = m + 1 := ⟨n - 1, by omega⟩
   have hj' : j = l.length := by omega
   subst hj'
   rw [List.drop_length, ← he s hp (zi n f), jk]
   cases f (enc l.length s) with
   | none => rfl
   | some q => cases q <;> rfl
  | succ d ih =>
   intro j s n hj hp hn
   obtain ⟨n, rfl⟩ : ∃ m, n = m + 1 := ⟨n - 1, by omega⟩
   have hlt : j < l.length := by omega
   have hd : l.drop j = l.getD j default :: l.drop (j + 1) := by rw [List.drop_eq_getElem_cons hlt]; simp [List.getD, List.getElem?_eq_getElem hlt]
   rw [hd, ← hs j s hlt hp (zi n f) (fun s' hp' => ih (j + 1) s' n (by omega) hp' (by omega)), jk]
   cases f (enc j s) with
   | none => rfl
   | some q => cases q <;> rfl
 have := key l.length 0 s0 maxR (by omega) h0 (by unfold maxR; omega)
 simpa using this
end Go.Kx
namespace Go.Kx
end Go.Kx
namespace Go.Kx
end Go.Kx
namespace Go.Kx
open Go.Rb
def sp (c : UInt8) : List UInt8 → List (List UInt8)
 | [] => [[]]
 | b :: l => if b = c then [] :: sp c l else match sp c l with
  | [] => [[b]]
  | w :: r => (b :: w) :: r
def jn (c : UInt8) : List (List UInt8) → List UInt8
 | [] => []
 | w :: r => w ++ (r.map (c :: ·)).flatten
theorem Yz (c : UInt8) : ∀ l, sp c l ≠ []
 | [] => by simp [sp]
 | b :: l => by
  unfold sp
  split
  ·simp
  ·split <;> simp
theorem vD (c : UInt8) (w : List UInt8) {r : List (List UInt8)} (h : r ≠ []) : jn c (w :: r) = w ++ c :: jn c r := by
 cases r with
 | nil => exact absurd rfl h
 | cons x r => simp [jn]
theorem Jy (c : UInt8) : ∀ l, jn c (sp c l) = l
 | [] => rfl
 | b :: l => by
  have ih := Jy c l
  have hn := Yz c l
  unfold sp
  split
  ·rename_i h; subst h
   rw [vD _ _ hn, ih]; rfl
  ·split
   ·rename_i h1 h2; exact absurd h2 hn
   ·rename_i w r h2; rw [h2] at ih; simp only [jn] at ih ⊢; rw [List.cons_append, ih]
theorem z4h (c : UInt8) : ∀ w : List UInt8, (∀ x ∈ w, x ≠ c) → sp c w = [w]
 | [], _ => rfl
 | b :: l, h => by
  unfold sp
  rw [if_neg (h b (by simp)), z4h c l fun x hx => h x (by simp [hx])]
theorem jR (c : UInt8) : ∀ (w l : List UInt8), (∀ x ∈ w, x ≠ c) → sp c (w ++ c :: l) = w :: sp c l
 | [], l, _ => by simp [sp]
 | b :: w, l, h => by
  have ih := jR c w l fun x hx => h x (by simp [hx])
  show sp c (b :: (w ++ c :: l)) = _
  rw [sp, if_neg (h b (by simp)), ih]
theorem zb6 (c : UInt8) : ∀ ws : List (List UInt8), ws ≠ [] → (∀ w ∈ ws, ∀ x ∈ w, x ≠ c) → sp c (jn c ws) = ws
 | [], h, _ => absurd rfl h
 | [w], _, h => by simp only [jn, List.map_nil, List.flatten_nil, List.append_nil]; exact z4h c w (h w (by simp))
 | w :: v :: r, _, h => by
  rw [vD _ _ (by simp), jR c w _ (h w (by simp)), zb6 c (v :: r) (by simp) fun w hw => h w (by simp [hw])]
theorem z0G (c : UInt8) : ∀ l, ∀ w ∈ sp c l, ∀ x ∈ w, x ≠ c
 | [], w, hw, x, hx => by simp [sp] at hw; subst hw; cases hx
 | b :: l, w, hw, x, hx => by
  have ih := z0G c l
  have hn := Yz c l
  unfold sp at hw
  split at hw
  ·rcases List.mem_cons.1 hw with rfl | hw
   ·cases hx
   ·exact ih w hw x hx
  ·rename_i hb
   split at hw
   ·rename_i h2; exact absurd h2 hn
   ·rename_i v r h2
    rw [h2] at ih
    rcases List.mem_cons.1 hw with rfl | hw
    ·rcases List.mem_cons.1 hx with rfl | hx
     ·exact hb
     ·exact ih v (by simp) x hx
    ·exact ih w (by simp [hw]) x hx
theorem z3w (c : UInt8) : ∀ l, (sp c l).length ≤ l.length + 1
 | [] => by simp [sp]
 | b :: l => by
  have ih := z3w c l
  have hn := Yz c l
  unfold sp
  split
  ·simp; omega
  ·split
   ·rename_i h2; exact absurd h2 hn
   ·rename_i w r h2; rw [h2] at ih; simp at ih ⊢; omega
/-! ### Go's split -/
theorem VH {c : UInt8} {l : List UInt8} (h : ∀ x ∈ l, x ≠ c) : Lib.index l [c] = -1 := by
 induction l with
 | nil => rfl
 | cons b l ih =>
  have ih := ih fun x hx => h x (by simp [hx])
  have hb := h b (by simp)
  have : [c].isPrefixOf (b :: l) = false := by simp [List.isPrefixOf]; exact fun e => hb e.symm
  unfold Lib.index
  rw [this, ih]; rfl
theorem VZ {c : UInt8} {w l : List UInt8} (h : ∀ x ∈ w, x ≠ c) : Lib.index (w ++ c :: l) [c] = w.length := by
 induction w with
 | nil => unfold Lib.index; simp [List.isPrefixOf]
 | cons b w ih =>
  have ih := ih fun x hx => h x (by simp [hx])
  have hb := h b (by simp)
  have : [c].isPrefixOf (b :: (w ++ c :: l)) = false := by simp [List.isPrefixOf]; exact fun e => hb e.symm
  rw [List.cons_append]
  unfold Lib.index
  rw [this, ih]
  have e : (((w.length : Nat) : Int) == -1) = false := by rw [beq_eq_false_iff_ne]; omega
  simp [e]
theorem z7r (c : UInt8) : ∀ (l : List UInt8), Lib.split l [c] = sp c l := by
 have key : ∀ (ws : List (List UInt8)), ws ≠ [] → (∀ w ∈ ws, ∀ x ∈ w, x ≠ c) → Lib.split (jn c ws) [c] = ws := by
  intro ws
  induction ws with
  | nil => intro h; exact absurd rfl h
  | cons w r ih =>
   intro _ h
   by_cases hr : r = []
   ·subst hr
    simp only [jn, List.map_nil, List.flatten_nil, List.append_nil]
    unfold Lib.split
    rw [Lib.count_miss (VH (h w (by simp)))]; rfl
   ·rw [vD _ _ hr]
    have hi : Lib.index (w ++ c :: jn c r) [c] = w.length := VZ (h w (by simp))
    have hd : (w ++ c :: jn c r).drop (w.length + [c].length) = jn c r := by
     rw [List.drop_append]; simp
    have hr2 := ih hr fun w hw => h w (by simp [hw])
    unfold Lib.split at hr2 ⊢
    rw [Lib.count_hit (by simp) hi, hd, Nat.add_comm 1, Lib.splitK, if_neg (by rw [hi]; intro e; have := beq_iff_eq.1 e; omega), hi]
    have e : ((w.length : Nat) : Int).toNat = w.length := by omega
    rw [e, hd, hr2]
    congr 1
    rw [List.take_append]; simp
 intro l
 have h := key (sp c l) (Yz c l) (z0G c l)
 rw [Jy] at h
 exact h
/-! ### Numerals -/
theorem z0H {n : Nat} (h : n < 10) : (UInt8.ofNat (48 + n)).toNat = 48 + n := by
 rw [UInt8.toNat_ofNat']; omega
theorem V2 (u : Nat) : ∀ b ∈ Lib.decDigits u, 48 ≤ b.toNat ∧ b.toNat ≤ 57 := by
 induction u using Nat.strongRecOn with
 | _ u ih =>
  intro b hb
  rw [Lib.decDigits] at hb
  split at hb
  ·rename_i h
   rw [List.mem_singleton] at hb; subst hb
   rw [z0H h]; omega
  ·rename_i h
   rcases List.mem_append.1 hb with hb | hb
   ·exact ih (u / 10) (by omega) b hb
   ·rw [List.mem_singleton] at hb; subst hb
    rw [z0H (by omega)]; omega
theorem z1t (u : Nat) : Lib.decDigits u ≠ [] := by
 rw [Lib.decDigits]; split <;> simp
theorem z4T (n : Int) : ∀ b ∈ Lib.itoa n, b.toNat = 45 ∨ (48 ≤ b.toNat ∧ b.toNat ≤ 57) := by
 intro b hb
 unfold Lib.itoa at hb
 split at hb
 ·rcases List.mem_cons.1 hb with rfl | hb
  ·exact .inl rfl
  ·exact .inr (V2 _ b hb)
 ·exact .inr (V2 _ b hb)
theorem z8Q (n : Int) : ∀ b ∈ Lib.itoa n, b ≠ 32 := by
 intro b hb e
 subst e
 rcases z4T n _ hb with h | h
 ·revert h; decide
 ·revert h; decide
theorem z4U : ∀ (l r : List UInt8) (a u : Nat), Lib.parseUint10 a l = .ok u → Lib.parseUint10 a (l ++ r) = Lib.parseUint10 u r
 | [], r, a, u, h => by simp only [Lib.parseUint10] at h; cases h; rfl
 | c :: l, r, a, u, h => by
  rw [List.cons_append]
  simp only [Lib.parseUint10] at h ⊢
  split at h
  ·rename_i h1
   rw [if_pos h1]
   split at h
   ·cases h
   ·rename_i h2
    rw [if_neg h2]
    split at h
    ·cases h
    ·rename_i h3
     rw [if_neg h3]
     exact z4U l r _ u h
  ·cases h
theorem z6m (u : Nat) (hu : u < 18446744073709551616) : Lib.parseUint10 0 (Lib.decDigits u) = .ok u := by
 induction u using Nat.strongRecOn with
 | _ u ih =>
  rw [Lib.decDigits]
  split
  ·rename_i h
   simp only [Lib.parseUint10, z0H h]
   rw [if_pos (by omega), if_neg (by omega), if_neg (by omega)]
   congr 1; omega
  ·rename_i h
   rw [z4U _ _ _ _ (ih (u / 10) (by omega) (by omega))]
   simp only [Lib.parseUint10, z0H (show u % 10 < 10 by omega)]
   rw [if_pos (by omega), if_neg (by omega), if_neg (by omega)]
   congr 1; omega
theorem Jz (u : Nat) (hu : u < 18446744073709551616) : Lib.parseMag (Lib.decDigits u) = .ok u := by
 unfold Lib.parseMag
 rw [if_neg (z1t u), z6m u hu]
theorem z9H (n : Int) (h0 : -9223372036854775808 ≤ n) (h1 : n ≤ 9223372036854775807) : Lib.atoiAll (Lib.itoa n) = .ok n := by
 unfold Lib.itoa
 split
 ·rename_i h
  rw [Lib.atoiAll_minus, Jz _ (by omega)]
  simp only [Lib.signed]
  rw [if_neg (by omega)]
  congr 1; omega
 ·rename_i h
  have hd := V2 n.toNat
  have hm := Jz n.toNat (by omega)
  have hne := z1t n.toNat
  cases hl : Lib.decDigits n.toNat with
  | nil => exact absurd hl hne
  | cons c r =>
   rw [hl] at hd hm
   have := hd c (by simp)
   rw [Lib.atoiAll_plain c r (by omega) (by omega), hm]
   simp only [Lib.signless]
   rw [if_neg (by omega)]
   congr 1; omega
end Go.Kx
namespace Go.Rb
open Go.Kx
def YO (x : Ent) : Prop := x.1 < 0 ∨ 4 ≤ x.1 ∨ x.2.1 < 0 ∨ 100000 < x.2.1 ∨ x.2.2 < -1000000 ∨ 1000000 < x.2.2
instance badEntDec (x : Ent) : Decidable (YO x) := inferInstanceAs (Decidable (_ ∨ _))
def entE : List Ent → Int
 | [] => 0
 | x :: l => if YO x then 3 else entE l
def zk (r : Rc) : Int :=
 if r.1 < 1 ∨ 4 < r.1 then 4 else
 if r.1 = 1 then (if ¬ r.2.1 = 0 ∨ ¬ r.2.2.1 = 0 then 4 else if 10 < r.2.2.2.length then 2 else entE r.2.2.2) else
 if 0 < r.2.2.2.length ∨ (r.1 = 4 ∧ ¬ r.2.1 = 0) then 4 else if r.2.1 < 0 ∨ 4 ≤ r.2.1 ∨ r.2.2.1 < 0 ∨ 100001 < r.2.2.1 then 3 else 0
theorem ZD {r : Rc} (h : zk r = 0) : 1 ≤ r.1 ∧ r.1 ≤ 4 ∧ (r.1 = 1 → r.2.1 = 0 ∧ r.2.2.1 = 0 ∧ r.2.2.2.length ≤ 10 ∧ entE r.2.2.2 = 0) ∧ (¬ r.1 = 1 → r.2.2.2 = [] ∧ 0 ≤ r.2.1 ∧ r.2.1 ≤ 3 ∧ 0 ≤ r.2.2.1 ∧ r.2.2.1 ≤ 100001 ∧ (r.1 = 4 → r.2.1 = 0)) := by
 unfold zk at h
 split at h
 ·cases h
 ·rename_i h1
  split at h
  ·rename_i h2
   split at h
   ·cases h
   ·rename_i h3
    split at h
    ·cases h
    ·rename_i h4
     exact ⟨by omega, by omega, fun _ => ⟨by omega, by omega, by omega, h⟩, fun h => absurd h2 h⟩
  ·rename_i h2
   split at h
   ·cases h
   ·rename_i h3
    split at h
    ·cases h
    ·rename_i h4
     refine ⟨by omega, by omega, fun h => absurd h h2, fun _ => ⟨List.eq_nil_of_length_eq_zero (by omega), by omega, by omega, by omega, by omega, fun h5 => ?_⟩⟩
     exact Classical.byContradiction fun h6 => h3 (.inr ⟨h5, h6⟩)
end Go.Rb
namespace Go.Kx
open Go.Rb
def kindW : List (List UInt8) := [[], [98, 97, 116, 99, 104], [115, 101, 97, 108], [109, 101, 114, 103, 101], [100, 114, 111, 112]]
def ixW : List (List UInt8) → List UInt8 → Int → Int
 | [], _, _ => -1
 | x :: r, w, i => if w = x then i else ixW r w (i + 1)
def nums : List (List UInt8) → Option (List Int)
 | [] => some []
 | x :: r => match Lib.atoiAll x with
  | .ok v => if Lib.itoa v = x then (nums r).map (v :: ·) else none
  | _ => none
def trip : List Int → List Ent
 | a :: b :: c :: r => (a, b, c) :: trip r
 | _ => []
def zZ : List Ent → List Int
 | [] => []
 | x :: r => x.1 :: x.2.1 :: x.2.2 :: zZ r
def ye (k : Int) (ns : List Int) : Option Rc :=
 if k = 1 then (if ns.length % 3 = 0 then some (1, 0, 0, trip ns) else none) else
 if k = 2 ∨ k = 3 then (match ns with | [a, b] => some (k, a, b, []) | _ => none) else
 if k = 4 then (match ns with | [a] => some (4, 0, a, []) | _ => none) else none
def ZL : Rc := (0, 0, 0, [])
def z1u (w : List UInt8) (xs : List (List UInt8)) : Rc × Int := match nums xs with
 | none => (ZL, 1)
 | some ns => match ye (ixW kindW w 0) ns with
  | none => (ZL, 1)
  | some r => if zk r = 0 then (r, 0) else (ZL, zk r)
def Z4 (s : List UInt8) : Rc × Int := if 60000 < s.length then (ZL, 2) else z1u ((sp 32 s).headD []) (sp 32 s).tail
def Zu (r : Rc) : List Int := if r.1 = 1 then zZ r.2.2.2 else if r.1 = 4 then [r.2.2.1] else [r.2.1, r.2.2.1]
def Z2 (r : Rc) : List UInt8 := jn 32 (kindW.getD r.1.toNat [] :: (Zu r).map Lib.itoa)
def jS (r : Rc) : List UInt8 × Int := if zk r = 0 then (Z2 r, 0) else ([], zk r)
theorem z4V : ∀ l : List Ent, trip (zZ l) = l
 | [] => rfl
 | x :: r => by rw [zZ, trip, z4V r]
theorem jT : ∀ l : List Ent, (zZ l).length = 3 * l.length
 | [] => rfl
 | x :: r => by rw [zZ]; simp [jT r]; omega
theorem z4W : ∀ (n : Nat) (l : List Int), l.length = 3 * n → zZ (trip l) = l
 | 0, l, h => by have := List.eq_nil_of_length_eq_zero (show l.length = 0 by omega); subst this; rfl
 | n + 1, l, h => by
  match l, h with
  | a :: b :: c :: r, h => rw [trip, zZ, z4W n r (by simp at h; omega)]
  | [], h => simp at h
  | [_], h => simp at h; omega
  | [_, _], h => simp at h; omega
theorem z4X : ∀ ns : List Int, (∀ n ∈ ns, z0F n) → nums (ns.map Lib.itoa) = some ns
 | [], _ => rfl
 | n :: r, h => by
  rw [List.map_cons, nums, z9H n (h n (by simp)).1 (h n (by simp)).2]
  simp only [if_pos]
  rw [z4X r fun m hm => h m (by simp [hm])]; rfl
theorem z4Y : ∀ (xs : List (List UInt8)) (ns : List Int), nums xs = some ns → xs = ns.map Lib.itoa ∧ ∀ n ∈ ns, z0F n
 | [], ns, h => by cases h; exact ⟨rfl, fun _ h => by cases h⟩
 | x :: r, ns, h => by
  rw [nums] at h
  rcases hx : Lib.atoiAll x with v | _ | _
  ·rw [hx] at h
   simp only at h
   split at h
   ·rename_i he
    cases hr : nums r with
    | none => rw [hr] at h; cases h
    | some ms =>
     rw [hr] at h; cases h
     obtain ⟨h1, h2⟩ := z4Y r ms hr
     refine ⟨by rw [List.map_cons, he, ← h1], fun n hn => ?_⟩
     rcases List.mem_cons.1 hn with rfl | hn
     ·exact Lib.atoiAll_bounds hx
     ·exact h2 n hn
   ·cases h
  ·rw [hx] at h; cases h
  ·rw [hx] at h; cases h
theorem zc4 {l : List Ent} (h : entE l = 0) : ∀ n ∈ zZ l, -1000000 ≤ n ∧ n ≤ 1000000 := by
 induction l with
 | nil => intro n hn; cases hn
 | cons x r ih =>
  rw [entE] at h
  split at h
  ·cases h
  ·rename_i hb
   unfold YO at hb
   intro n hn
   rw [zZ] at hn
   rcases List.mem_cons.1 hn with rfl | hn
   ·omega
   ·rcases List.mem_cons.1 hn with rfl | hn
    ·omega
    ·rcases List.mem_cons.1 hn with rfl | hn
     ·omega
     ·exact ih h n hn
theorem z2l {r : Rc} (h : zk r = 0) : (Zu r).length ≤ 30 ∧ ∀ n ∈ Zu r, -1000000 ≤ n ∧ n ≤ 1000000 := by
 obtain ⟨k1, k2, k3, k4⟩ := ZD h
 unfold Zu
 split
 ·rename_i h1
  obtain ⟨_, _, a3, a4⟩ := k3 h1
  exact ⟨by rw [jT]; omega, zc4 a4⟩
 ·rename_i h1
  obtain ⟨_, b1, b2, b3, b4, _⟩ := k4 h1
  split
  ·exact ⟨by simp, fun n hn => by simp at hn; omega⟩
  ·exact ⟨by simp, fun n hn => by simp at hn; omega⟩
theorem z8R {r : Rc} (h : zk r = 0) : ye r.1 (Zu r) = some r := by
 obtain ⟨k1, k2, k3, k4⟩ := ZD h
 obtain ⟨k, a, b, l⟩ := r
 simp only at k1 k2 k3 k4
 unfold ye Zu
 by_cases h1 : k = 1
 ·obtain ⟨rfl, rfl, a3, a4⟩ := k3 h1
  subst h1
  simp only [if_pos]
  rw [if_pos (by rw [jT]; omega), z4V]
 ·obtain ⟨rfl, b1, b2, b3, b4, b5⟩ := k4 h1
  rw [if_neg h1]
  by_cases h4 : k = 4
  ·subst h4
   have := b5 rfl
   subst this
   simp
  ·simp only [if_neg h1, if_neg h4]
   rw [if_pos (by omega)]
theorem z8S {k : Int} {ns : List Int} {r : Rc} (h : ye k ns = some r) : r.1 = k ∧ Zu r = ns ∧ 1 ≤ k ∧ k ≤ 4 := by
 unfold ye at h
 split at h
 ·rename_i h1
  subst h1
  split at h
  ·rename_i h2
   cases h
   refine ⟨rfl, ?_, by omega, by omega⟩
   unfold Zu
   simp only [if_pos]
   exact z4W (ns.length / 3) ns (by omega)
  ·cases h
 ·rename_i h1
  split at h
  ·rename_i h2
   split at h
   ·cases h
    refine ⟨rfl, ?_, by omega, by omega⟩
    unfold Zu
    simp only [if_neg h1]
    rw [if_neg (by omega)]
   ·cases h
  ·split at h
   ·rename_i h4
    subst h4
    split at h
    ·cases h
     exact ⟨rfl, rfl, by omega, by omega⟩
    ·cases h
   ·cases h
theorem JA {k : Int} (h1 : 1 ≤ k) (h2 : k ≤ 4) : ixW kindW (kindW.getD k.toNat []) 0 = k ∧ (∀ x ∈ kindW.getD k.toNat [], x ≠ 32) ∧ (kindW.getD k.toNat []).length ≤ 5 := by
 have : k = 1 ∨ k = 2 ∨ k = 3 ∨ k = 4 := by omega
 rcases this with rfl | rfl | rfl | rfl <;> decide
theorem zbB {w : List UInt8} {k : Int} (h : ixW kindW w 0 = k) (h1 : 1 ≤ k) (h2 : k ≤ 4) : kindW.getD k.toNat [] = w := by
 unfold kindW at h
 simp only [ixW] at h
 split at h
 ·omega
 ·split at h
  ·rename_i hw; subst hw; subst h; rfl
  ·split at h
   ·rename_i hw; subst hw; subst h; rfl
   ·split at h
    ·rename_i hw; subst hw; subst h; rfl
    ·split at h
     ·rename_i hw; subst hw; subst h; rfl
     ·omega
theorem zc5 (c : UInt8) (w : List UInt8) (xs : List (List UInt8)) (m : Nat) (h : ∀ x ∈ xs, x.length ≤ m) : (jn c (w :: xs)).length ≤ w.length + xs.length * (m + 1) := by
 simp only [jn, List.length_append]
 have : ((xs.map (c :: ·)).flatten).length ≤ xs.length * (m + 1) := by
  induction xs with
  | nil => simp
  | cons x r ih =>
   have := ih fun y hy => h y (by simp [hy])
   have hx := h x (by simp)
   simp only [List.map_cons, List.flatten_cons, List.length_append, List.length_cons, Nat.add_mul]
   omega
 omega
theorem JB {r : Rc} (h : zk r = 0) : (Z2 r).length ≤ 700 := by
 obtain ⟨k1, k2, _, _⟩ := ZD h
 obtain ⟨h1, h2⟩ := z2l h
 obtain ⟨_, _, h3⟩ := JA k1 k2
 have := zc5 32 (kindW.getD r.1.toNat []) ((Zu r).map Lib.itoa) 21 fun x hx => by
  obtain ⟨n, hn, rfl⟩ := List.mem_map.1 hx
  have := h2 n hn
  exact Lib.itoa_length_le n (by omega) (by omega)
 rw [List.length_map] at this
 unfold Z2
 omega
theorem z7s {r : Rc} (h : zk r = 0) : sp 32 (Z2 r) = kindW.getD r.1.toNat [] :: (Zu r).map Lib.itoa := by
 obtain ⟨k1, k2, _, _⟩ := ZD h
 unfold Z2
 refine zb6 32 _ (by simp) fun w hw x hx => ?_
 rcases List.mem_cons.1 hw with rfl | hw
 ·exact (JA k1 k2).2.1 x hx
 ·obtain ⟨n, _, rfl⟩ := List.mem_map.1 hw
  exact z8Q n x hx
theorem z7t {r : Rc} (h : zk r = 0) : Z4 (Z2 r) = (r, 0) := by
 obtain ⟨k1, k2, _, _⟩ := ZD h
 obtain ⟨_, h2⟩ := z2l h
 have hl := JB h
 unfold Z4 z1u
 rw [if_neg (by omega), z7s h]
 simp only [List.headD_cons, List.tail_cons]
 rw [z4X _ fun n hn => by have := h2 n hn; exact ⟨by omega, by omega⟩]
 simp only
 rw [(JA k1 k2).1, z8R h]
 simp only [if_pos h]
theorem z4Z {s : List UInt8} (h : (Z4 s).2 = 0) : zk (Z4 s).1 = 0 ∧ Z2 (Z4 s).1 = s := by
 unfold Z4 at h ⊢
 split at h
 ·cases h
 ·rename_i hl
  rw [if_neg hl]
  unfold z1u at h ⊢
  have hj := Jy 32 s
  have hn := Yz 32 s
  cases hs : sp 32 s with
  | nil => exact absurd hs hn
  | cons w xs =>
  rw [hs] at h hj
  simp only [List.headD_cons, List.tail_cons] at h ⊢
  cases hx : nums xs with
  | none => rw [hx] at h; cases h
  | some ns =>
   rw [hx] at h
   simp only at h ⊢
   cases hr : ye (ixW kindW w 0) ns with
   | none => rw [hr] at h; cases h
   | some r =>
    rw [hr] at h
    simp only at h ⊢
    split at h
    ·rename_i hc
     rw [if_pos hc]
     refine ⟨hc, ?_⟩
     obtain ⟨e1, e2, e3, e4⟩ := z8S hr
     unfold Z2
     rw [e1, e2, zbB rfl e3 e4, ← (z4Y xs ns hx).1]
     exact hj
    ·rename_i hc; exact absurd h hc
end Go.Kx
namespace Go.Kx
open Go.Rb
theorem z0c (c : UInt8) {s : List UInt8} (h : ∀ x ∈ s, x ≠ c) : sp c s = [s] := z4h c s h
theorem z0I (c : UInt8) : ∀ s : List UInt8, (∀ x ∈ s, x ≠ c) ∨ ∃ w l, s = w ++ c :: l ∧ (∀ x ∈ w, x ≠ c)
 | [] => .inl fun x hx => by cases hx
 | b :: s => by
  by_cases hb : b = c
  ·subst hb; exact .inr ⟨[], s, rfl, fun x hx => by cases hx⟩
  ·rcases z0I c s with h | ⟨w, l, rfl, h⟩
   ·exact .inl fun x hx => by rcases List.mem_cons.1 hx with rfl | hx; exact hb; exact h x hx
   ·exact .inr ⟨b :: w, l, rfl, fun x hx => by rcases List.mem_cons.1 hx with rfl | hx; exact hb; exact h x hx⟩
theorem z2V {c : UInt8} {s : List UInt8} (h : ∀ x ∈ s, x ≠ c) : Lib.cut s [c] = (s, [], false) := by
 unfold Lib.cut
 rw [VH h, if_neg (by omega)]
theorem z2W {c : UInt8} {w l : List UInt8} (h : ∀ x ∈ w, x ≠ c) : Lib.cut (w ++ c :: l) [c] = (w, l, true) := by
 unfold Lib.cut
 rw [VZ h, if_pos (by omega)]
 have e : ((w.length : Nat) : Int).toNat = w.length := by omega
 rw [e]
 simp [List.take_append, List.drop_append]
def lnW (most all : Int) : List (List UInt8) → List Rc → List Rc × Int × Int
 | [], acc => (acc, all, 0)
 | w :: r, acc => if r = [] then (if w = [] then (acc, all, 0) else (acc, all - w.length, 8)) else
  if (Z4 w).2 = 0 then (if (acc.length : Int) = most then (acc, all - (jn 10 (w :: r)).length, 2) else lnW most all r (acc ++ [(Z4 w).1])) else (acc, all - (jn 10 (w :: r)).length, (Z4 w).2)
def lnP (most : Int) (s : List UInt8) : List Rc × Int × Int := lnW most s.length (sp 10 s) []
theorem zb7 (most all : Int) : ∀ (ws : List (List UInt8)) (acc : List Rc), ((jn 10 ws).length : Int) ≤ all → 0 ≤ (lnW most all ws acc).2.1 ∧ (lnW most all ws acc).2.1 ≤ all
 | [], acc, h => by simp only [lnW]; simp [jn] at h; omega
 | w :: r, acc, h => by
  rw [lnW]
  by_cases hr : r = []
  ·subst hr
   rw [if_pos rfl]
   simp only [jn, List.map_nil, List.flatten_nil, List.append_nil] at h
   split
   ·simp only; omega
   ·simp only; omega
  ·rw [if_neg hr]
   have hj := vD 10 w hr
   have : (jn 10 r).length ≤ (jn 10 (w :: r)).length := by rw [hj]; simp; omega
   split
   ·split
    ·simp only; omega
    ·exact zb7 most all r _ (by omega)
   ·simp only; omega
theorem zb8 (most : Int) (s : List UInt8) : 0 ≤ (lnP most s).2.1 ∧ (lnP most s).2.1 ≤ s.length := by
 unfold lnP
 exact zb7 most _ _ _ (by rw [Jy]; omega)
theorem z8e (most all : Int) : ∀ (ws : List (List UInt8)) (acc : List Rc), (lnW most all ws acc).1.length ≤ acc.length + ws.length
 | [], acc => by simp [lnW]
 | w :: r, acc => by
  rw [lnW]
  split
  ·split <;> simp
  ·split
   ·split
    ·simp
    ·have := z8e most all r (acc ++ [(Z4 w).1])
     simp only [List.length_append, List.length_cons, List.length_nil] at this ⊢; omega
   ·simp
theorem z8f (most : Int) (s : List UInt8) : (lnP most s).1.length ≤ s.length + 1 := by
 have := z8e most s.length (sp 10 s) []
 have := z3w 10 s
 unfold lnP
 simp only [List.length_nil] at *
 omega
/-! ### Records as lines -/
def VQ (r : Rc) : List UInt8 := Z2 r ++ [10]
def Zm (rs : List Rc) : List UInt8 := (rs.map VQ).flatten
theorem z9I (n : Int) : ∀ b ∈ Lib.itoa n, b ≠ 10 := by
 intro b hb e
 subst e
 rcases z4T n _ hb with h | h
 ·revert h; decide
 ·revert h; decide
theorem z9J {k : Int} (h1 : 1 ≤ k) (h2 : k ≤ 4) : ∀ x ∈ kindW.getD k.toNat [], x ≠ 10 := by
 have : k = 1 ∨ k = 2 ∨ k = 3 ∨ k = 4 := by omega
 rcases this with rfl | rfl | rfl | rfl <;> decide
theorem z8T {r : Rc} (h : zk r = 0) : ∀ x ∈ Z2 r, x ≠ 10 := by
 obtain ⟨k1, k2, _, _⟩ := ZD h
 intro x hx
 unfold Z2 at hx
 simp only [jn] at hx
 rcases List.mem_append.1 hx with hx | hx
 ·exact z9J k1 k2 x hx
 ·rw [List.mem_flatten] at hx
  obtain ⟨l, hl, hx⟩ := hx
  rw [List.map_map, List.mem_map] at hl
  obtain ⟨n, _, rfl⟩ := hl
  rcases List.mem_cons.1 hx with rfl | hx
  ·decide
  ·exact z9I n x hx
theorem z3x (r : Rc) (rs : List Rc) (t : List UInt8) : Zm (r :: rs) ++ t = Z2 r ++ 10 :: (Zm rs ++ t) := by
 simp [Zm, VQ]
theorem z9K (a b : List Rc) : Zm (a ++ b) = Zm a ++ Zm b := by simp [Zm]
theorem z6n (most all : Int) : ∀ (rs : List Rc) (t : List UInt8) (acc : List Rc), (∀ r ∈ rs, zk r = 0) → ((acc.length + rs.length : Nat) : Int) ≤ most → lnW most all (sp 10 (Zm rs ++ t)) acc = lnW most all (sp 10 t) (acc ++ rs)
 | [], t, acc, _, _ => by simp [Zm]
 | r :: rs, t, acc, h, hl => by
  have hr := h r (by simp)
  simp only [List.length_cons] at hl
  rw [z3x, jR 10 _ _ (z8T hr), lnW, if_neg (Yz 10 _), z7t hr, if_pos rfl, if_neg (by omega), z6n most all rs t (acc ++ [r]) (fun q hq => h q (by simp [hq])) (by simp; omega)]
  simp
theorem z6o {most : Int} {rs : List Rc} {t : List UInt8} (h : ∀ r ∈ rs, zk r = 0) (hl : (rs.length : Int) ≤ most) (ht : ∀ x ∈ t, x ≠ 10) : lnP most (Zm rs ++ t) = (rs, ((Zm rs).length : Int), if t = [] then 0 else 8) := by
 unfold lnP
 rw [z6n most _ rs t [] h (by simpa using hl), z0c 10 ht, lnW, if_pos rfl, List.nil_append, List.length_append]
 by_cases e : t = []
 ·subst e; simp
 ·rw [if_neg e, if_neg e]; simp only [Prod.mk.injEq, true_and, and_true]; omega
theorem z9L {most : Int} {rs : List Rc} (h : ∀ r ∈ rs, zk r = 0) (hl : (rs.length : Int) ≤ most) : lnP most (Zm rs) = (rs, ((Zm rs).length : Int), 0) := by
 have := z6o (t := []) h hl (by simp)
 simpa using this
/-! ### Disks -/
def zE (d : List UInt8 × List UInt8) : Int := if 60000 < d.1.length then 2 else if 60000 - d.1.length < d.2.length then 2 else (lnP 60 d.1).2.2
def dPut (d : List UInt8 × List UInt8) (r : Rc) : (List UInt8 × List UInt8) × Int :=
 if zE d = 0 then (if zk r = 0 then (if 60000 - (d.1.length : Int) - d.2.length < (Z2 r).length + 1 then (([], []), 2) else ((d.1, d.2 ++ VQ r), 0)) else (([], []), zk r)) else (([], []), zE d)
def YA (d : List UInt8 × List UInt8) : (List UInt8 × List UInt8) × Int :=
 if zE d = 0 then (if zE (d.1 ++ d.2, []) = 0 then ((d.1 ++ d.2, []), 0) else (([], []), zE (d.1 ++ d.2, []))) else (([], []), zE d)
def jU (d : List UInt8 × List UInt8) (n : Int) : (List UInt8 × List UInt8) × Int :=
 if zE d = 0 then (if n < 0 ∨ (d.2.length : Int) < n then (([], []), 3) else ((d.1, d.2.take n.toNat), 0)) else (([], []), zE d)
def vk (d : List UInt8 × List UInt8) : List Rc × Int × Int := lnP (60 - ((lnP 60 d.1).1.length : Int)) d.2
def zF (d : List UInt8 × List UInt8) : (List UInt8 × List UInt8) × List Rc × Int :=
 if zE d = 0 then ((d.1 ++ d.2.take (vk d).2.1.toNat, []), (lnP 60 d.1).1 ++ (vk d).1, 0) else (([], []), [], zE d)
theorem yg {d : List UInt8 × List UInt8} (h : zE d = 0) : d.1.length + d.2.length ≤ 60000 := by
 unfold zE at h
 split at h
 ·cases h
 ·split at h
  ·cases h
  ·omega
end Go.Kx
namespace Go.Kx
open Go.Rb
theorem z9M {α : Type} (b : Nat) (a : List α) (h : (a.length + a.length / 4 + 192) * b ≤ 281474976710656) (h2 : a.length ≤ 9223372036854775807) :
  ifB (isE a) (ambO (some []) (ifB (zB b [] a) (some (cat [] a)) none)) (ifB (zB b [] a) (some (cat [] a)) none) = some a := by
 simp only [yc, zG, yd, zm, vr, Zt, Zs, vj, vl, zt, vA, Z0, yw, zw, zA, zW, Vx, Vy, Vz, Zy, VA, vm, vn, vo, vp, vB, Y0, VB, zR, Ye, yI, ZS, yx, VC, vq, z7, yQ, Yf, Yg, zf, VD, ZG, ZI, Yh, VE, VF, vC, VG, List.length_nil, Nat.zero_add, List.nil_append]
 rw [if_pos (⟨h, h2⟩ : (a.length + a.length / 4 + 192) * b ≤ 281474976710656 ∧ a.length ≤ 9223372036854775807)]
 split
 ·rename_i h0; subst h0; exact z9G _
 ·rfl
theorem zay {α : Type} [Inhabited α] {a b : List α} (h : a.length = b.length) (hg : ∀ j, j < a.length → a.getD j default = b.getD j default) : a = b := by
 apply List.ext_getElem h
 intro i h1 h2
 have := hg i h1
 simpa [List.getD, List.getElem?_eq_getElem h1, List.getElem?_eq_getElem h2] using this
theorem z50 {α : Type} [Inhabited α] [DecidableEq α] (eqv : α → α → Bool) (he : ∀ x y, eqv x y = decide (x = y)) (a b : List α) (hl : a.length < 4611686018427387904) :
  ifB (neI (lenI a) (lenI b)) (some false) (zi maxR (fun (x : Int) => ifB (ltI x (lenI a)) (z6 (atI a x) fun (y : α) => z6 (atI b x) fun (y_1 : α) => ifB (notB (eqv y y_1)) (mapO Sum.inr (some false)) (some (Sum.inl (wadd IntKind.i64 x 1)))) (mapO Sum.inr (some true))) 0) = some (decide (a = b)) := by
 rw [zA]
 by_cases hab : (a.length : Int) = b.length
 ·rw [zf, zf, if_pos hab]
  have hn : a.length = b.length := by omega
  refine jQ (G := fun _ => some (decide (a = b))) (P := fun (i : Int) => 0 ≤ i ∧ i ≤ a.length ∧ ∀ j : Nat, (j : Int) < i → a.getD j default = b.getD j default) (μ := fun (i : Int) => a.length - i.toNat) ?_ maxR 0 ⟨by omega, by omega, fun j hj => by omega⟩ (by unfold maxR; omega)
  rintro i ⟨h0, h1, h2⟩ k hk
  obtain ⟨j, rfl⟩ : ∃ j : Nat, i = j := ⟨i.toNat, by omega⟩
  simp only [yc, zG, yd, zm, vr, Zt, Zs, vj, vl, zt, vA, Z0, yw, zw, zA, zW, Vx, Vy, Vz, Zy, VA, vm, vn, vo, vp, vB, Y0, VB, zR, Ye, yI, ZS, yx, VC, vq, z7, yQ, Yf, Yg, zf, VD, ZG, ZI, Yh, VE, VF, vC, VG]
  by_cases hj : j < a.length
  ·rw [if_pos (by omega), ZT hj, ZT (by omega : j < b.length), z7, z7, he, ZB (by omega), ze, zG, yd]
   by_cases hq : a.getD j default = b.getD j default
   ·rw [hk _ ⟨by omega, by omega, fun j' hj' => ?_⟩ (by omega)]
    ·rw [zK, if_pos hq]
    ·by_cases h : j' = j
     ·subst h; exact hq
     ·exact h2 j' (by omega)
   ·have hne : a ≠ b := by rintro rfl; exact hq rfl
    rw [zK, if_neg hq]
    simp [hne]
  ·rw [if_neg (by omega)]
   have : a = b := zay hn fun j' hj' => h2 j' (by omega)
   simp [this]
 ·rw [zf, zf, if_neg hab]
  have : a ≠ b := by rintro rfl; exact hab rfl
  simp [this]
theorem z1v {α : Type} (a : List (List α)) {j : Nat} (h : j < a.length) : (a.take (j + 1)).flatten.length = (a.take j).flatten.length + (a.getD j default).length := by
 rw [z4S h]; simp
theorem JC {α : Type} (a : List (List α)) (j : Nat) : (a.take j).flatten.length ≤ a.flatten.length := by
 have h : a.flatten = (a.take j).flatten ++ (a.drop j).flatten := by rw [← List.flatten_append, List.take_append_drop]
 rw [h, List.length_append]; omega
theorem z2X {α : Type} (a : List (List α)) {j : Nat} (h : j < a.length) : (a.take (j + 1)).flatten = (a.take j).flatten ++ a.getD j default := by
 rw [z4S h]; simp
theorem z3y {α : Type} (bytes : Nat) (z : α) (a : List (List α)) (ha : a.length < 4611686018427387904) (hb : 1 ≤ bytes) (h : a.flatten.length * bytes ≤ 140737488355328) (hbb : bytes ≤ 1048576) :
  zi maxR (fun (x : Int × Int) => ifB (ltI (Prod.snd x) (lenI a)) (z6 (atI a (Prod.snd x)) fun (y : List α) => ifB (ltI (wadd IntKind.i64 (Prod.fst x) (lenI y)) 0) none (some (Sum.inl (wadd IntKind.i64 (Prod.fst x) (lenI y), wadd IntKind.i64 (Prod.snd x) 1))))
   (mapO Sum.inr (ifB (ltI (Prod.fst x) 0) none (ifB (gtI (wsub IntKind.i64 (Prod.fst x) (wsub IntKind.i64 0 0)) 0)
    (ifB (jj bytes (wsub IntKind.i64 (Prod.fst x) (wsub IntKind.i64 0 0))) (ifB (in1 (repI (wsub IntKind.i64 (Prod.fst x) (wsub IntKind.i64 0 0)) z) 0) (ifB (inN (repI (wsub IntKind.i64 (Prod.fst x) (wsub IntKind.i64 0 0)) z) 0 (natI 0))
     (zi maxR (fun (x : Int × List α) => ifB (ltI (Prod.fst x) (lenI a)) (z6 (atI a (Prod.fst x)) fun (y : List α) => ifB (zB bytes (Prod.snd x) y) (some (Sum.inl (wadd IntKind.i64 (Prod.fst x) 1, cat (Prod.snd x) y))) none) (mapO Sum.inr (some (Prod.snd x)))) (0, subN (repI (wsub IntKind.i64 (Prod.fst x) (wsub IntKind.i64 0 0)) z) 0 (natI 0)))
     none) none) none)
    (zi maxR (fun (x : Int × List α) => ifB (ltI (Prod.fst x) (lenI a)) (z6 (atI a (Prod.fst x)) fun (y : List α) => ifB (zB bytes (Prod.snd x) y) (some (Sum.inl (wadd IntKind.i64 (Prod.fst x) 1, cat (Prod.snd x) y))) none) (mapO Sum.inr (some (Prod.snd x)))) (0, [])))))) (0, 0) = some a.flatten := by
 have hfl : a.flatten.length ≤ 140737488355328 := by
  have : a.flatten.length * 1 ≤ a.flatten.length * bytes := Nat.mul_le_mul_left _ hb
  omega
 have second : zi maxR (fun (x : Int × List α) => ifB (ltI (Prod.fst x) (lenI a)) (z6 (atI a (Prod.fst x)) fun (y : List α) => ifB (zB bytes (Prod.snd x) y) (some (Sum.inl (wadd IntKind.i64 (Prod.fst x) 1, cat (Prod.snd x) y))) none) (mapO Sum.inr (some (Prod.snd x)))) (0, []) = some a.flatten := by
  refine Z9 a (fun j s => ((j : Int), s)) (G := fun _ _ => some a.flatten) (P := fun j s => s = (a.take j).flatten) ?_ ?_ (by simp) (by omega)
  ·rintro j s hj rfl k hk
   have h1 := z1v a hj
   have h2 := JC a (j + 1)
   simp only [yc, zG, yd, zm, vr, Zt, Zs, vj, vl, zt, vA, Z0, yw, zw, zA, zW, Vx, Vy, Vz, Zy, VA, vm, vn, vo, vp, vB, Y0, VB, zR, Ye, yI, ZS, yx, VC, vq, z7, yQ, Yf, Yg, zf, VD, ZG, ZI, Yh, VE, VF, vC, VG]
   rw [if_pos (by omega), ZT hj, z7, ZB (by omega), ← z2X a hj, hk _ rfl, if_pos]
   refine ⟨?_, by omega⟩
   have h3 : ((a.take j).flatten.length + (a.getD j default).length) * bytes ≤ 140737488355328 := Nat.le_trans (Nat.mul_le_mul_right _ (by omega)) h
   generalize (a.take j).flatten.length + (a.getD j default).length = m at *
   have h4 : m / 4 * bytes ≤ m * bytes := Nat.mul_le_mul_right _ (by omega)
   have h5 : m / 4 * bytes * 4 ≤ m * bytes := by rw [Nat.mul_right_comm]; exact Nat.mul_le_mul_right _ (by omega)
   rw [Nat.add_mul, Nat.add_mul]
   omega
  ·rintro s rfl k
   simp only [yc, zG, yd, zm, vr, Zt, Zs, vj, vl, zt, vA, Z0, yw, zw, zA, zW, Vx, Vy, Vz, Zy, VA, vm, vn, vo, vp, vB, Y0, VB, zR, Ye, yI, ZS, yx, VC, vq, z7, yQ, Yf, Yg, zf, VD, ZG, ZI, Yh, VE, VF, vC, VG]
   rw [if_neg (by omega), List.take_length]
 refine Z9 a (fun j s => (s, (j : Int))) (G := fun _ _ => some a.flatten) (P := fun j s => s = ((a.take j).flatten.length : Int)) ?_ ?_ (by simp) (by omega)
 ·rintro j s hj rfl k hk
  have h1 := z1v a hj
  have h2 := JC a (j + 1)
  simp only [yc, zG, yd, zm, vr, Zt, Zs, vj, vl, zt, vA, Z0, yw, zw, zA, zW, Vx, Vy, Vz, Zy, VA, vm, vn, vo, vp, vB, Y0, VB, zR, Ye, yI, ZS, yx, VC, vq, z7, yQ, Yf, Yg, zf, VD, ZG, ZI, Yh, VE, VF, vC, VG]
  rw [if_pos (by omega), ZT hj, z7, ZB (by omega), yy ⟨by omega, by omega⟩, if_neg (by omega)]
  exact hk _ (by omega)
 ·rintro s rfl k
  rw [List.take_length]
  have hw : wsub .i64 (a.flatten.length : Int) (wsub .i64 0 0) = (a.flatten.length : Int) := by
   rw [y9 (a := 0) (b := 0) ⟨by omega, by omega⟩, y9 ⟨by omega, by omega⟩]; omega
  have hz : subN (repI (a.flatten.length : Int) z) 0 (natI 0) = [] := by simp [subN, natI]
  show yb (ifB (ltI ((a.length : Nat) : Int) (lenI a)) _ (mapO Sum.inr (ifB (ltI (a.flatten.length : Int) 0) none (ifB (gtI (wsub .i64 (a.flatten.length : Int) (wsub .i64 0 0)) 0) _ _)))) k = _
  rw [ze, zm, zt, if_neg (show ¬ ((a.length : Nat) : Int) < lenI a by rw [zf]; omega), zt, if_neg (by omega)]
  show ifB (gtI (wsub .i64 (a.flatten.length : Int) (wsub .i64 0 0)) 0) (ifB (jj bytes (wsub .i64 (a.flatten.length : Int) (wsub .i64 0 0))) (ifB (in1 (repI (wsub .i64 (a.flatten.length : Int) (wsub .i64 0 0)) z) 0) (ifB (inN (repI (wsub .i64 (a.flatten.length : Int) (wsub .i64 0 0)) z) 0 (natI 0))
   (zi maxR _ (0, subN (repI (wsub .i64 (a.flatten.length : Int) (wsub .i64 0 0)) z) 0 (natI 0))) none) none) none) (zi maxR _ (0, [])) = _
  rw [hw, hz, second, Z0]
  split
  ·rw [yI, if_pos, Zy, if_pos ⟨by omega, by simp [repI]⟩, vB, if_pos (by simp [repI, natI])]
   refine ⟨by omega, ?_, by omega⟩
   rw [← Int.natCast_mul]; omega
  ·rfl
theorem z0J {α : Type} (a b : List α) : [a, b].flatten = a ++ b := by simp
end Go.Kx
namespace Go.Proofs.Y
open Go.Rb Go.Kx
theorem okT2 : OkTD Tryd.prog 2 ⟨.int .i64, 1, 8, some (.one (.int .i64))⟩ := ⟨⟨by kernel_rfl, by kernel_rfl, by kernel_rfl⟩, Tryd.underlying2, ⟨by kernel_rfl, by kernel_rfl⟩, trivial⟩
theorem okT3 : OkTD Tryd.prog 3 ⟨.int .i64, 1, 8, some (.one (.int .i64))⟩ := ⟨⟨by kernel_rfl, by kernel_rfl, by kernel_rfl⟩, Tryd.underlying3, ⟨by kernel_rfl, by kernel_rfl⟩, trivial⟩
theorem okT4 : OkTD Tryd.prog 4 ⟨.bool, 1, 1, some (.one .bool)⟩ := ⟨⟨by kernel_rfl, by kernel_rfl, by kernel_rfl⟩, Tryd.underlying4, ⟨by kernel_rfl, by kernel_rfl⟩, trivial⟩
theorem okT5 : OkTD Tryd.prog 5 ⟨.int .u8, 1, 1, some (.one (.int .u8))⟩ := ⟨⟨by kernel_rfl, by kernel_rfl, by kernel_rfl⟩, Tryd.underlying5, ⟨by kernel_rfl, by kernel_rfl⟩, trivial⟩
theorem okT9 : OkTD Tryd.prog 9 ⟨.str, 1, 16, some (.one .str)⟩ := ⟨⟨by kernel_rfl, by kernel_rfl, by kernel_rfl⟩, Tryd.underlying9, ⟨by kernel_rfl, by kernel_rfl⟩, trivial⟩
theorem zcl : OkTD Tryd.prog 22 ⟨.sl 56, 1, 24, some (.one (.sl 56 (.cons (.int .i64) (.cons (.int .i64) (.one (.int .i64))))))⟩ := ⟨⟨by kernel_rfl, by kernel_rfl, by kernel_rfl⟩, ⟨Tryd.underlying22, by kernel_rfl⟩, ⟨by kernel_rfl, by kernel_rfl⟩, trivial⟩
theorem zcm : OkTD Tryd.prog 24 ⟨.st [(0, 1), (1, 1), (2, 1), (3, 1)], 4, 48, some (.cons (.int .i64) (.cons (.int .i64) (.cons (.int .i64) (.one (.sl 56 (.cons (.int .i64) (.cons (.int .i64) (.one (.int .i64)))))))))⟩ := ⟨⟨by kernel_rfl, by kernel_rfl, by kernel_rfl⟩, ⟨_, Tryd.underlying24, by kernel_rfl, by kernel_rfl⟩, ⟨by kernel_rfl, by kernel_rfl⟩, fun h => absurd (by rfl) h⟩
theorem zcn : OkTD Tryd.prog 25 ⟨.int .i64, 1, 8, some (.one (.int .i64))⟩ := ⟨⟨by kernel_rfl, by kernel_rfl, by kernel_rfl⟩, Tryd.underlying25, ⟨by kernel_rfl, by kernel_rfl⟩, trivial⟩
theorem zco : OkTD Tryd.prog 34 ⟨.sl 24, 1, 24, some (.one (.sl 24 (.cons (.int .i64) (.cons (.int .i64) (.cons (.int .i64) (.one (.sl 56 (.cons (.int .i64) (.cons (.int .i64) (.one (.int .i64)))))))))))⟩ := ⟨⟨by kernel_rfl, by kernel_rfl, by kernel_rfl⟩, ⟨Tryd.underlying34, by kernel_rfl⟩, ⟨by kernel_rfl, by kernel_rfl⟩, trivial⟩
theorem zcp : OkTD Tryd.prog 35 ⟨.sl 5, 1, 24, some (.one (.sl 5 (.one (.int .u8))))⟩ := ⟨⟨by kernel_rfl, by kernel_rfl, by kernel_rfl⟩, ⟨Tryd.underlying35, by kernel_rfl⟩, ⟨by kernel_rfl, by kernel_rfl⟩, trivial⟩
theorem zcq : OkTD Tryd.prog 37 ⟨.st [(0, 1), (1, 1)], 2, 48, some (.cons (.sl 5 (.one (.int .u8))) (.one (.sl 5 (.one (.int .u8)))))⟩ := ⟨⟨by kernel_rfl, by kernel_rfl, by kernel_rfl⟩, ⟨_, Tryd.underlying37, by kernel_rfl, by kernel_rfl⟩, ⟨by kernel_rfl, by kernel_rfl⟩, fun h => absurd (by rfl) h⟩
theorem zcr : OkTD Tryd.prog 54 ⟨.sl 3, 1, 24, some (.one (.sl 3 (.one (.int .i64))))⟩ := ⟨⟨by kernel_rfl, by kernel_rfl, by kernel_rfl⟩, ⟨Tryd.underlying54, by kernel_rfl⟩, ⟨by kernel_rfl, by kernel_rfl⟩, trivial⟩
theorem zcs : OkTD Tryd.prog 56 ⟨.st [(0, 1), (1, 1), (2, 1)], 3, 24, some (.cons (.int .i64) (.cons (.int .i64) (.one (.int .i64))))⟩ := ⟨⟨by kernel_rfl, by kernel_rfl, by kernel_rfl⟩, ⟨_, Tryd.underlying56, by kernel_rfl, by kernel_rfl⟩, ⟨by kernel_rfl, by kernel_rfl⟩, fun _ => z2r (Tryd.underlying56) (by kernel_rfl) (by kernel_rfl) (by kernel_rfl) (by kernel_rfl)⟩
theorem zct : OkTD Tryd.prog 57 ⟨.sl 9, 1, 24, some (.one (.sl 9 (.one .str)))⟩ := ⟨⟨by kernel_rfl, by kernel_rfl, by kernel_rfl⟩, ⟨Tryd.underlying57, by kernel_rfl⟩, ⟨by kernel_rfl, by kernel_rfl⟩, trivial⟩
theorem zcu : OkTD Tryd.prog 65 ⟨.ifc, 1, 16, none⟩ := ⟨⟨by kernel_rfl, by kernel_rfl, by kernel_rfl⟩, ⟨_, Tryd.underlying65⟩, trivial, trivial⟩
theorem zcv : OkTD Tryd.prog 69 ⟨.mp, 1, 8, none⟩ := ⟨⟨by kernel_rfl, by kernel_rfl, by kernel_rfl⟩, zck Tryd.underlying69 Tryd.underlying3 (by kernel_rfl), trivial, trivial⟩
theorem zcw : OkTD Tryd.prog 80 ⟨.sl 34, 1, 24, some (.one (.sl 34 (.one (.sl 24 (.cons (.int .i64) (.cons (.int .i64) (.cons (.int .i64) (.one (.sl 56 (.cons (.int .i64) (.cons (.int .i64) (.one (.int .i64)))))))))))))⟩ := ⟨⟨by kernel_rfl, by kernel_rfl, by kernel_rfl⟩, ⟨Tryd.underlying80, by kernel_rfl⟩, ⟨by kernel_rfl, by kernel_rfl⟩, trivial⟩
theorem zcx : OkTD Tryd.prog 88 ⟨.st [(0, 1), (1, 1)], 2, 16, some (.cons (.int .i64) (.one (.int .i64)))⟩ := ⟨⟨by kernel_rfl, by kernel_rfl, by kernel_rfl⟩, ⟨_, Tryd.underlying88, by kernel_rfl, by kernel_rfl⟩, ⟨by kernel_rfl, by kernel_rfl⟩, fun _ => z2r (Tryd.underlying88) (by kernel_rfl) (by kernel_rfl) (by kernel_rfl) (by kernel_rfl)⟩
theorem zcy : OkTD Tryd.prog 94 ⟨.sl 35, 1, 24, some (.one (.sl 35 (.one (.sl 5 (.one (.int .u8))))))⟩ := ⟨⟨by kernel_rfl, by kernel_rfl, by kernel_rfl⟩, ⟨Tryd.underlying94, by kernel_rfl⟩, ⟨by kernel_rfl, by kernel_rfl⟩, trivial⟩
def tL : List (Nat × TD) := [(2, ⟨.int .i64, 1, 8, some (.one (.int .i64))⟩),
 (3, ⟨.int .i64, 1, 8, some (.one (.int .i64))⟩),
 (4, ⟨.bool, 1, 1, some (.one .bool)⟩),
 (5, ⟨.int .u8, 1, 1, some (.one (.int .u8))⟩),
 (9, ⟨.str, 1, 16, some (.one .str)⟩),
 (22, ⟨.sl 56, 1, 24, some (.one (.sl 56 (.cons (.int .i64) (.cons (.int .i64) (.one (.int .i64))))))⟩),
 (24, ⟨.st [(0, 1), (1, 1), (2, 1), (3, 1)], 4, 48, some (.cons (.int .i64) (.cons (.int .i64) (.cons (.int .i64) (.one (.sl 56 (.cons (.int .i64) (.cons (.int .i64) (.one (.int .i64)))))))))⟩),
 (25, ⟨.int .i64, 1, 8, some (.one (.int .i64))⟩),
 (34, ⟨.sl 24, 1, 24, some (.one (.sl 24 (.cons (.int .i64) (.cons (.int .i64) (.cons (.int .i64) (.one (.sl 56 (.cons (.int .i64) (.cons (.int .i64) (.one (.int .i64)))))))))))⟩),
 (35, ⟨.sl 5, 1, 24, some (.one (.sl 5 (.one (.int .u8))))⟩),
 (37, ⟨.st [(0, 1), (1, 1)], 2, 48, some (.cons (.sl 5 (.one (.int .u8))) (.one (.sl 5 (.one (.int .u8)))))⟩),
 (54, ⟨.sl 3, 1, 24, some (.one (.sl 3 (.one (.int .i64))))⟩),
 (56, ⟨.st [(0, 1), (1, 1), (2, 1)], 3, 24, some (.cons (.int .i64) (.cons (.int .i64) (.one (.int .i64))))⟩),
 (57, ⟨.sl 9, 1, 24, some (.one (.sl 9 (.one .str)))⟩),
 (65, ⟨.ifc, 1, 16, none⟩),
 (69, ⟨.mp, 1, 8, none⟩),
 (80, ⟨.sl 34, 1, 24, some (.one (.sl 34 (.one (.sl 24 (.cons (.int .i64) (.cons (.int .i64) (.cons (.int .i64) (.one (.sl 56 (.cons (.int .i64) (.cons (.int .i64) (.one (.int .i64)))))))))))))⟩),
 (88, ⟨.st [(0, 1), (1, 1)], 2, 16, some (.cons (.int .i64) (.one (.int .i64)))⟩),
 (94, ⟨.sl 35, 1, 24, some (.one (.sl 35 (.one (.sl 5 (.one (.int .u8))))))⟩)]
def T : TT := tabT tL
theorem tok : TOK Tryd.prog T := zc3 (L := tL) (List.forall_mem_cons.2 ⟨okT2, List.forall_mem_cons.2 ⟨okT3, List.forall_mem_cons.2 ⟨okT4, List.forall_mem_cons.2 ⟨okT5, List.forall_mem_cons.2 ⟨okT9, List.forall_mem_cons.2 ⟨zcl, List.forall_mem_cons.2 ⟨zcm, List.forall_mem_cons.2 ⟨zcn, List.forall_mem_cons.2 ⟨zco, List.forall_mem_cons.2 ⟨zcp, List.forall_mem_cons.2 ⟨zcq, List.forall_mem_cons.2 ⟨zcr, List.forall_mem_cons.2 ⟨zcs, List.forall_mem_cons.2 ⟨zct, List.forall_mem_cons.2 ⟨zcu, List.forall_mem_cons.2 ⟨zcv, List.forall_mem_cons.2 ⟨zcw, List.forall_mem_cons.2 ⟨zcx, List.forall_mem_cons.2 ⟨zcy, (by intro q h; cases h)⟩⟩⟩⟩⟩⟩⟩⟩⟩⟩⟩⟩⟩⟩⟩⟩⟩⟩⟩)
theorem fmo : Tryd.prog.follows .mixedOrders = true := by kernel_rfl
end Go.Proofs.Y
namespace Go.Proofs.Y
open Go.Rb Go.Kx
noncomputable def z1w : Code := zq Tryd.f12
noncomputable def z1x : FuncId → Option GS := tabG []
theorem z6p : ΓOK Tryd.prog z1x := zu
def z1y : HT := ⟨tabL [(9, .it [] (dyn [.t 31 (.int .i64)]))], tabH []⟩
abbrev j0 : List IT := [.v (.cons (.int .i64) (.cons (.int .i64) (.cons (.int .i64) (.one (.sl 56 (.cons (.int .i64) (.cons (.int .i64) (.one (.int .i64))))))))) true]
abbrev z0T : List OT := [⟨.one (.int .i64), false, []⟩]
set_option maxRecDepth 100000
noncomputable def zD : Int × Int × Int × List (Int × Int × Int) → Option Int := fun a => ifB (ltI a.1 1) (some 4) (ifB (gtI a.1 4) (some 4) (ifB (eqI a.1 1) (ifB (neI a.2.1 0) (some 4) (ifB (neI a.2.2.1 0) (some 4) (ifB (gtI (lenI a.2.2.2) 10) (some 2) (zi maxR (fun (x : Int) => ifB (ltI x (lenI a.2.2.2)) (z6 (atI a.2.2.2 x) fun y => ifB (ltI y.1 0) (mapO Sum.inr (some 3)) (ifB (geI y.1 4) (mapO Sum.inr (some 3)) (ifB (ltI y.2.1 0) (mapO Sum.inr (some 3)) (ifB (gtI y.2.1 100000) (mapO Sum.inr (some 3)) (ifB (ltI y.2.2 (-1000000)) (mapO Sum.inr (some 3)) (ifB (gtI y.2.2 1000000) (mapO Sum.inr (some 3)) (some (Sum.inl (wadd .i64 x 1))))))))) (mapO Sum.inr (some 0))) 0)))) (ifB (gtI (lenI a.2.2.2) 0) (some 4) (ifB (eqI a.1 4) (ifB (neI a.2.1 0) (some 4) (ifB (ltI a.2.1 0) (some 3) (ifB (geI a.2.1 4) (some 3) (ifB (ltI a.2.2.1 0) (some 3) (ifB (gtI a.2.2.1 100001) (some 3) (some 0)))))) (ifB (ltI a.2.1 0) (some 3) (ifB (geI a.2.1 4) (some 3) (ifB (ltI a.2.2.1 0) (some 3) (ifB (gtI a.2.2.1 100001) (some 3) (some 0)))))))))
theorem z3z (x : PI j0) : zD x = fnE T z1x z1y z1w (zO Tryd.f12) j0 z0T x := by kernel_rfl
noncomputable abbrev jV : GS := zI false j0 z0T fun x => zD x
theorem JD : GSOK Tryd.prog 12 jV := zC tok z6p fmo (Ht := z1y) (fn := Tryd.f12) (Tryd.func12) (c := z1w) (by kernel_rfl) (by kernel_rfl) (by kernel_rfl) (by decide +kernel) (by decide) z3z
end Go.Proofs.Y
namespace Go.Proofs.Y
open Go.Rb Go.Kx
noncomputable def z1z : Code := zq Tryd.f31
noncomputable def z1A : FuncId → Option GS := tabG []
theorem z6q : ΓOK Tryd.prog z1A := zu
def z1B : HT := ⟨tabL [], tabH []⟩
abbrev j5 : List IT := []
abbrev z0U : List OT := [⟨.one (.sl 9 (.one .str)), false, []⟩]
set_option maxRecDepth 100000
noncomputable def ZX : Option (List (List UInt8)) :=  some [[], [98, 97, 116, 99, 104], [115, 101, 97, 108], [109, 101, 114, 103, 101], [100, 114, 111, 112]]
theorem z3A (x : PI j5) : ZX  = fnE T z1A z1B z1z (zO Tryd.f31) j5 z0U x := by kernel_rfl
noncomputable abbrev jW : GS := zI false j5 z0U fun x => ZX 
theorem JE : GSOK Tryd.prog 31 jW := zC tok z6q fmo (Ht := z1B) (fn := Tryd.f31) (Tryd.func31) (c := z1z) (by kernel_rfl) (by kernel_rfl) (by kernel_rfl) (by decide +kernel) (by decide) z3A
end Go.Proofs.Y
namespace Go.Proofs.Y
open Go.Rb Go.Kx Go.Proofs
def atoi_ren : Go.Shelf.Ren := ⟨fun | 172 => 37 | 244 => 52 | 245 => 53 | 247 => 60 | 279 => 68 | 280 => 69 | 281 => 70 | 282 => 71 | 287 => 75 | 316 => 84 | 171 => 32 | 205 => 85 | 321 => 92 | 322 => 93 | 243 => 50 | 246 => 61 | 283 => 76 | 284 => 77 | 285 => 78 | 286 => 79 | 129 => 95 | 317 => 94 | 318 => 96 | 319 => 97 | 320 => 98 | 337 => 102 | 338 => 103 | n => n, fun | 9 => 9 | 3 => 3 | 75 => 65 | 76 => 66 | 4 => 4 | 5 => 5 | 167 => 99 | 37 => 35 | 0 => 0 | 85 => 73 | 2 => 2 | 168 => 100 | 53 => 104 | 175 => 105 | 46 => 107 | 210 => 119 | 127 => 103 | 145 => 135 | 143 => 133 | 21 => 21 | 171 => 108 | 173 => 111 | 212 => 128 | 51 => 129 | 20 => 20 | 213 => 130 | 232 => 143 | 233 => 144 | 80 => 93 | n => n, fun | 15 => 0 | 16 => 1 | 17 => 3 | 18 => 6 | 19 => 7 | n => n⟩
theorem z9N : Go.Proofs.LaysC.n172 Tryd.prog atoi_ren := {
 mixed := by kernel_rfl
 f129 := Tryd.func95.trans (congrArg some (by kernel_rfl))
 f171 := Tryd.func32.trans (congrArg some (by kernel_rfl))
 f172 := Tryd.func37.trans (congrArg some (by kernel_rfl))
 f205 := Tryd.func85.trans (congrArg some (by kernel_rfl))
 f243 := Tryd.func50.trans (congrArg some (by kernel_rfl))
 f244 := Tryd.func52.trans (congrArg some (by kernel_rfl))
 f245 := Tryd.func53.trans (congrArg some (by kernel_rfl))
 f246 := Tryd.func61.trans (congrArg some (by kernel_rfl))
 f247 := Tryd.func60.trans (congrArg some (by kernel_rfl))
 f279 := Tryd.func68.trans (congrArg some (by kernel_rfl))
 f280 := Tryd.func69.trans (congrArg some (by kernel_rfl))
 f281 := Tryd.func70.trans (congrArg some (by kernel_rfl))
 f282 := Tryd.func71.trans (congrArg some (by kernel_rfl))
 f283 := Tryd.func76.trans (congrArg some (by kernel_rfl))
 f284 := Tryd.func77.trans (congrArg some (by kernel_rfl))
 f285 := Tryd.func78.trans (congrArg some (by kernel_rfl))
 f286 := Tryd.func79.trans (congrArg some (by kernel_rfl))
 f287 := Tryd.func75.trans (congrArg some (by kernel_rfl))
 f316 := Tryd.func84.trans (congrArg some (by kernel_rfl))
 f317 := Tryd.func94.trans (congrArg some (by kernel_rfl))
 f318 := Tryd.func96.trans (congrArg some (by kernel_rfl))
 f319 := Tryd.func97.trans (congrArg some (by kernel_rfl))
 f320 := Tryd.func98.trans (congrArg some (by kernel_rfl))
 f321 := Tryd.func92.trans (congrArg some (by kernel_rfl))
 f322 := Tryd.func93.trans (congrArg some (by kernel_rfl))
 f337 := Tryd.func102.trans (congrArg some (by kernel_rfl))
 f338 := Tryd.func103.trans (congrArg some (by kernel_rfl))
 t0 := Tryd.underlying0
 a0 := Tryd.isAgg0
 z0 := Tryd.sizeOf0
 v0 := Tryd.zeroValue0
 t2 := Tryd.underlying2
 a2 := Tryd.isAgg2
 z2 := Tryd.sizeOf2
 v2 := Tryd.zeroValue2
 t3 := Tryd.underlying3
 a3 := Tryd.isAgg3
 z3 := Tryd.sizeOf3
 v3 := Tryd.zeroValue3
 t4 := Tryd.underlying4
 a4 := Tryd.isAgg4
 z4 := Tryd.sizeOf4
 v4 := Tryd.zeroValue4
 t5 := Tryd.underlying5
 a5 := Tryd.isAgg5
 z5 := Tryd.sizeOf5
 v5 := Tryd.zeroValue5
 t9 := Tryd.underlying9
 a9 := Tryd.isAgg9
 z9 := Tryd.sizeOf9
 v9 := Tryd.zeroValue9
 t20 := Tryd.underlying20
 a20 := Tryd.isAgg20
 z20 := Tryd.sizeOf20
 v20 := Tryd.zeroValue20
 t21 := Tryd.underlying21
 a21 := Tryd.isAgg21
 z21 := Tryd.sizeOf21
 v21 := Tryd.zeroValue21
 t37 := Tryd.underlying35
 a37 := Tryd.isAgg35
 z37 := Tryd.sizeOf35
 v37 := Tryd.zeroValue35
 t46 := Tryd.underlying107
 a46 := Tryd.isAgg107
 z46 := Tryd.sizeOf107
 v46 := Tryd.zeroValue107
 t51 := Tryd.underlying129
 a51 := Tryd.isAgg129
 z51 := Tryd.sizeOf129
 v51 := Tryd.zeroValue129
 t53 := Tryd.underlying104
 a53 := Tryd.isAgg104
 z53 := Tryd.sizeOf104
 v53 := Tryd.zeroValue104
 t75 := Tryd.underlying65
 a75 := Tryd.isAgg65
 z75 := Tryd.sizeOf65
 v75 := Tryd.zeroValue65
 t76 := Tryd.underlying66
 a76 := Tryd.isAgg66
 z76 := Tryd.sizeOf66
 v76 := Tryd.zeroValue66
 t85 := Tryd.underlying73
 a85 := Tryd.isAgg73
 z85 := Tryd.sizeOf73
 v85 := Tryd.zeroValue73
 t127 := Tryd.underlying103
 a127 := Tryd.isAgg103
 z127 := Tryd.sizeOf103
 v127 := Tryd.zeroValue103
 t143 := Tryd.underlying133
 a143 := Tryd.isAgg133
 z143 := Tryd.sizeOf133
 v143 := Tryd.zeroValue133
 t145 := Tryd.underlying135
 a145 := Tryd.isAgg135
 z145 := Tryd.sizeOf135
 v145 := Tryd.zeroValue135
 t167 := Tryd.underlying99
 a167 := Tryd.isAgg99
 z167 := Tryd.sizeOf99
 v167 := Tryd.zeroValue99
 t168 := Tryd.underlying100
 a168 := Tryd.isAgg100
 z168 := Tryd.sizeOf100
 v168 := Tryd.zeroValue100
 t171 := Tryd.underlying108
 a171 := Tryd.isAgg108
 z171 := Tryd.sizeOf108
 v171 := Tryd.zeroValue108
 t173 := Tryd.underlying111
 a173 := Tryd.isAgg111
 z173 := Tryd.sizeOf111
 v173 := Tryd.zeroValue111
 t175 := Tryd.underlying105
 a175 := Tryd.isAgg105
 z175 := Tryd.sizeOf105
 v175 := Tryd.zeroValue105
 t210 := Tryd.underlying119
 a210 := Tryd.isAgg119
 z210 := Tryd.sizeOf119
 v210 := Tryd.zeroValue119
 t212 := Tryd.underlying128
 a212 := Tryd.isAgg128
 z212 := Tryd.sizeOf128
 v212 := Tryd.zeroValue128
 t213 := Tryd.underlying130
 a213 := Tryd.isAgg130
 z213 := Tryd.sizeOf130
 t232 := Tryd.underlying143
 a232 := Tryd.isAgg143
 z232 := Tryd.sizeOf143
 v232 := Tryd.zeroValue143
 t233 := Tryd.underlying144
 a233 := Tryd.isAgg144
 z233 := Tryd.sizeOf144
 v233 := Tryd.zeroValue144
 g15 := by kernel_rfl
 g16 := by kernel_rfl
 g17 := by kernel_rfl
 g18 := by kernel_rfl
 g19 := by kernel_rfl
 t80 := Tryd.underlying93
 a80 := Tryd.isAgg93
 z80 := Tryd.sizeOf93
 v80 := Tryd.zeroValue93
 i0 := by kernel_rfl
 i2 := by kernel_rfl
 i3 := by kernel_rfl
 i4 := by kernel_rfl
 i5 := by kernel_rfl
 i9 := by kernel_rfl
 i20 := by kernel_rfl
 i21 := by kernel_rfl
 i37 := by kernel_rfl
 i46 := by kernel_rfl
 i51 := by kernel_rfl
 i53 := by kernel_rfl
 i75 := by kernel_rfl
 i76 := by kernel_rfl
 i80 := by kernel_rfl
 i85 := by kernel_rfl
 i127 := by kernel_rfl
 i143 := by kernel_rfl
 i145 := by kernel_rfl
 i167 := by kernel_rfl
 i168 := by kernel_rfl
 i171 := by kernel_rfl
 i173 := by kernel_rfl
 i175 := by kernel_rfl
 i210 := by kernel_rfl
 i212 := by kernel_rfl
 i232 := by kernel_rfl
 i233 := by kernel_rfl
 m15 := by kernel_rfl
 m16 := by kernel_rfl
 m17 := by kernel_rfl
 m18 := by kernel_rfl
 m19 := by kernel_rfl
 c0 := by kernel_rfl
 c2 := by kernel_rfl
 c3 := by kernel_rfl
 c4 := by kernel_rfl
 c5 := by kernel_rfl
 c9 := by kernel_rfl
 c20 := by kernel_rfl
 c21 := by kernel_rfl
 c37 := by kernel_rfl
 c46 := by kernel_rfl
 c51 := by kernel_rfl
 c53 := by kernel_rfl
 c75 := by kernel_rfl
 c76 := by kernel_rfl
 c80 := by kernel_rfl
 c85 := by kernel_rfl
 c127 := by kernel_rfl
 c143 := by kernel_rfl
 c145 := by kernel_rfl
 c167 := by kernel_rfl
 c168 := by kernel_rfl
 c171 := by kernel_rfl
 c173 := by kernel_rfl
 c175 := by kernel_rfl
 c210 := by kernel_rfl
 c212 := by kernel_rfl
 c213 := by kernel_rfl
 c232 := by kernel_rfl
 c233 := by kernel_rfl }
theorem z9O : zV Tryd.prog (atoi_ren.f 172) := ⟨Tryd.f37, zq Tryd.f37, Tryd.func37, by kernel_rfl, by kernel_rfl⟩
theorem zbC : GSOK Tryd.prog 37 (.r (libS isS (fun x => z0s x) gErr)) := z9B z9N z9O
def parse_ren : Go.Shelf.Ren := ⟨fun | 174 => 42 | 247 => 60 | 245 => 53 | 287 => 75 | 279 => 68 | 280 => 69 | 281 => 70 | 282 => 71 | 321 => 92 | 322 => 93 | 316 => 84 | 171 => 32 | 205 => 85 | 243 => 50 | 246 => 61 | 283 => 76 | 284 => 77 | 285 => 78 | 286 => 79 | 129 => 95 | 317 => 94 | 318 => 96 | 319 => 97 | 320 => 98 | 337 => 102 | 338 => 103 | n => n, fun | 9 => 9 | 3 => 3 | 2 => 2 | 75 => 65 | 85 => 73 | 4 => 4 | 167 => 99 | 5 => 5 | 53 => 104 | 175 => 105 | 46 => 107 | 168 => 100 | 37 => 35 | 0 => 0 | 210 => 119 | 21 => 21 | 127 => 103 | 145 => 135 | 143 => 133 | 171 => 108 | 173 => 111 | 212 => 128 | 51 => 129 | 20 => 20 | 213 => 130 | 232 => 143 | 233 => 144 | 80 => 93 | n => n, fun | 15 => 0 | 16 => 1 | 17 => 3 | 18 => 6 | 19 => 7 | n => n⟩
theorem z8U : Go.Proofs.LaysC.n174 Tryd.prog parse_ren := {
 mixed := by kernel_rfl
 f129 := Tryd.func95.trans (congrArg some (by kernel_rfl))
 f171 := Tryd.func32.trans (congrArg some (by kernel_rfl))
 f174 := Tryd.func42.trans (congrArg some (by kernel_rfl))
 f205 := Tryd.func85.trans (congrArg some (by kernel_rfl))
 f243 := Tryd.func50.trans (congrArg some (by kernel_rfl))
 f245 := Tryd.func53.trans (congrArg some (by kernel_rfl))
 f246 := Tryd.func61.trans (congrArg some (by kernel_rfl))
 f247 := Tryd.func60.trans (congrArg some (by kernel_rfl))
 f279 := Tryd.func68.trans (congrArg some (by kernel_rfl))
 f280 := Tryd.func69.trans (congrArg some (by kernel_rfl))
 f281 := Tryd.func70.trans (congrArg some (by kernel_rfl))
 f282 := Tryd.func71.trans (congrArg some (by kernel_rfl))
 f283 := Tryd.func76.trans (congrArg some (by kernel_rfl))
 f284 := Tryd.func77.trans (congrArg some (by kernel_rfl))
 f285 := Tryd.func78.trans (congrArg some (by kernel_rfl))
 f286 := Tryd.func79.trans (congrArg some (by kernel_rfl))
 f287 := Tryd.func75.trans (congrArg some (by kernel_rfl))
 f316 := Tryd.func84.trans (congrArg some (by kernel_rfl))
 f317 := Tryd.func94.trans (congrArg some (by kernel_rfl))
 f318 := Tryd.func96.trans (congrArg some (by kernel_rfl))
 f319 := Tryd.func97.trans (congrArg some (by kernel_rfl))
 f320 := Tryd.func98.trans (congrArg some (by kernel_rfl))
 f321 := Tryd.func92.trans (congrArg some (by kernel_rfl))
 f322 := Tryd.func93.trans (congrArg some (by kernel_rfl))
 f337 := Tryd.func102.trans (congrArg some (by kernel_rfl))
 f338 := Tryd.func103.trans (congrArg some (by kernel_rfl))
 t0 := Tryd.underlying0
 a0 := Tryd.isAgg0
 z0 := Tryd.sizeOf0
 v0 := Tryd.zeroValue0
 t2 := Tryd.underlying2
 a2 := Tryd.isAgg2
 z2 := Tryd.sizeOf2
 v2 := Tryd.zeroValue2
 t3 := Tryd.underlying3
 a3 := Tryd.isAgg3
 z3 := Tryd.sizeOf3
 v3 := Tryd.zeroValue3
 t4 := Tryd.underlying4
 a4 := Tryd.isAgg4
 z4 := Tryd.sizeOf4
 v4 := Tryd.zeroValue4
 t5 := Tryd.underlying5
 a5 := Tryd.isAgg5
 z5 := Tryd.sizeOf5
 v5 := Tryd.zeroValue5
 t9 := Tryd.underlying9
 a9 := Tryd.isAgg9
 z9 := Tryd.sizeOf9
 v9 := Tryd.zeroValue9
 t20 := Tryd.underlying20
 a20 := Tryd.isAgg20
 z20 := Tryd.sizeOf20
 v20 := Tryd.zeroValue20
 t21 := Tryd.underlying21
 a21 := Tryd.isAgg21
 z21 := Tryd.sizeOf21
 v21 := Tryd.zeroValue21
 t37 := Tryd.underlying35
 a37 := Tryd.isAgg35
 z37 := Tryd.sizeOf35
 v37 := Tryd.zeroValue35
 t46 := Tryd.underlying107
 a46 := Tryd.isAgg107
 z46 := Tryd.sizeOf107
 v46 := Tryd.zeroValue107
 t51 := Tryd.underlying129
 a51 := Tryd.isAgg129
 z51 := Tryd.sizeOf129
 v51 := Tryd.zeroValue129
 t53 := Tryd.underlying104
 a53 := Tryd.isAgg104
 z53 := Tryd.sizeOf104
 v53 := Tryd.zeroValue104
 t75 := Tryd.underlying65
 a75 := Tryd.isAgg65
 z75 := Tryd.sizeOf65
 v75 := Tryd.zeroValue65
 t85 := Tryd.underlying73
 a85 := Tryd.isAgg73
 z85 := Tryd.sizeOf73
 v85 := Tryd.zeroValue73
 t127 := Tryd.underlying103
 a127 := Tryd.isAgg103
 z127 := Tryd.sizeOf103
 v127 := Tryd.zeroValue103
 t143 := Tryd.underlying133
 a143 := Tryd.isAgg133
 z143 := Tryd.sizeOf133
 v143 := Tryd.zeroValue133
 t145 := Tryd.underlying135
 a145 := Tryd.isAgg135
 z145 := Tryd.sizeOf135
 v145 := Tryd.zeroValue135
 t167 := Tryd.underlying99
 a167 := Tryd.isAgg99
 z167 := Tryd.sizeOf99
 v167 := Tryd.zeroValue99
 t168 := Tryd.underlying100
 a168 := Tryd.isAgg100
 z168 := Tryd.sizeOf100
 v168 := Tryd.zeroValue100
 t171 := Tryd.underlying108
 a171 := Tryd.isAgg108
 z171 := Tryd.sizeOf108
 v171 := Tryd.zeroValue108
 t173 := Tryd.underlying111
 a173 := Tryd.isAgg111
 z173 := Tryd.sizeOf111
 v173 := Tryd.zeroValue111
 t175 := Tryd.underlying105
 a175 := Tryd.isAgg105
 z175 := Tryd.sizeOf105
 v175 := Tryd.zeroValue105
 t210 := Tryd.underlying119
 a210 := Tryd.isAgg119
 z210 := Tryd.sizeOf119
 v210 := Tryd.zeroValue119
 t212 := Tryd.underlying128
 a212 := Tryd.isAgg128
 z212 := Tryd.sizeOf128
 v212 := Tryd.zeroValue128
 t213 := Tryd.underlying130
 a213 := Tryd.isAgg130
 z213 := Tryd.sizeOf130
 t232 := Tryd.underlying143
 a232 := Tryd.isAgg143
 z232 := Tryd.sizeOf143
 v232 := Tryd.zeroValue143
 t233 := Tryd.underlying144
 a233 := Tryd.isAgg144
 z233 := Tryd.sizeOf144
 v233 := Tryd.zeroValue144
 g15 := by kernel_rfl
 g16 := by kernel_rfl
 g17 := by kernel_rfl
 g18 := by kernel_rfl
 g19 := by kernel_rfl
 t80 := Tryd.underlying93
 a80 := Tryd.isAgg93
 z80 := Tryd.sizeOf93
 v80 := Tryd.zeroValue93
 i0 := by kernel_rfl
 i2 := by kernel_rfl
 i3 := by kernel_rfl
 i4 := by kernel_rfl
 i5 := by kernel_rfl
 i9 := by kernel_rfl
 i20 := by kernel_rfl
 i21 := by kernel_rfl
 i37 := by kernel_rfl
 i46 := by kernel_rfl
 i51 := by kernel_rfl
 i53 := by kernel_rfl
 i75 := by kernel_rfl
 i80 := by kernel_rfl
 i85 := by kernel_rfl
 i127 := by kernel_rfl
 i143 := by kernel_rfl
 i145 := by kernel_rfl
 i167 := by kernel_rfl
 i168 := by kernel_rfl
 i171 := by kernel_rfl
 i173 := by kernel_rfl
 i175 := by kernel_rfl
 i210 := by kernel_rfl
 i212 := by kernel_rfl
 i232 := by kernel_rfl
 i233 := by kernel_rfl
 m15 := by kernel_rfl
 m16 := by kernel_rfl
 m17 := by kernel_rfl
 m18 := by kernel_rfl
 m19 := by kernel_rfl
 c0 := by kernel_rfl
 c2 := by kernel_rfl
 c3 := by kernel_rfl
 c4 := by kernel_rfl
 c5 := by kernel_rfl
 c9 := by kernel_rfl
 c20 := by kernel_rfl
 c21 := by kernel_rfl
 c37 := by kernel_rfl
 c46 := by kernel_rfl
 c51 := by kernel_rfl
 c53 := by kernel_rfl
 c75 := by kernel_rfl
 c80 := by kernel_rfl
 c85 := by kernel_rfl
 c127 := by kernel_rfl
 c143 := by kernel_rfl
 c145 := by kernel_rfl
 c167 := by kernel_rfl
 c168 := by kernel_rfl
 c171 := by kernel_rfl
 c173 := by kernel_rfl
 c175 := by kernel_rfl
 c210 := by kernel_rfl
 c212 := by kernel_rfl
 c213 := by kernel_rfl
 c232 := by kernel_rfl
 c233 := by kernel_rfl }
theorem z8V : zV Tryd.prog (parse_ren.f 174) := ⟨Tryd.f42, zq Tryd.f42, Tryd.func42, by kernel_rfl, by kernel_rfl⟩
theorem zaz : GSOK Tryd.prog 42 (.r (libS zb4 (fun x => vW (x.1) (x.2.1) (x.2.2)) gErr)) := z8O z8U z8V
def itoa_ren : Go.Shelf.Ren := ⟨fun | 171 => 32 | 243 => 50 | 246 => 61 | 283 => 76 | 284 => 77 | 285 => 78 | 286 => 79 | 129 => 95 | 317 => 94 | 318 => 96 | 319 => 97 | 320 => 98 | 337 => 102 | 338 => 103 | n => n, fun | 3 => 3 | 9 => 9 | 2 => 2 | 4 => 4 | 171 => 108 | 0 => 0 | 53 => 104 | 37 => 35 | 5 => 5 | 173 => 111 | 212 => 128 | 51 => 129 | 20 => 20 | 213 => 130 | 46 => 107 | 232 => 143 | 233 => 144 | n => n, fun | 17 => 3 | 18 => 6 | 19 => 7 | n => n⟩
theorem z9P : Go.Proofs.LaysM.n171 Tryd.prog itoa_ren := {
 mixed := by kernel_rfl
 f129 := Tryd.func95.trans (congrArg some (by kernel_rfl))
 f171 := Tryd.func32.trans (congrArg some (by kernel_rfl))
 f243 := Tryd.func50.trans (congrArg some (by kernel_rfl))
 f246 := Tryd.func61.trans (congrArg some (by kernel_rfl))
 f283 := Tryd.func76.trans (congrArg some (by kernel_rfl))
 f284 := Tryd.func77.trans (congrArg some (by kernel_rfl))
 f285 := Tryd.func78.trans (congrArg some (by kernel_rfl))
 f286 := Tryd.func79.trans (congrArg some (by kernel_rfl))
 f317 := Tryd.func94.trans (congrArg some (by kernel_rfl))
 f318 := Tryd.func96.trans (congrArg some (by kernel_rfl))
 f319 := Tryd.func97.trans (congrArg some (by kernel_rfl))
 f320 := Tryd.func98.trans (congrArg some (by kernel_rfl))
 f337 := Tryd.func102.trans (congrArg some (by kernel_rfl))
 f338 := Tryd.func103.trans (congrArg some (by kernel_rfl))
 t0 := Tryd.underlying0
 a0 := Tryd.isAgg0
 z0 := Tryd.sizeOf0
 v0 := Tryd.zeroValue0
 t2 := Tryd.underlying2
 a2 := Tryd.isAgg2
 z2 := Tryd.sizeOf2
 v2 := Tryd.zeroValue2
 t3 := Tryd.underlying3
 a3 := Tryd.isAgg3
 z3 := Tryd.sizeOf3
 v3 := Tryd.zeroValue3
 t4 := Tryd.underlying4
 a4 := Tryd.isAgg4
 z4 := Tryd.sizeOf4
 v4 := Tryd.zeroValue4
 t5 := Tryd.underlying5
 a5 := Tryd.isAgg5
 z5 := Tryd.sizeOf5
 v5 := Tryd.zeroValue5
 t9 := Tryd.underlying9
 a9 := Tryd.isAgg9
 z9 := Tryd.sizeOf9
 v9 := Tryd.zeroValue9
 t20 := Tryd.underlying20
 a20 := Tryd.isAgg20
 z20 := Tryd.sizeOf20
 v20 := Tryd.zeroValue20
 t37 := Tryd.underlying35
 a37 := Tryd.isAgg35
 z37 := Tryd.sizeOf35
 v37 := Tryd.zeroValue35
 t46 := Tryd.underlying107
 a46 := Tryd.isAgg107
 z46 := Tryd.sizeOf107
 v46 := Tryd.zeroValue107
 t51 := Tryd.underlying129
 a51 := Tryd.isAgg129
 z51 := Tryd.sizeOf129
 v51 := Tryd.zeroValue129
 t53 := Tryd.underlying104
 a53 := Tryd.isAgg104
 z53 := Tryd.sizeOf104
 v53 := Tryd.zeroValue104
 t171 := Tryd.underlying108
 a171 := Tryd.isAgg108
 z171 := Tryd.sizeOf108
 v171 := Tryd.zeroValue108
 t173 := Tryd.underlying111
 a173 := Tryd.isAgg111
 z173 := Tryd.sizeOf111
 v173 := Tryd.zeroValue111
 t212 := Tryd.underlying128
 a212 := Tryd.isAgg128
 z212 := Tryd.sizeOf128
 v212 := Tryd.zeroValue128
 t213 := Tryd.underlying130
 a213 := Tryd.isAgg130
 z213 := Tryd.sizeOf130
 t232 := Tryd.underlying143
 a232 := Tryd.isAgg143
 z232 := Tryd.sizeOf143
 v232 := Tryd.zeroValue143
 t233 := Tryd.underlying144
 a233 := Tryd.isAgg144
 z233 := Tryd.sizeOf144
 v233 := Tryd.zeroValue144
 g17 := by kernel_rfl
 g18 := by kernel_rfl
 g19 := by kernel_rfl
 i0 := by kernel_rfl
 i2 := by kernel_rfl
 i3 := by kernel_rfl
 i4 := by kernel_rfl
 i5 := by kernel_rfl
 i9 := by kernel_rfl
 i20 := by kernel_rfl
 i37 := by kernel_rfl
 i46 := by kernel_rfl
 i51 := by kernel_rfl
 i53 := by kernel_rfl
 i171 := by kernel_rfl
 i173 := by kernel_rfl
 i212 := by kernel_rfl
 i232 := by kernel_rfl
 i233 := by kernel_rfl
 m17 := by kernel_rfl
 m18 := by kernel_rfl
 m19 := by kernel_rfl }
theorem z9Q : zV Tryd.prog (itoa_ren.f 171) := ⟨Tryd.f32, zq Tryd.f32, Tryd.func32, by kernel_rfl, by kernel_rfl⟩
theorem zbD : GSOK Tryd.prog 32 (.r (libS isI (fun x => Zo x) gStr)) := z9C z9P z9Q
def fmt_ren : Go.Shelf.Ren := ⟨fun | 173 => 43 | 246 => 61 | 283 => 76 | 284 => 77 | 285 => 78 | 286 => 79 | 129 => 95 | 317 => 94 | 318 => 96 | 319 => 97 | 320 => 98 | 337 => 102 | 338 => 103 | n => n, fun | 2 => 2 | 3 => 3 | 9 => 9 | 4 => 4 | 171 => 108 | 0 => 0 | 53 => 104 | 37 => 35 | 5 => 5 | 173 => 111 | 212 => 128 | 51 => 129 | 20 => 20 | 213 => 130 | 46 => 107 | 232 => 143 | 233 => 144 | n => n, fun | 17 => 3 | 18 => 6 | 19 => 7 | n => n⟩
theorem zaA : Go.Proofs.LaysM.n173 Tryd.prog fmt_ren := {
 mixed := by kernel_rfl
 f129 := Tryd.func95.trans (congrArg some (by kernel_rfl))
 f173 := Tryd.func43.trans (congrArg some (by kernel_rfl))
 f246 := Tryd.func61.trans (congrArg some (by kernel_rfl))
 f283 := Tryd.func76.trans (congrArg some (by kernel_rfl))
 f284 := Tryd.func77.trans (congrArg some (by kernel_rfl))
 f285 := Tryd.func78.trans (congrArg some (by kernel_rfl))
 f286 := Tryd.func79.trans (congrArg some (by kernel_rfl))
 f317 := Tryd.func94.trans (congrArg some (by kernel_rfl))
 f318 := Tryd.func96.trans (congrArg some (by kernel_rfl))
 f319 := Tryd.func97.trans (congrArg some (by kernel_rfl))
 f320 := Tryd.func98.trans (congrArg some (by kernel_rfl))
 f337 := Tryd.func102.trans (congrArg some (by kernel_rfl))
 f338 := Tryd.func103.trans (congrArg some (by kernel_rfl))
 t0 := Tryd.underlying0
 a0 := Tryd.isAgg0
 z0 := Tryd.sizeOf0
 v0 := Tryd.zeroValue0
 t2 := Tryd.underlying2
 a2 := Tryd.isAgg2
 z2 := Tryd.sizeOf2
 v2 := Tryd.zeroValue2
 t3 := Tryd.underlying3
 a3 := Tryd.isAgg3
 z3 := Tryd.sizeOf3
 v3 := Tryd.zeroValue3
 t4 := Tryd.underlying4
 a4 := Tryd.isAgg4
 z4 := Tryd.sizeOf4
 v4 := Tryd.zeroValue4
 t5 := Tryd.underlying5
 a5 := Tryd.isAgg5
 z5 := Tryd.sizeOf5
 v5 := Tryd.zeroValue5
 t9 := Tryd.underlying9
 a9 := Tryd.isAgg9
 z9 := Tryd.sizeOf9
 v9 := Tryd.zeroValue9
 t20 := Tryd.underlying20
 a20 := Tryd.isAgg20
 z20 := Tryd.sizeOf20
 v20 := Tryd.zeroValue20
 t37 := Tryd.underlying35
 a37 := Tryd.isAgg35
 z37 := Tryd.sizeOf35
 v37 := Tryd.zeroValue35
 t46 := Tryd.underlying107
 a46 := Tryd.isAgg107
 z46 := Tryd.sizeOf107
 v46 := Tryd.zeroValue107
 t51 := Tryd.underlying129
 a51 := Tryd.isAgg129
 z51 := Tryd.sizeOf129
 v51 := Tryd.zeroValue129
 t53 := Tryd.underlying104
 a53 := Tryd.isAgg104
 z53 := Tryd.sizeOf104
 v53 := Tryd.zeroValue104
 t171 := Tryd.underlying108
 a171 := Tryd.isAgg108
 z171 := Tryd.sizeOf108
 v171 := Tryd.zeroValue108
 t173 := Tryd.underlying111
 a173 := Tryd.isAgg111
 z173 := Tryd.sizeOf111
 v173 := Tryd.zeroValue111
 t212 := Tryd.underlying128
 a212 := Tryd.isAgg128
 z212 := Tryd.sizeOf128
 v212 := Tryd.zeroValue128
 t213 := Tryd.underlying130
 a213 := Tryd.isAgg130
 z213 := Tryd.sizeOf130
 t232 := Tryd.underlying143
 a232 := Tryd.isAgg143
 z232 := Tryd.sizeOf143
 v232 := Tryd.zeroValue143
 t233 := Tryd.underlying144
 a233 := Tryd.isAgg144
 z233 := Tryd.sizeOf144
 v233 := Tryd.zeroValue144
 g17 := by kernel_rfl
 g18 := by kernel_rfl
 g19 := by kernel_rfl
 i0 := by kernel_rfl
 i2 := by kernel_rfl
 i3 := by kernel_rfl
 i4 := by kernel_rfl
 i5 := by kernel_rfl
 i9 := by kernel_rfl
 i20 := by kernel_rfl
 i37 := by kernel_rfl
 i46 := by kernel_rfl
 i51 := by kernel_rfl
 i53 := by kernel_rfl
 i171 := by kernel_rfl
 i173 := by kernel_rfl
 i212 := by kernel_rfl
 i232 := by kernel_rfl
 i233 := by kernel_rfl
 m17 := by kernel_rfl
 m18 := by kernel_rfl
 m19 := by kernel_rfl }
theorem zaB : zV Tryd.prog (fmt_ren.f 173) := ⟨Tryd.f43, zq Tryd.f43, Tryd.func43, by kernel_rfl, by kernel_rfl⟩
theorem zc6 : GSOK Tryd.prog 43 (.r (libS isII (fun x => fmtO (x.1) (x.2)) gStr)) := zas zaA zaB
def cut_ren : Go.Shelf.Ren := ⟨fun | 145 => 41 | 220 => 59 | 219 => 74 | 217 => 88 | 225 => 89 | 224 => 90 | 267 => 91 | 266 => 100 | 314 => 101 | n => n, fun | 9 => 9 | 4 => 4 | 59 => 71 | 3 => 3 | 5 => 5 | 46 => 107 | 146 => 136 | 51 => 129 | n => n, fun | 1 => 2 | n => n⟩
theorem zaC : Go.Proofs.LaysM.n145 Tryd.prog cut_ren := {
 mixed := by kernel_rfl
 f145 := Tryd.func41.trans (congrArg some (by kernel_rfl))
 f217 := Tryd.func88.trans (congrArg some (by kernel_rfl))
 f219 := Tryd.func74.trans (congrArg some (by kernel_rfl))
 f220 := Tryd.func59.trans (congrArg some (by kernel_rfl))
 f224 := Tryd.func90.trans (congrArg some (by kernel_rfl))
 f225 := Tryd.func89.trans (congrArg some (by kernel_rfl))
 f266 := Tryd.func100.trans (congrArg some (by kernel_rfl))
 f267 := Tryd.func91.trans (congrArg some (by kernel_rfl))
 f314 := Tryd.func101.trans (congrArg some (by kernel_rfl))
 t3 := Tryd.underlying3
 a3 := Tryd.isAgg3
 z3 := Tryd.sizeOf3
 v3 := Tryd.zeroValue3
 t4 := Tryd.underlying4
 a4 := Tryd.isAgg4
 z4 := Tryd.sizeOf4
 v4 := Tryd.zeroValue4
 t5 := Tryd.underlying5
 a5 := Tryd.isAgg5
 z5 := Tryd.sizeOf5
 v5 := Tryd.zeroValue5
 t9 := Tryd.underlying9
 a9 := Tryd.isAgg9
 z9 := Tryd.sizeOf9
 v9 := Tryd.zeroValue9
 t46 := Tryd.underlying107
 a46 := Tryd.isAgg107
 z46 := Tryd.sizeOf107
 v46 := Tryd.zeroValue107
 t51 := Tryd.underlying129
 a51 := Tryd.isAgg129
 z51 := Tryd.sizeOf129
 v51 := Tryd.zeroValue129
 t59 := Tryd.underlying71
 a59 := Tryd.isAgg71
 z59 := Tryd.sizeOf71
 v59 := Tryd.zeroValue71
 t146 := Tryd.underlying136
 a146 := Tryd.isAgg136
 z146 := Tryd.sizeOf136
 v146 := Tryd.zeroValue136
 g1 := by kernel_rfl
 i3 := by kernel_rfl
 i4 := by kernel_rfl
 i5 := by kernel_rfl
 i9 := by kernel_rfl
 i46 := by kernel_rfl
 i51 := by kernel_rfl
 i59 := by kernel_rfl
 i146 := by kernel_rfl
 m1 := by kernel_rfl
 s1_3 := fun w h => Go.Proofs.cell_of_shapedOpen_int (zero := #[.int .i64 0]) (t := 3) h (of_decide_eq_true (by kernel_rfl)) (by kernel_rfl) rfl (by kernel_rfl) (by kernel_rfl) Tryd.underlying3 }
theorem zaD : zV Tryd.prog (cut_ren.f 145) := ⟨Tryd.f41, zq Tryd.f41, Tryd.func41, by kernel_rfl, by kernel_rfl⟩
theorem zc7 : GSOK Tryd.prog 41 (.r (libS isSS (fun x => cutO (x.1) (x.2)) gCut)) := zat zaC zaD
def split_ren : Go.Shelf.Ren := ⟨fun | 146 => 35 | 221 => 51 | 268 => 65 | 138 => 66 | 143 => 67 | 195 => 81 | 197 => 82 | 218 => 83 | 219 => 74 | 260 => 99 | 217 => 88 | 225 => 89 | 224 => 90 | 267 => 91 | 266 => 100 | 314 => 101 | n => n, fun | 9 => 9 | 31 => 57 | 3 => 3 | 4 => 4 | 0 => 0 | 105 => 114 | 21 => 21 | 5 => 5 | 46 => 107 | 119 => 139 | 139 => 142 | 138 => 141 | 146 => 136 | 51 => 129 | n => n, fun | 1 => 2 | 3 => 4 | 4 => 5 | n => n⟩
theorem z3B : Go.Proofs.LaysM.n146 Tryd.prog split_ren := {
 mixed := by kernel_rfl
 f138 := Tryd.func66.trans (congrArg some (by kernel_rfl))
 f143 := Tryd.func67.trans (congrArg some (by kernel_rfl))
 f146 := Tryd.func35.trans (congrArg some (by kernel_rfl))
 f195 := Tryd.func81.trans (congrArg some (by kernel_rfl))
 f197 := Tryd.func82.trans (congrArg some (by kernel_rfl))
 f217 := Tryd.func88.trans (congrArg some (by kernel_rfl))
 f218 := Tryd.func83.trans (congrArg some (by kernel_rfl))
 f219 := Tryd.func74.trans (congrArg some (by kernel_rfl))
 f221 := Tryd.func51.trans (congrArg some (by kernel_rfl))
 f224 := Tryd.func90.trans (congrArg some (by kernel_rfl))
 f225 := Tryd.func89.trans (congrArg some (by kernel_rfl))
 f260 := Tryd.func99.trans (congrArg some (by kernel_rfl))
 f266 := Tryd.func100.trans (congrArg some (by kernel_rfl))
 f267 := Tryd.func91.trans (congrArg some (by kernel_rfl))
 f268 := Tryd.func65.trans (congrArg some (by kernel_rfl))
 f314 := Tryd.func101.trans (congrArg some (by kernel_rfl))
 t0 := Tryd.underlying0
 a0 := Tryd.isAgg0
 z0 := Tryd.sizeOf0
 v0 := Tryd.zeroValue0
 t3 := Tryd.underlying3
 a3 := Tryd.isAgg3
 z3 := Tryd.sizeOf3
 v3 := Tryd.zeroValue3
 t4 := Tryd.underlying4
 a4 := Tryd.isAgg4
 z4 := Tryd.sizeOf4
 v4 := Tryd.zeroValue4
 t5 := Tryd.underlying5
 a5 := Tryd.isAgg5
 z5 := Tryd.sizeOf5
 v5 := Tryd.zeroValue5
 t9 := Tryd.underlying9
 a9 := Tryd.isAgg9
 z9 := Tryd.sizeOf9
 v9 := Tryd.zeroValue9
 t21 := Tryd.underlying21
 a21 := Tryd.isAgg21
 z21 := Tryd.sizeOf21
 v21 := Tryd.zeroValue21
 t31 := Tryd.underlying57
 a31 := Tryd.isAgg57
 z31 := Tryd.sizeOf57
 v31 := Tryd.zeroValue57
 t46 := Tryd.underlying107
 a46 := Tryd.isAgg107
 z46 := Tryd.sizeOf107
 v46 := Tryd.zeroValue107
 t51 := Tryd.underlying129
 a51 := Tryd.isAgg129
 z51 := Tryd.sizeOf129
 v51 := Tryd.zeroValue129
 t105 := Tryd.underlying114
 a105 := Tryd.isAgg114
 z105 := Tryd.sizeOf114
 v105 := Tryd.zeroValue114
 t119 := Tryd.underlying139
 a119 := Tryd.isAgg139
 z119 := Tryd.sizeOf139
 t138 := Tryd.underlying141
 a138 := Tryd.isAgg141
 z138 := Tryd.sizeOf141
 v138 := Tryd.zeroValue141
 t139 := Tryd.underlying142
 a139 := Tryd.isAgg142
 z139 := Tryd.sizeOf142
 v139 := Tryd.zeroValue142
 t146 := Tryd.underlying136
 a146 := Tryd.isAgg136
 z146 := Tryd.sizeOf136
 v146 := Tryd.zeroValue136
 g1 := by kernel_rfl
 g3 := by kernel_rfl
 g4 := by kernel_rfl
 i0 := by kernel_rfl
 i3 := by kernel_rfl
 i4 := by kernel_rfl
 i5 := by kernel_rfl
 i9 := by kernel_rfl
 i21 := by kernel_rfl
 i31 := by kernel_rfl
 i46 := by kernel_rfl
 i51 := by kernel_rfl
 i105 := by kernel_rfl
 i138 := by kernel_rfl
 i139 := by kernel_rfl
 i146 := by kernel_rfl
 m1 := by kernel_rfl
 s1_3 := fun w h => Go.Proofs.cell_of_shapedOpen_int (zero := #[.int .i64 0]) (t := 3) h (of_decide_eq_true (by kernel_rfl)) (by kernel_rfl) rfl (by kernel_rfl) (by kernel_rfl) Tryd.underlying3
 m3 := by kernel_rfl
 m4 := by kernel_rfl }
theorem z8W : zV Tryd.prog (split_ren.f 146) := ⟨Tryd.f35, zq Tryd.f35, Tryd.func35, by kernel_rfl, by kernel_rfl⟩
theorem zaE : GSOK Tryd.prog 35 (.r (libS isSS (fun x => jJ (x.1) (x.2)) (Jn (9)))) := z8P z3B z8W
theorem z7u : zV Tryd.prog (split_ren.f 221) := ⟨Tryd.f51, zq Tryd.f51, Tryd.func51, by kernel_rfl, by kernel_rfl⟩
theorem z9R : GSOK Tryd.prog 51 (.r (libS z9A (fun x => jC (x.1) (x.2.1) (x.2.2.1) (x.2.2.2)) (Jn (9)))) := z7q { z3B with } z7u
def suf_ren : Go.Shelf.Ren := ⟨fun | 100 => 64 | 207 => 80 | n => n, fun | 9 => 9 | 4 => 4 | 3 => 3 | n => n, fun | n => n⟩
theorem zaF : Go.Proofs.Lays.n100 Tryd.prog suf_ren := {
 mixed := by kernel_rfl
 f100 := Tryd.func64.trans (congrArg some (by kernel_rfl))
 f207 := Tryd.func80.trans (congrArg some (by kernel_rfl))
 t3 := Tryd.underlying3
 a3 := Tryd.isAgg3
 z3 := Tryd.sizeOf3
 v3 := Tryd.zeroValue3
 t4 := Tryd.underlying4
 a4 := Tryd.isAgg4
 z4 := Tryd.sizeOf4
 v4 := Tryd.zeroValue4
 t9 := Tryd.underlying9
 a9 := Tryd.isAgg9
 z9 := Tryd.sizeOf9
 v9 := Tryd.zeroValue9 }
theorem zaG : zV Tryd.prog (suf_ren.f 100) := ⟨Tryd.f64, zq Tryd.f64, Tryd.func64, by kernel_rfl, by kernel_rfl⟩
theorem zc8 : GSOK Tryd.prog 64 (.r (libS isSS (fun x => sufO (x.1) (x.2)) z5w)) := zau zaF zaG
end Go.Proofs.Y
namespace Go.Proofs.Y
open Go.Rb Go.Kx
noncomputable abbrev z3C : GS := .r (libS [.v (.one (.int .i64)) false] (fun x => Zo x) gStr)
theorem z1C : GSOK Tryd.prog 32 z3C := zbD
end Go.Proofs.Y
namespace Go.Proofs.Y
open Go.Rb Go.Kx
noncomputable def z1D : Code := zq Tryd.f7
noncomputable def z1E : FuncId → Option GS := tabG [(12, jV), (31, jW), (32, z3C)]
theorem z6r : ΓOK Tryd.prog z1E := za (JD) (za (JE) (za (z1C) (zu)))
def z1F : HT := ⟨tabL [(9, .it [] (dyn [.a 5 3 (.one (.int .i64)), .t 28 (.int .i64)])), (17, .it [] (dyn [.t 8 (.str), .t 53 (.int .i64)]))], tabH []⟩
abbrev j6 : List IT := [.v (.cons (.int .i64) (.cons (.int .i64) (.cons (.int .i64) (.one (.sl 56 (.cons (.int .i64) (.cons (.int .i64) (.one (.int .i64))))))))) true]
abbrev z0V : List OT := [⟨.one .str, false, []⟩, ⟨.one (.int .i64), false, []⟩]
set_option maxRecDepth 100000
noncomputable def yz : Int × Int × Int × List (Int × Int × Int) → Option (List UInt8 × Int) := fun a => z6 (zD (a.1, a.2.1, a.2.2.1, a.2.2.2)) fun y => ifB (neI y 0) (some ([], y)) (ifB (eqI a.1 1) (zi maxR (fun (x : Int × List Int) => ifB (ltI x.1 (lenI a.2.2.2)) (z6 (atI a.2.2.2 x.1) fun y => ifB (zB 8 x.2 [y.1, y.2.1, y.2.2]) (some (Sum.inl (wadd .i64 x.1 1, cat x.2 [y.1, y.2.1, y.2.2]))) none) (mapO Sum.inr (z6 ZX fun y => z6 (atI y a.1) fun y => zi maxR (fun (x_1 : List UInt8 × Int) => ifB (ltI x_1.2 (lenI x.2)) (ifB (ltL x_1.2 x.2) (z6 (atN x.2 (natI x_1.2)) fun y => z6 (Zo y) fun y => ifB (Ys [32] y) (ifB (Ys x_1.1 (catS [32] y)) (some (Sum.inl (catS x_1.1 (catS [32] y), wadd .i64 x_1.2 1))) none) none) none) (mapO Sum.inr (some (x_1.1, 0)))) (y, 0)))) (0, [])) (ifB (eqI a.1 4) (ifB (in1 [a.2.1, a.2.2.1] 1) (z6 ZX fun y => z6 (atI y a.1) fun y => zi maxR (fun (x : List UInt8 × Int) => ifB (ltI x.2 (intN (z5n (lenN [a.2.1, a.2.2.1]) 1))) (ifB (ltN x.2 (z5n (lenN [a.2.1, a.2.2.1]) 1)) (z6 (atN [a.2.1, a.2.2.1] (addN (addN 0 (natI 1)) (natI x.2))) fun y => z6 (Zo y) fun y => ifB (Ys [32] y) (ifB (Ys x.1 (catS [32] y)) (some (Sum.inl (catS x.1 (catS [32] y), wadd .i64 x.2 1))) none) none) none) (mapO Sum.inr (some (x.1, 0)))) (y, 0)) none) (z6 ZX fun y => z6 (atI y a.1) fun y => zi maxR (fun (x : List UInt8 × Int) => ifB (ltI x.2 (lenI [a.2.1, a.2.2.1])) (ifB (ltL x.2 [a.2.1, a.2.2.1]) (z6 (atN [a.2.1, a.2.2.1] (natI x.2)) fun y => z6 (Zo y) fun y => ifB (Ys [32] y) (ifB (Ys x.1 (catS [32] y)) (some (Sum.inl (catS x.1 (catS [32] y), wadd .i64 x.2 1))) none) none) none) (mapO Sum.inr (some (x.1, 0)))) (y, 0))))
theorem z3D (x : PI j6) : yz x = fnE T z1E z1F z1D (zO Tryd.f7) j6 z0V x := by kernel_rfl
noncomputable abbrev z1G : GS := zI false j6 z0V fun x => yz x
theorem z3E : GSOK Tryd.prog 7 z1G := zC tok z6r fmo (Ht := z1F) (fn := Tryd.f7) (Tryd.func7) (c := z1D) (by kernel_rfl) (by kernel_rfl) (by kernel_rfl) (by decide +kernel) (by decide) z3D
end Go.Proofs.Y
namespace Go.Proofs.Y
open Go.Rb Go.Kx
set_option maxRecDepth 100000
end Go.Proofs.Y
namespace Go.Proofs.Y
open Go.Rb Go.Kx
noncomputable abbrev z8g : GS := .r (libS [.v (.one .str) false, .v (.one .str) false] (fun x => jJ (x.1) (x.2)) (Jn 9))
theorem z8X : GSOK Tryd.prog 35 z8g := zaE
end Go.Proofs.Y
namespace Go.Proofs.Y
open Go.Rb Go.Kx
noncomputable def z6s : Code := zq Tryd.f36
noncomputable def z6t : FuncId → Option GS := tabG []
theorem zaH : ΓOK Tryd.prog z6t := zu
def z6u : HT := ⟨tabL [(2, .it [] (dyn [.t 8 (.int .i64)]))], tabH []⟩
abbrev z1H : List IT := [.v (.one (.sl 9 (.one .str))) false, .v (.one .str) false]
abbrev z52 : List OT := [⟨.one (.int .i64), false, []⟩]
set_option maxRecDepth 100000
noncomputable def jX : List (List UInt8) → List UInt8 → Option Int := fun a b => zi maxR (fun (x : Int) => ifB (ltI x (lenI a)) (z6 (atI a x) fun y => ifB (eqS b y) (mapO Sum.inr (some x)) (some (Sum.inl (wadd .i64 x 1)))) (mapO Sum.inr (some (-1)))) 0
theorem z7v (x : PI z1H) : jX (x.1) (x.2) = fnE T z6t z6u z6s (zO Tryd.f36) z1H z52 x := by kernel_rfl
noncomputable abbrev z6v : GS := zI false z1H z52 fun x => jX (x.1) (x.2)
theorem z7w : GSOK Tryd.prog 36 z6v := zC tok zaH fmo (Ht := z6u) (fn := Tryd.f36) (Tryd.func36) (c := z6s) (by kernel_rfl) (by kernel_rfl) (by kernel_rfl) (by decide +kernel) (by decide) z7v
end Go.Proofs.Y
namespace Go.Proofs.Y
open Go.Rb Go.Kx
noncomputable abbrev z9S : GS := .r (libS [.v (.one .str) false] (fun x => z0s x) gErr)
theorem z9T : GSOK Tryd.prog 37 z9S := zbC
end Go.Proofs.Y
namespace Go.Proofs.Y
open Go.Rb Go.Kx
noncomputable def z1I : Code := zq Tryd.f10
noncomputable def z1J : FuncId → Option GS := tabG [(35, z8g), (31, jW), (36, z6v), (37, z9S), (32, z3C), (12, jV)]
theorem z6w : ΓOK Tryd.prog z1J := za (z8X) (za (JE) (za (z7w) (za (z9T) (za (z1C) (za (JD) (zu))))))
def z1K : HT := ⟨tabL [(7, .it [] (dyn [.a 6 3 (.one (.int .i64)), .t 28 (.int .i64), .c 2 0 (.int .i64), .c 2 1 (.int .i64), .c 2 2 (.int .i64), .c 2 3 (.sl 56 (.cons (.int .i64) (.cons (.int .i64) (.one (.int .i64)))))])), (17, .it [] (dyn [.t 11 (.int .i64), .b 5 3 56 (.cons (.int .i64) (.cons (.int .i64) (.one (.int .i64))))]))], tabH []⟩
abbrev j7 : List IT := [.v (.one .str) false]
abbrev z0W : List OT := [⟨.cons (.int .i64) (.cons (.int .i64) (.cons (.int .i64) (.one (.sl 56 (.cons (.int .i64) (.cons (.int .i64) (.one (.int .i64)))))))), true, []⟩, ⟨.one (.int .i64), false, []⟩]
set_option maxRecDepth 100000
noncomputable def yA : List UInt8 → Option ((Int × Int × Int × List (Int × Int × Int)) × Int) := fun a => ifB (gtI (lenI a) 60000) (some ((0, 0, 0, []), 2)) (z6 (jJ a [32]) fun y => z6 ZX fun y_1 => z6 (atI y 0) fun y_2 => z6 (jX y_1 y_2) fun y_3 => ifB (in1 y 1) (zi maxR (fun (x : Int × Int × Int × Int × List (Int × Int × Int) × List Int) => ifB (ltI x.1 (lenI (ji y 1))) (z6 (atI (ji y 1) x.1) fun y => z6 (z0s y) fun y_4 => ifB y_4.2 (mapO Sum.inr (some ((0, 0, 0, []), 1))) (z6 (Zo y_4.1) fun y_5 => ifB (notB (eqS y_5 y)) (mapO Sum.inr (some ((0, 0, 0, []), 1))) (ifB (zB 8 x.2.2.2.2.2 [y_4.1]) (some (Sum.inl (wadd .i64 x.1 1, x.2.1, x.2.2.1, x.2.2.2.1, x.2.2.2.2.1, cat x.2.2.2.2.2 [y_4.1]))) none))) (mapO Sum.inr (ifB (eqI y_3 1) (ifB (eqI (wrem (lenI x.2.2.2.2.2) 3) 0) (zi maxR (fun (x_1 : Int × List (Int × Int × Int)) => ifB (ltI x_1.1 (lenI x.2.2.2.2.2)) (ifB (ltL x_1.1 x.2.2.2.2.2) (z6 (atN x.2.2.2.2.2 (natI x_1.1)) fun y => ifB (ltL (wadd .i64 x_1.1 1) x.2.2.2.2.2) (z6 (atN x.2.2.2.2.2 (natI (wadd .i64 x_1.1 1))) fun y_4 => ifB (ltL (wadd .i64 x_1.1 2) x.2.2.2.2.2) (z6 (atN x.2.2.2.2.2 (natI (wadd .i64 x_1.1 2))) fun y_5 => ifB (zB 24 x_1.2 [(y, y_4, y_5)]) (some (Sum.inl (wadd .i64 x_1.1 3, cat x_1.2 [(y, y_4, y_5)]))) none) none) none) none) (mapO Sum.inr (z6 (zD (y_3, 0, 0, x_1.2)) fun y => ifB (neI y 0) (some ((0, 0, 0, []), y)) (some ((y_3, 0, 0, x_1.2), 0))))) (0, [])) (ifB (eqI y_3 2) (ifB (eqI (lenI x.2.2.2.2.2) 2) (ifB (ltL 0 x.2.2.2.2.2) (z6 (atN x.2.2.2.2.2 (natI 0)) fun y => ifB (ltL 1 x.2.2.2.2.2) (z6 (atN x.2.2.2.2.2 (natI 1)) fun y_4 => z6 (zD (y_3, y, y_4, [])) fun y_5 => ifB (neI y_5 0) (some ((0, 0, 0, []), y_5)) (some ((y_3, y, y_4, []), 0))) none) none) (ifB (eqI y_3 4) (ifB (eqI (lenI x.2.2.2.2.2) 1) (ifB (ltL 0 x.2.2.2.2.2) (z6 (atN x.2.2.2.2.2 (natI 0)) fun y => z6 (zD (y_3, 0, y, [])) fun y_4 => ifB (neI y_4 0) (some ((0, 0, 0, []), y_4)) (some ((y_3, 0, y, []), 0))) none) (some ((0, 0, 0, []), 1))) (some ((0, 0, 0, []), 1)))) (ifB (eqI y_3 3) (ifB (eqI (lenI x.2.2.2.2.2) 2) (ifB (ltL 0 x.2.2.2.2.2) (z6 (atN x.2.2.2.2.2 (natI 0)) fun y => ifB (ltL 1 x.2.2.2.2.2) (z6 (atN x.2.2.2.2.2 (natI 1)) fun y_4 => z6 (zD (y_3, y, y_4, [])) fun y_5 => ifB (neI y_5 0) (some ((0, 0, 0, []), y_5)) (some ((y_3, y, y_4, []), 0))) none) none) (ifB (eqI y_3 4) (ifB (eqI (lenI x.2.2.2.2.2) 1) (ifB (ltL 0 x.2.2.2.2.2) (z6 (atN x.2.2.2.2.2 (natI 0)) fun y => z6 (zD (y_3, 0, y, [])) fun y_4 => ifB (neI y_4 0) (some ((0, 0, 0, []), y_4)) (some ((y_3, 0, y, []), 0))) none) (some ((0, 0, 0, []), 1))) (some ((0, 0, 0, []), 1)))) (ifB (eqI y_3 4) (ifB (eqI (lenI x.2.2.2.2.2) 1) (ifB (ltL 0 x.2.2.2.2.2) (z6 (atN x.2.2.2.2.2 (natI 0)) fun y => z6 (zD (y_3, 0, y, [])) fun y_4 => ifB (neI y_4 0) (some ((0, 0, 0, []), y_4)) (some ((y_3, 0, y, []), 0))) none) (some ((0, 0, 0, []), 1))) (some ((0, 0, 0, []), 1)))))) (ifB (eqI y_3 2) (ifB (eqI (lenI x.2.2.2.2.2) 2) (ifB (ltL 0 x.2.2.2.2.2) (z6 (atN x.2.2.2.2.2 (natI 0)) fun y => ifB (ltL 1 x.2.2.2.2.2) (z6 (atN x.2.2.2.2.2 (natI 1)) fun y_4 => z6 (zD (y_3, y, y_4, [])) fun y_5 => ifB (neI y_5 0) (some ((0, 0, 0, []), y_5)) (some ((y_3, y, y_4, []), 0))) none) none) (ifB (eqI y_3 4) (ifB (eqI (lenI x.2.2.2.2.2) 1) (ifB (ltL 0 x.2.2.2.2.2) (z6 (atN x.2.2.2.2.2 (natI 0)) fun y => z6 (zD (y_3, 0, y, [])) fun y_4 => ifB (neI y_4 0) (some ((0, 0, 0, []), y_4)) (some ((y_3, 0, y, []), 0))) none) (some ((0, 0, 0, []), 1))) (some ((0, 0, 0, []), 1)))) (ifB (eqI y_3 3) (ifB (eqI (lenI x.2.2.2.2.2) 2) (ifB (ltL 0 x.2.2.2.2.2) (z6 (atN x.2.2.2.2.2 (natI 0)) fun y => ifB (ltL 1 x.2.2.2.2.2) (z6 (atN x.2.2.2.2.2 (natI 1)) fun y_4 => z6 (zD (y_3, y, y_4, [])) fun y_5 => ifB (neI y_5 0) (some ((0, 0, 0, []), y_5)) (some ((y_3, y, y_4, []), 0))) none) none) (ifB (eqI y_3 4) (ifB (eqI (lenI x.2.2.2.2.2) 1) (ifB (ltL 0 x.2.2.2.2.2) (z6 (atN x.2.2.2.2.2 (natI 0)) fun y => z6 (zD (y_3, 0, y, [])) fun y_4 => ifB (neI y_4 0) (some ((0, 0, 0, []), y_4)) (some ((y_3, 0, y, []), 0))) none) (some ((0, 0, 0, []), 1))) (some ((0, 0, 0, []), 1)))) (ifB (eqI y_3 4) (ifB (eqI (lenI x.2.2.2.2.2) 1) (ifB (ltL 0 x.2.2.2.2.2) (z6 (atN x.2.2.2.2.2 (natI 0)) fun y => z6 (zD (y_3, 0, y, [])) fun y_4 => ifB (neI y_4 0) (some ((0, 0, 0, []), y_4)) (some ((y_3, 0, y, []), 0))) none) (some ((0, 0, 0, []), 1))) (some ((0, 0, 0, []), 1)))))))) (0, 0, 0, 0, [], [])) none)
theorem z3F (x : PI j7) : yA x = fnE T z1J z1K z1I (zO Tryd.f10) j7 z0W x := by kernel_rfl
noncomputable abbrev z1L : GS := zI false j7 z0W fun x => yA x
theorem z3G : GSOK Tryd.prog 10 z1L := zC tok z6w fmo (Ht := z1K) (fn := Tryd.f10) (Tryd.func10) (c := z1I) (by kernel_rfl) (by kernel_rfl) (by kernel_rfl) (by decide +kernel) (by decide) z3F
end Go.Proofs.Y
namespace Go.Proofs.Y
open Go.Rb Go.Kx
noncomputable def z6x : Code := zq Tryd.f34
noncomputable def z6y : FuncId → Option GS := tabG []
theorem zaI : ΓOK Tryd.prog z6y := zu
def z6z : HT := ⟨tabL [(4, .it [] (dyn [.t 13 (.int .i64)]))], tabH []⟩
abbrev z1M : List IT := [.v (.one (.sl 56 (.cons (.int .i64) (.cons (.int .i64) (.one (.int .i64)))))) false, .v (.one (.sl 56 (.cons (.int .i64) (.cons (.int .i64) (.one (.int .i64)))))) false]
abbrev z54 : List OT := [⟨.one .bool, false, []⟩]
set_option maxRecDepth 100000
noncomputable def VI : List (Int × Int × Int) → List (Int × Int × Int) → Option Bool := fun a b => ifB (neI (lenI a) (lenI b)) (some false) (zi maxR (fun (x : Int) => ifB (ltI x (lenI a)) (z6 (atI a x) fun y => z6 (atI b x) fun y_1 => ifB (notB (eqL [y.1, y.2.1, y.2.2] [y_1.1, y_1.2.1, y_1.2.2])) (mapO Sum.inr (some false)) (some (Sum.inl (wadd .i64 x 1)))) (mapO Sum.inr (some true))) 0)
theorem z7x (x : PI z1M) : VI (x.1) (x.2) = fnE T z6y z6z z6x (zO Tryd.f34) z1M z54 x := by kernel_rfl
noncomputable abbrev z6A : GS := zI false z1M z54 fun x => VI (x.1) (x.2)
theorem z7y : GSOK Tryd.prog 34 z6A := zC tok zaI fmo (Ht := z6z) (fn := Tryd.f34) (Tryd.func34) (c := z6x) (by kernel_rfl) (by kernel_rfl) (by kernel_rfl) (by decide +kernel) (by decide) z7x
end Go.Proofs.Y
namespace Go.Proofs.Y
open Go.Rb Go.Kx
set_option maxRecDepth 100000
noncomputable def z2D : Int × Int × Int × List (Int × Int × Int) → Int × Int × Int × List (Int × Int × Int) → Option Bool := fun a b => ifB (eqI a.1 b.1) (ifB (eqI a.2.1 b.2.1) (ifB (eqI a.2.2.1 b.2.2.1) (z6 (VI a.2.2.2 b.2.2.2) fun y => some y) (some false)) (some false)) (some false)
end Go.Proofs.Y
namespace Go.Proofs.Y
open Go.Rb Go.Kx
set_option maxRecDepth 100000
end Go.Proofs.Y
namespace Go.Proofs.Y
open Go.Rb Go.Kx
set_option maxRecDepth 100000
end Go.Proofs.Y
namespace Go.Proofs.Y
open Go.Rb Go.Kx
theorem z1N (r : Rc) (hl : r.2.2.2.length < 4611686018427387904) : zD r = some (zk r) := by
 unfold zD zk
 have hloop : zi maxR (fun (x : Int) => ifB (ltI x (lenI (Prod.snd (Prod.snd (Prod.snd r))))) (z6 (atI (Prod.snd (Prod.snd (Prod.snd r))) x) fun (y : Int × Int × Int) =>
   ifB (ltI (Prod.fst y) 0) (mapO Sum.inr (some 3)) (ifB (geI (Prod.fst y) 4) (mapO Sum.inr (some 3)) (ifB (ltI (Prod.fst (Prod.snd y)) 0) (mapO Sum.inr (some 3)) (ifB (gtI (Prod.fst (Prod.snd y)) 100000) (mapO Sum.inr (some 3))
    (ifB (ltI (Prod.snd (Prod.snd y)) (-1000000)) (mapO Sum.inr (some 3)) (ifB (gtI (Prod.snd (Prod.snd y)) 1000000) (mapO Sum.inr (some 3)) (some (Sum.inl (wadd IntKind.i64 x 1))))))))) (mapO Sum.inr (some 0))) 0 = some (entE r.2.2.2) := by
  generalize r.2.2.2 = l at *
  refine Z9 l (fun j (_ : Unit) => (j : Int)) (G := fun rest _ => some (entE rest)) (P := fun _ _ => True) ?_ ?_ (s0 := ()) trivial (by omega)
  ·rintro j _ hj _ k hk
   have hat := ZT hj
   generalize l.getD j default = x at *
   simp only [ze, Zt, zm, zG]
   rw [zt, zf, if_pos (by omega), hat, z7, zt, yw, zt, Z0, zt, Z0, ZB (by omega), hk () trivial, entE]
   by_cases hb : YO x
   ·rw [if_pos hb]
    unfold YO at hb
    repeat' split
    all_goals first | rfl | (exfalso; omega)
   ·rw [if_neg hb]
    unfold YO at hb
    repeat' split
    all_goals first | rfl | (exfalso; omega)
  ·rintro _ _ k
   simp only [ze, zm]
   rw [zt, zf, if_neg (by omega)]; rfl
 rw [hloop]
 simp only [zt, Z0, zw, zA, yw, zf]
 repeat' split
 all_goals first | rfl | (exfalso; omega)
theorem z6B : ZX = some kindW := rfl
theorem zaJ (a : List (List UInt8)) (b : List UInt8) (h : a.length < 4611686018427387904) : jX a b = some (ixW a b 0) := by
 unfold jX
 refine Z9 a (fun j (_ : Int) => (j : Int)) (G := fun rest s => some (ixW rest b s)) (P := fun j s => s = (j : Int)) (s0 := (0 : Int)) ?_ ?_ rfl (by omega)
 ·rintro j s hj rfl k hk
  have hat := ZT hj
  generalize a.getD j default = x at *
  rw [ze, zm, zt, zf, if_pos (by omega), hat, Zt, z7, ze, zm, zG, yx, ZB (by omega), hk _ rfl, ixW]
  split
  ·rfl
  ·rfl
 ·rintro s rfl k
  rw [ze, zm, zt, zf, if_neg (by omega)]; rfl
theorem z0K (f : List UInt8 × Int → Option (Sum (List UInt8 × Int) (List UInt8 × Int))) (l : List Int) (w : List UInt8) (hl : l.length ≤ 30) (hb : ∀ n ∈ l, -1000000 ≤ n ∧ n ≤ 1000000) (hw : w.length ≤ 5)
  (hs : ∀ (j : Nat) (s : List UInt8), j < l.length → f (s, (j : Int)) = z6 (Zo (l.getD j default)) fun (y : List UInt8) => ifB (Ys [32] y) (ifB (Ys s (catS [32] y)) (some (Sum.inl (catS s (catS [32] y), wadd IntKind.i64 (j : Int) 1))) none) none)
  (he : ∀ s, f (s, (l.length : Int)) = some (Sum.inr (s, 0))) : zi maxR f (w, 0) = some (jn 32 (w :: l.map Lib.itoa), 0) := by
 have hh : ∀ n ∈ l, Zo n = some (Lib.itoa n) ∧ (Lib.itoa n).length ≤ 21 := fun n hn => by
  have := hb n hn
  exact ⟨by unfold Zo; rw [if_pos (by omega)], Lib.itoa_length_le n (by omega) (by omega)⟩
 have := Z9 l (fun j (s : List UInt8) => (s, (j : Int))) (f := f) (G := fun rest s => some (s ++ (rest.map fun n => 32 :: Lib.itoa n).flatten, 0)) (P := fun j s => s.length ≤ 5 + 22 * j) (s0 := w) ?_ ?_ (by omega) (by omega)
 ·rw [show ((0 : Nat) : Int) = 0 from rfl] at this
  rw [this]
  simp only [jn, List.map_map]; rfl
 ·intro j s hj hp k hk
  have hm : l.getD j default ∈ l := by simp [List.getD, List.getElem?_eq_getElem hj]
  obtain ⟨h1, h2⟩ := hh _ hm
  rw [hs j s hj, h1, z7]
  generalize l.getD j default = x at *
  rw [ZS, if_pos (by simp; omega), ZS, if_pos (by simp [catS]; omega), zG, ZB (by omega), hk _ (by simp [catS]; omega)]
  simp [catS]
 ·intro s _ k
  rw [he, yd]; simp
theorem zaK (r : Rc) (hl : r.2.2.2.length < 4611686018427387904) : yz r = some (jS r) := by
 unfold yz jS
 have hck : zD (Prod.fst r, Prod.fst (Prod.snd r), Prod.fst (Prod.snd (Prod.snd r)), Prod.snd (Prod.snd (Prod.snd r))) = some (zk r) := z1N r hl
 rw [hck, z7, zA]
 by_cases hc : zk r = 0
 ·rw [if_pos hc, if_pos hc]
  obtain ⟨k1, k2, k3, k4⟩ := ZD hc
  obtain ⟨a1, a2⟩ := z2l hc
  obtain ⟨_, _, hw⟩ := JA k1 k2
  have hat : atI kindW r.1 = some (kindW.getD r.1.toNat []) := by
   have : r.1 = 1 ∨ r.1 = 2 ∨ r.1 = 3 ∨ r.1 = 4 := by omega
   rcases this with h | h | h | h <;> rw [h] <;> rfl
  rw [z6B, z7]
  simp only [hat, z7]
  rw [zw]
  by_cases h1 : r.1 = 1
  ·rw [if_pos h1]
   have he : Zu r = zZ r.2.2.2 := by unfold Zu; rw [if_pos h1]
   have ht : Z2 r = jn 32 (kindW.getD r.1.toNat [] :: (zZ r.2.2.2).map Lib.itoa) := by unfold Z2; rw [he]
   rw [he] at a1 a2
   have hll := jT r.2.2.2
   rw [ht]
   generalize kindW.getD r.1.toNat [] = w at *
   generalize hle : r.2.2.2 = l at *
   refine Z9 l (fun j (s : List Int) => ((j : Int), s)) (G := fun rest s => if s ++ zZ rest = zZ l then some (jn 32 (w :: (zZ l).map Lib.itoa), 0) else none) (P := fun j s => s.length = 3 * j ∧ s ++ zZ (l.drop j) = zZ l) (s0 := []) ?_ ?_ ⟨rfl, rfl⟩ (by omega) |>.trans (by simp)
   ·rintro j s hj ⟨hp, hq⟩ k hk
    have hat := ZT hj
    have hd : l.drop j = l.getD j default :: l.drop (j + 1) := by rw [List.drop_eq_getElem_cons hj]; simp [List.getD, List.getElem?_eq_getElem hj]
    rw [hd] at hq
    generalize l.getD j default = x at *
    rw [ze, zm, zt, zf, if_pos (by omega), hat, Zt, z7, ze, yc, zG, zR, if_pos (by simp; omega), ZB (by omega)]
    simp only [ZG]
    have hq2 : (s ++ [x.1, x.2.1, x.2.2]) ++ zZ (l.drop (j + 1)) = zZ l := by rw [← hq, zZ]; simp
    rw [hk _ ⟨by simp; omega, hq2⟩, if_pos hq2, if_pos hq]
   ·rintro s ⟨hp, hq⟩ k
    rw [List.drop_length] at hq
    have hq' : s = zZ l := by simpa [zZ] using hq
    subst hq'
    rw [ze, zm, zt, zf, if_neg (by omega), if_pos hq]
    refine z0K _ (zZ l) w a1 a2 hw ?_ ?_
    ·intro j s hj
     simp only [yc, zG, yd, zm, vr, Zt, Zs, vj, vl, zt, vA, Z0, yw, zw, zA, zW, Vx, Vy, Vz, Zy, VA, vm, vn, vo, vp, vB, Y0, VB, zR, Ye, yI, ZS, yx, VC, vq, z7, yQ, Yf, Yg, zf, VD, ZG, ZI, Yh, VE, VF, vC, VG]
     have hat := z2k hj
     rw [if_pos (by omega), if_pos (by omega), show ((j : Int)).toNat = j by omega, hat, z7]
    ·intro s
     simp only [yc, zG, yd, zm, vr, Zt, Zs, vj, vl, zt, vA, Z0, yw, zw, zA, zW, Vx, Vy, Vz, Zy, VA, vm, vn, vo, vp, vB, Y0, VB, zR, Ye, yI, ZS, yx, VC, vq, z7, yQ, Yf, Yg, zf, VD, ZG, ZI, Yh, VE, VF, vC, VG]
     rw [if_neg (by omega)]
  ·rw [if_neg h1, zw]
   by_cases h4 : r.1 = 4
   ·rw [if_pos h4]
    have he : Zu r = [r.2.2.1] := by unfold Zu; rw [if_neg h1, if_pos h4]
    have ht : Z2 r = jn 32 (kindW.getD r.1.toNat [] :: [r.2.2.1].map Lib.itoa) := by unfold Z2; rw [he]
    rw [he] at a1 a2
    rw [ht, Zy, if_pos ⟨by omega, by simp⟩]
    refine z0K _ [r.2.2.1] _ a1 a2 hw ?_ ?_
    ·intro j s hj
     have : j = 0 := by simpa using hj
     subst this
     rfl
    ·intro s; rfl
   ·rw [if_neg h4]
    have he : Zu r = [r.2.1, r.2.2.1] := by unfold Zu; rw [if_neg h1, if_neg h4]
    have ht : Z2 r = jn 32 (kindW.getD r.1.toNat [] :: [r.2.1, r.2.2.1].map Lib.itoa) := by unfold Z2; rw [he]
    rw [he] at a1 a2
    rw [ht]
    refine z0K _ [r.2.1, r.2.2.1] _ a1 a2 hw ?_ ?_
    ·intro j s hj
     have : j = 0 ∨ j = 1 := by simp at hj; omega
     rcases this with rfl | rfl <;> rfl
    ·intro s; rfl
 ·rw [if_neg hc, if_neg hc]
end Go.Proofs.Y
namespace Go.Proofs.Y
open Go.Rb Go.Kx
theorem z4i (c : UInt8) : ∀ l, ∀ w ∈ sp c l, w.length ≤ l.length
 | [], w, hw => by simp [sp] at hw; subst hw; simp
 | b :: l, w, hw => by
  have ih := z4i c l
  have hn := Yz c l
  unfold sp at hw
  split at hw
  ·rcases List.mem_cons.1 hw with rfl | hw
   ·simp
   ·have := ih w hw; simp; omega
  ·split at hw
   ·rename_i h2; exact absurd h2 hn
   ·rename_i v r h2
    rw [h2] at ih
    rcases List.mem_cons.1 hw with rfl | hw
    ·have := ih v (by simp); simp; omega
    ·have := ih w (by simp [hw]); simp; omega
def endP (k : Int) (ns : List Int) : Rc × Int := match ye k ns with
 | none => (ZL, 1)
 | some r => if zk r = 0 then (r, 0) else (ZL, zk r)
theorem z55 (w : List UInt8) (xs : List (List UInt8)) : z1u w xs = match nums xs with | none => (ZL, 1) | some ns => endP (ixW kindW w 0) ns := rfl
theorem z6C : ∀ (n : Nat) (l : List Int), l.length = 3 * n → (trip l).length = n
 | 0, l, h => by have := List.eq_nil_of_length_eq_zero (show l.length = 0 by omega); subst this; rfl
 | n + 1, l, h => by
  match l, h with
  | a :: b :: c :: r, h => rw [trip, List.length_cons, z6C n r (by simp at h; omega)]
  | [], h => simp at h
  | [_], h => simp at h; omega
  | [_, _], h => simp at h; omega
theorem z6D : ∀ (n : Nat) (l : List Int) (j : Nat), l.length = 3 * n → j < n → (trip l).getD j default = (l.getD (3 * j) default, l.getD (3 * j + 1) default, l.getD (3 * j + 2) default)
 | 0, l, j, h, hj => by omega
 | n + 1, l, j, h, hj => by
  match l, h with
  | a :: b :: c :: r, h =>
   rw [trip]
   cases j with
   | zero => rfl
   | succ j =>
    have := z6D n r j (by simp at h; omega) (by omega)
    rw [show 3 * (j + 1) = 3 * j + 3 by omega]
    simpa [List.getD] using this
  | [], h => simp at h
  | [_], h => simp at h; omega
  | [_, _], h => simp at h; omega
theorem zb9 (n : Nat) : wrem (n : Int) 3 = ((n % 3 : Nat) : Int) := by unfold wrem; rw [Int.tmod_eq_emod_of_nonneg (by omega)]; omega
theorem z6E (r : Rc) (hl : r.2.2.2.length < 4611686018427387904) : (z6 (zD r) fun (y : Int) => ifB (neI y 0) (some (((0, 0, 0, []) : Rc), y)) (some (r, (0 : Int)))) = some (if zk r = 0 then (r, 0) else (ZL, zk r)) := by
 rw [z1N r hl, z7, zA]
 split
 ·rfl
 ·rfl
theorem zaL (s : List UInt8) : yA s = some (Z4 s) := by
 unfold yA Z4
 rw [Z0, zf]
 by_cases hlen : 60000 < s.length
 ·rw [if_pos (by omega), if_pos hlen]; rfl
 ·rw [if_neg (by omega), if_neg hlen]
  have hsp : jJ s [32] = some (sp 32 s) := by unfold jJ; rw [if_pos ⟨by omega, by simp⟩, z7r]
  rw [hsp, z7, z6B, z7]
  have hwl := z4i 32 s
  have hsl := z3w 32 s
  have hne := Yz 32 s
  generalize sp 32 s = ws at *
  cases ws with
  | nil => exact absurd rfl hne
  | cons w xs =>
  rw [show atI (w :: xs) 0 = some w from rfl, z7, zaJ kindW w (by decide), z7, z55]
  simp only [List.headD_cons, List.tail_cons]
  generalize ixW kindW w 0 = q
  rw [Zy, if_pos ⟨by omega, by simp; omega⟩]
  simp only [show ji (w :: xs) 1 = xs from rfl]
  have hxl : xs.length ≤ 60000 := by simp at hsl; omega
  have hxw : ∀ x ∈ xs, x.length ≤ 60000 := fun x hx => by have := hwl x (by simp [hx]); omega
  refine (Z9 xs (fun j (a : List Int) => ((j : Int), 0, 0, 0, [], a)) (G := fun rest a => some (match nums rest with | none => (ZL, 1) | some ns => endP q (a ++ ns))) (P := fun j a => a.length = j) (s0 := []) ?_ ?_ rfl (by omega)).trans ?_
  ·intro j a hj hp k hk
   have hat := ZT hj
   have hm : xs.getD j default ∈ xs := by simp [List.getD, List.getElem?_eq_getElem hj]
   have hx := hxw _ hm
   generalize xs.getD j default = x at *
   rw [ze, zt, zf, if_pos (by omega), hat, z7]
   have ha : z0s x = some (endO (Lib.atoiAll x) (Lib.atoiSat x)) := by unfold z0s; rw [if_pos (by omega)]
   rw [ha, z7, nums]
   rcases hv : Lib.atoiAll x with v | _ | _
   ·have hb := Lib.atoiAll_bounds hv
    have hi : Zo v = some (Lib.itoa v) := by unfold Zo; rw [if_pos hb]
    simp only [endO]
    rw [vj, hi, z7, ze, zW, yx]
    by_cases he : Lib.itoa v = x
    ·rw [if_pos he, if_pos he, ze, zR, if_pos (by simp; omega), zG, ZB (by omega)]
     simp only [ZG]
     rw [hk _ (by simp; omega)]
     cases nums (xs.drop (j + 1)) with
     | none => rfl
     | some ns => simp
    ·rw [if_neg he, if_neg he]; rfl
   ·rfl
   ·rfl
  ·intro a hp k
   have hal : a.length ≤ 60000 := by omega
   clear hp hxw hwl
   rw [ze, zm, zt, zf, if_neg (by omega)]
   simp only [nums, List.append_nil]
   rw [zw]
   by_cases h1 : q = 1
   ·subst h1
    rw [if_pos rfl, zw, zf, zb9]
    by_cases h3 : a.length % 3 = 0
    ·rw [if_pos (by omega)]
     have hn : a.length = 3 * (a.length / 3) := by omega
     have htl := z6C _ a hn
     have he : endP 1 a = if zk (1, 0, 0, trip a) = 0 then ((1, 0, 0, trip a), 0) else (ZL, zk (1, 0, 0, trip a)) := by unfold endP ye; rw [if_pos rfl, if_pos h3]
     rw [he]
     refine (Z9 (trip a) (fun j (es : List Ent) => (((3 * j : Nat) : Int), es)) (G := fun rest es => some (if zk (1, 0, 0, es ++ rest) = 0 then (((1, 0, 0, es ++ rest) : Rc), 0) else (ZL, zk (1, 0, 0, es ++ rest)))) (P := fun j es => es.length = j) (s0 := []) ?_ ?_ rfl (by omega)).trans (by simp)
     ·intro j es hj hp k hk
      rw [htl] at hj
      have hg := z6D _ a j hn hj
      rw [hg]
      have e0 := z2k (show 3 * j < a.length by omega)
      have e1 := z2k (show 3 * j + 1 < a.length by omega)
      have e2 := z2k (show 3 * j + 2 < a.length by omega)
      generalize a.getD (3 * j) default = x0 at *
      generalize a.getD (3 * j + 1) default = x1 at *
      generalize a.getD (3 * j + 2) default = x2 at *
      have w1 : wadd .i64 ((3 * j : Nat) : Int) 1 = ((3 * j + 1 : Nat) : Int) := by rw [yy ⟨by omega, by omega⟩]; rfl
      have w2 : wadd .i64 ((3 * j : Nat) : Int) 2 = ((3 * j + 2 : Nat) : Int) := by rw [yy ⟨by omega, by omega⟩]; rfl
      have w3 : wadd .i64 ((3 * j : Nat) : Int) 3 = ((3 * (j + 1) : Nat) : Int) := by rw [yy ⟨by omega, by omega⟩]; omega
      rw [ze, zt, if_pos (show ((3 * j : Nat) : Int) < a.length by omega)]
      simp only [w1, w2, w3, vC, Int.toNat_natCast]
      rw [ze, Y0, if_pos (by omega), e0, z7, ze, Y0, if_pos (by omega), e1, z7, ze, Y0, if_pos (by omega), e2, z7, ze, zR, if_pos (by simp; omega), zG]
      simp only [ZG]
      rw [hk _ (by simp; omega)]
      simp
     ·intro es hp k
      rw [ze, zm, zt, if_neg (show ¬ ((3 * (trip a).length : Nat) : Int) < a.length by omega), List.append_nil]
      exact z6E (1, 0, 0, es) (by simp; omega)
    ·rw [if_neg (by omega)]
     unfold endP ye
     rw [if_pos rfl, if_neg h3]
     rfl
   ·rw [if_neg h1]
    by_cases h2 : a.length = 2
    ·match a, h2 with
     | [x, y], _ =>
      have c2 := z6E (q, x, y, []) (by simp)
      rw [zw, zw]
      by_cases k2 : q = 2
      ·rw [if_pos k2]
       have : endP q [x, y] = if zk (q, x, y, []) = 0 then ((q, x, y, []), 0) else (ZL, zk (q, x, y, [])) := by unfold endP ye; rw [if_neg h1, if_pos (.inl k2)]
       rw [this]
       exact c2
      ·rw [if_neg k2, zw]
       by_cases k3 : q = 3
       ·rw [if_pos k3]
        have : endP q [x, y] = if zk (q, x, y, []) = 0 then ((q, x, y, []), 0) else (ZL, zk (q, x, y, [])) := by unfold endP ye; rw [if_neg h1, if_pos (.inr k3)]
        rw [this]
        exact c2
       ·rw [if_neg k3, zw]
        unfold endP ye
        rw [if_neg h1, if_neg (show ¬ (q = 2 ∨ q = 3) by omega)]
        by_cases k4 : q = 4
        ·rw [if_pos k4, if_pos k4]; rfl
        ·rw [if_neg k4, if_neg k4]; rfl
    ·have g2 : ¬ (lenI a = 2) := by rw [zf]; omega
     have r2 : ∀ k : Int, (k = 2 ∨ k = 3) → ye k a = none := by
      intro k hk
      unfold ye
      rw [if_neg (by omega), if_pos hk]
      match a, h2 with
      | [], _ => rfl
      | [_], _ => rfl
      | _ :: _ :: _ :: _, _ => rfl
     simp only [zw, if_neg g2]
     by_cases k4 : q = 4
     ·subst k4
      by_cases l1 : a.length = 1
      ·match a, l1 with
       | [x], _ => exact z6E (4, 0, x, []) (by simp)
      ·have g1 : ¬ (lenI a = 1) := by rw [zf]; omega
       have : endP 4 a = (ZL, 1) := by
        unfold endP ye
        rw [if_neg (by omega), if_neg (by omega), if_pos rfl]
        match a, l1 with
        | [], _ => rfl
        | _ :: _ :: _, _ => rfl
       rw [this]
       simp only [if_neg g1]
       rfl
     ·simp only [if_neg k4]
      have : endP q a = (ZL, 1) := by
       unfold endP
       by_cases hk : q = 2 ∨ q = 3
       ·rw [r2 q hk]
       ·unfold ye; rw [if_neg h1, if_neg hk, if_neg k4]
      rw [this]
      split
      ·rfl
      ·split <;> rfl
  ·cases nums xs <;> rfl
theorem z7z (a b : Rc) (h : a.2.2.2.length < 4611686018427387904) : z2D a b = some (decide (a = b)) := by
 unfold z2D
 have he : VI a.2.2.2 b.2.2.2 = some (decide (a.2.2.2 = b.2.2.2)) := by
  unfold VI
  refine z50 (fun y y_1 => eqL [Prod.fst y, Prod.fst (Prod.snd y), Prod.snd (Prod.snd y)] [Prod.fst y_1, Prod.fst (Prod.snd y_1), Prod.snd (Prod.snd y_1)]) ?_ _ _ h
  rintro ⟨x1, x2, x3⟩ ⟨y1, y2, y3⟩
  simp [eqL]
 obtain ⟨a1, a2, a3, a4⟩ := a
 obtain ⟨b1, b2, b3, b4⟩ := b
 simp only at he
 simp only [he, z7, zw]
 by_cases h1 : a1 = b1
 ·by_cases h2 : a2 = b2
  ·by_cases h3 : a3 = b3
   ·simp [h1, h2, h3]
   ·simp [h1, h2, h3]
  ·simp [h1, h2]
 ·simp [h1]
end Go.Proofs.Y
namespace Go.Proofs.Y
open Go.Rb Go.Kx
noncomputable abbrev z8Y : GS := .r (libS [.v (.one .str) false, .v (.one .str) false] (fun x => cutO (x.1) (x.2)) gCut)
theorem z6F : GSOK Tryd.prog 41 z8Y := zc7
end Go.Proofs.Y
namespace Go.Proofs.Y
open Go.Rb Go.Kx
noncomputable def z1O : Code := zq Tryd.f46
noncomputable def z1P : FuncId → Option GS := tabG [(41, z8Y), (10, z1L)]
theorem z6G : ΓOK Tryd.prog z1P := za (z6F) (za (z3G) (zu))
def z1Q : HT := ⟨tabL [(3, .it [] (dyn [.t 0 (.str), .a 7 24 (.cons (.int .i64) (.cons (.int .i64) (.cons (.int .i64) (.one (.sl 56 (.cons (.int .i64) (.cons (.int .i64) (.one (.int .i64)))))))))]))], tabH []⟩
abbrev j8 : List IT := [.v (.one .str) false, .v (.one (.int .i64)) false]
abbrev z0X : List OT := [⟨.one (.sl 24 (.cons (.int .i64) (.cons (.int .i64) (.cons (.int .i64) (.one (.sl 56 (.cons (.int .i64) (.cons (.int .i64) (.one (.int .i64)))))))))), false, [true]⟩, ⟨.one (.int .i64), false, []⟩, ⟨.one (.int .i64), false, []⟩]
set_option maxRecDepth 100000
noncomputable def ZY : List UInt8 → Int → Option (List (Int × Int × Int × List (Int × Int × Int)) × Int × Int) := fun a b => zi maxR (fun (x : List UInt8 × List (Int × Int × Int × List (Int × Int × Int))) => ifB (notB (eqS x.1 [])) (z6 (cutO x.1 [10]) fun y => ifB (notB y.2.2) (mapO Sum.inr (some (x.2, wsub .i64 (lenI a) (lenI x.1), 8))) (z6 (yA y.1) fun y_1 => ifB (neI y_1.2 0) (mapO Sum.inr (some (x.2, wsub .i64 (lenI a) (lenI x.1), y_1.2))) (ifB (eqI (lenI x.2) b) (mapO Sum.inr (some (x.2, wsub .i64 (lenI a) (lenI x.1), 2))) (ifB (zB 48 x.2 [(y_1.1.1, y_1.1.2.1, y_1.1.2.2.1, y_1.1.2.2.2)]) (some (Sum.inl (y.2.1, cat x.2 [(y_1.1.1, y_1.1.2.1, y_1.1.2.2.1, y_1.1.2.2.2)]))) none)))) (mapO Sum.inr (some (x.2, lenI a, 0)))) (a, [])
theorem z3H (x : PI j8) : ZY (x.1) (x.2) = fnE T z1P z1Q z1O (zO Tryd.f46) j8 z0X x := by kernel_rfl
noncomputable abbrev jY : GS := zI false j8 z0X fun x => ZY (x.1) (x.2)
theorem JF : GSOK Tryd.prog 46 jY := zC tok z6G fmo (Ht := z1Q) (fn := Tryd.f46) (Tryd.func46) (c := z1O) (by kernel_rfl) (by kernel_rfl) (by kernel_rfl) (by decide +kernel) (by decide) z3H
end Go.Proofs.Y
namespace Go.Proofs.Y
open Go.Rb Go.Kx
noncomputable def z1R : Code := zq Tryd.f26
noncomputable def z1S : FuncId → Option GS := tabG [(46, jY)]
theorem z6H : ΓOK Tryd.prog z1S := za (JF) (zu)
def z1T : HT := ⟨tabL [], tabH []⟩
abbrev j9 : List IT := [.v (.cons (.sl 5 (.one (.int .u8))) (.one (.sl 5 (.one (.int .u8))))) true]
abbrev z0Y : List OT := [⟨.one (.int .i64), false, []⟩]
set_option maxRecDepth 100000
noncomputable def Z5 : List Int × List Int → Option Int := fun a => ifB (gtI (lenI a.1) 60000) (some 2) (ifB (gtI (lenI a.2) (wsub .i64 60000 (lenI a.1))) (some 2) (z6 (ZY (strB a.1) 60) fun y => some y.2.2))
theorem z3I (x : PI j9) : Z5 x = fnE T z1S z1T z1R (zO Tryd.f26) j9 z0Y x := by kernel_rfl
noncomputable abbrev yB : GS := zI false j9 z0Y fun x => Z5 x
theorem yh : GSOK Tryd.prog 26 yB := zC tok z6H fmo (Ht := z1T) (fn := Tryd.f26) (Tryd.func26) (c := z1R) (by kernel_rfl) (by kernel_rfl) (by kernel_rfl) (by decide +kernel) (by decide) z3I
end Go.Proofs.Y
namespace Go.Proofs.Y
open Go.Rb Go.Kx
noncomputable def z6I : Code := zq Tryd.f62
noncomputable def z6J : FuncId → Option GS := tabG []
theorem zaM : ΓOK Tryd.prog z6J := zu
def z6K : HT := ⟨tabL [], tabH []⟩
noncomputable def z6L : GS := inl T z6J z6K z6I (zO Tryd.f62) (Tryd.f62.ntmps)
theorem z7A : GSOK Tryd.prog 62 z6L := z3r tok zaM fmo (Ht := z6K) (fn := Tryd.f62) (Tryd.func62) (c := z6I) (by kernel_rfl) (by kernel_rfl) (by kernel_rfl)
end Go.Proofs.Y
namespace Go.Proofs.Y
open Go.Rb Go.Kx
noncomputable def z3J : Code := zq Tryd.f45
noncomputable def z3K : FuncId → Option GS := tabG [(62, z6L)]
theorem z8Z : ΓOK Tryd.prog z3K := za (z7A) (zu)
def z3L : HT := ⟨tabL [(3, .it [] (dyn [.t 3 (.int .i64), .t 11 (.int .i64)])), (11, .it [] (dyn [.a 6 5 (.one (.int .u8)), .t 27 (.int .i64)]))], tabH [(10, [.trim 6])]⟩
abbrev JM : List IT := [.v (.one (.sl 35 (.one (.sl 5 (.one (.int .u8)))))) false]
abbrev z2E : List OT := [⟨.one (.sl 5 (.one (.int .u8))), false, []⟩]
set_option maxRecDepth 100000
noncomputable def ZE : List (List Int) → Option (List Int) := fun a => zi maxR (fun (x : Int × Int) => ifB (ltI x.2 (lenI a)) (z6 (atI a x.2) fun y => ifB (ltI (wadd .i64 x.1 (lenI y)) 0) none (some (Sum.inl (wadd .i64 x.1 (lenI y), wadd .i64 x.2 1)))) (mapO Sum.inr (ifB (ltI x.1 0) none (ifB (gtI (wsub .i64 x.1 (wsub .i64 0 0)) 0) (ifB (jj 1 (wsub .i64 x.1 (wsub .i64 0 0))) (ifB (in1 (repI (wsub .i64 x.1 (wsub .i64 0 0)) 0) 0) (ifB (inN (repI (wsub .i64 x.1 (wsub .i64 0 0)) 0) 0 (natI 0)) (zi maxR (fun (x : Int × List Int) => ifB (ltI x.1 (lenI a)) (z6 (atI a x.1) fun y => ifB (zB 1 x.2 y) (some (Sum.inl (wadd .i64 x.1 1, cat x.2 y))) none) (mapO Sum.inr (some x.2))) (0, subN (repI (wsub .i64 x.1 (wsub .i64 0 0)) 0) 0 (natI 0))) none) none) none) (zi maxR (fun (x : Int × List Int) => ifB (ltI x.1 (lenI a)) (z6 (atI a x.1) fun y => ifB (zB 1 x.2 y) (some (Sum.inl (wadd .i64 x.1 1, cat x.2 y))) none) (mapO Sum.inr (some x.2))) (0, [])))))) (0, 0)
theorem z5i (x : PI JM) : ZE x = fnE T z3K z3L z3J (zO Tryd.f45) JM z2E x := by kernel_rfl
noncomputable abbrev YB : GS := zI false JM z2E fun x => ZE x
theorem yW : GSOK Tryd.prog 45 YB := zC tok z8Z fmo (Ht := z3L) (fn := Tryd.f45) (Tryd.func45) (c := z3J) (by kernel_rfl) (by kernel_rfl) (by kernel_rfl) (by decide +kernel) (by decide) z5i
end Go.Proofs.Y
namespace Go.Proofs.Y
open Go.Rb Go.Kx
noncomputable def z0d : Code := zq Tryd.f21
noncomputable def z0e : FuncId → Option GS := tabG [(26, yB), (46, jY), (45, YB)]
theorem z4j : ΓOK Tryd.prog z0e := za (yh) (za (JF) (za (yW) (zu)))
def z0f : HT := ⟨tabL [], tabH []⟩
abbrev V3 : List IT := [.v (.cons (.sl 5 (.one (.int .u8))) (.one (.sl 5 (.one (.int .u8))))) true]
abbrev JG : List OT := [⟨.cons (.sl 5 (.one (.int .u8))) (.one (.sl 5 (.one (.int .u8)))), true, []⟩, ⟨.one (.sl 24 (.cons (.int .i64) (.cons (.int .i64) (.cons (.int .i64) (.one (.sl 56 (.cons (.int .i64) (.cons (.int .i64) (.one (.int .i64)))))))))), false, []⟩, ⟨.one (.int .i64), false, []⟩]
set_option maxRecDepth 100000
noncomputable def ZU : List Int × List Int → Option ((List Int × List Int) × List (Int × Int × Int × List (Int × Int × Int)) × Int) := fun a => z6 (Z5 (a.1, a.2)) fun y => ifB (neI y 0) (some (([], []), [], y)) (z6 (ZY (strB a.1) 60) fun y => z6 (ZY (strB a.2) (wsub .i64 60 (lenI y.1))) fun y_1 => ifB (in1 a.2 y_1.2.1) (z6 (ZE [a.1, Yt a.2 y_1.2.1]) fun y_2 => ifB (zB 48 y.1 y_1.1) (some ((y_2, []), cat y.1 y_1.1, 0)) none) none)
theorem z2o (x : PI V3) : ZU x = fnE T z0e z0f z0d (zO Tryd.f21) V3 JG x := by kernel_rfl
noncomputable abbrev VJ : GS := zI false V3 JG fun x => ZU x
theorem jf : GSOK Tryd.prog 21 VJ := zC tok z4j fmo (Ht := z0f) (fn := Tryd.f21) (Tryd.func21) (c := z0d) (by kernel_rfl) (by kernel_rfl) (by kernel_rfl) (by decide +kernel) (by decide) z2o
end Go.Proofs.Y
namespace Go.Proofs.Y
open Go.Rb Go.Kx
noncomputable def z2F : Code := zq Tryd.f18
noncomputable def z2G : FuncId → Option GS := tabG [(26, yB), (45, YB)]
theorem z7B : ΓOK Tryd.prog z2G := za (yh) (za (yW) (zu))
def z2H : HT := ⟨tabL [], tabH []⟩
abbrev jZ : List IT := [.v (.cons (.sl 5 (.one (.int .u8))) (.one (.sl 5 (.one (.int .u8))))) true]
abbrev z1U : List OT := [⟨.cons (.sl 5 (.one (.int .u8))) (.one (.sl 5 (.one (.int .u8)))), true, []⟩, ⟨.one (.int .i64), false, []⟩]
set_option maxRecDepth 100000
noncomputable def Y1 : List Int × List Int → Option ((List Int × List Int) × Int) := fun a => z6 (Z5 (a.1, a.2)) fun y => ifB (neI y 0) (some (([], []), y)) (z6 (ZE [a.1, a.2]) fun y => z6 (Z5 (y, [])) fun y_1 => ifB (neI y_1 0) (some (([], []), y_1)) (some ((y, []), 0)))
theorem z4k (x : PI jZ) : Y1 x = fnE T z2G z2H z2F (zO Tryd.f18) jZ z1U x := by kernel_rfl
noncomputable abbrev JN : GS := zI false jZ z1U fun x => Y1 x
theorem z0g : GSOK Tryd.prog 18 JN := zC tok z7B fmo (Ht := z2H) (fn := Tryd.f18) (Tryd.func18) (c := z2F) (by kernel_rfl) (by kernel_rfl) (by kernel_rfl) (by decide +kernel) (by decide) z4k
end Go.Proofs.Y
namespace Go.Proofs.Y
open Go.Rb Go.Kx
noncomputable def z56 : Code := zq Tryd.f44
noncomputable def z57 : FuncId → Option GS := tabG []
theorem z9U : ΓOK Tryd.prog z57 := zu
def z58 : HT := ⟨tabL [], tabH []⟩
abbrev z0L : List IT := [.v (.one (.sl 5 (.one (.int .u8)))) false]
abbrev z3M : List OT := [⟨.one (.sl 5 (.one (.int .u8))), false, [true]⟩]
set_option maxRecDepth 100000
noncomputable def yJ : List Int → Option (List Int) := fun a => ifB (isE a) (ambO (some []) (ifB (zB 1 [] a) (some (cat [] a)) none)) (ifB (zB 1 [] a) (some (cat [] a)) none)
theorem z6M (x : PI z0L) : yJ x = fnE T z57 z58 z56 (zO Tryd.f44) z0L z3M x := by kernel_rfl
noncomputable abbrev z1V : GS := zI false z0L z3M fun x => yJ x
theorem z1W : GSOK Tryd.prog 44 z1V := zC tok z9U fmo (Ht := z58) (fn := Tryd.f44) (Tryd.func44) (c := z56) (by kernel_rfl) (by kernel_rfl) (by kernel_rfl) (by decide +kernel) (by decide) z6M
end Go.Proofs.Y
namespace Go.Proofs.Y
open Go.Rb Go.Kx
noncomputable def z3N : Code := zq Tryd.f17
noncomputable def z3O : FuncId → Option GS := tabG [(26, yB), (7, z1G), (44, z1V)]
theorem z90 : ΓOK Tryd.prog z3O := za (yh) (za (z3E) (za (z1W) (zu)))
def z3P : HT := ⟨tabL [], tabH []⟩
abbrev JO : List IT := [.v (.cons (.sl 5 (.one (.int .u8))) (.one (.sl 5 (.one (.int .u8))))) true, .v (.cons (.int .i64) (.cons (.int .i64) (.cons (.int .i64) (.one (.sl 56 (.cons (.int .i64) (.cons (.int .i64) (.one (.int .i64))))))))) true]
abbrev z2I : List OT := [⟨.cons (.sl 5 (.one (.int .u8))) (.one (.sl 5 (.one (.int .u8)))), true, []⟩, ⟨.one (.int .i64), false, []⟩]
set_option maxRecDepth 100000
noncomputable def yi : List Int × List Int → Int × Int × Int × List (Int × Int × Int) → Option ((List Int × List Int) × Int) := fun a b => z6 (Z5 (a.1, a.2)) fun y => ifB (neI y 0) (some (([], []), y)) (z6 (yz (b.1, b.2.1, b.2.2.1, b.2.2.2)) fun y => ifB (neI y.2 0) (some (([], []), y.2)) (ifB (gtI (wadd .i64 (lenI y.1) 1) (wsub .i64 (wsub .i64 60000 (lenI a.1)) (lenI a.2))) (some (([], []), 2)) (z6 (yJ a.1) fun y_1 => z6 (yJ a.2) fun y_2 => ifB (zB 1 y_2 (bytB y.1)) (ifB (zB 1 (cat y_2 (bytB y.1)) [10]) (some ((y_1, cat (cat y_2 (bytB y.1)) [10]), 0)) none) none)))
theorem z5j (x : PI JO) : yi (x.1) (x.2) = fnE T z3O z3P z3N (zO Tryd.f17) JO z2I x := by kernel_rfl
noncomputable abbrev z0M : GS := zI false JO z2I fun x => yi (x.1) (x.2)
theorem z0Z : GSOK Tryd.prog 17 z0M := zC tok z90 fmo (Ht := z3P) (fn := Tryd.f17) (Tryd.func17) (c := z3N) (by kernel_rfl) (by kernel_rfl) (by kernel_rfl) (by decide +kernel) (by decide) z5j
end Go.Proofs.Y
namespace Go.Proofs.Y
open Go.Rb Go.Kx
noncomputable def z1X : Code := zq Tryd.f19
noncomputable def z1Y : FuncId → Option GS := tabG [(26, yB), (44, z1V)]
theorem z6N : ΓOK Tryd.prog z1Y := za (yh) (za (z1W) (zu))
def z1Z : HT := ⟨tabL [], tabH []⟩
abbrev ja : List IT := [.v (.cons (.sl 5 (.one (.int .u8))) (.one (.sl 5 (.one (.int .u8))))) true, .v (.one (.int .i64)) false]
abbrev z10 : List OT := [⟨.cons (.sl 5 (.one (.int .u8))) (.one (.sl 5 (.one (.int .u8)))), true, []⟩, ⟨.one (.int .i64), false, []⟩]
set_option maxRecDepth 100000
noncomputable def yC : List Int × List Int → Int → Option ((List Int × List Int) × Int) := fun a b => z6 (Z5 (a.1, a.2)) fun y => ifB (neI y 0) (some (([], []), y)) (ifB (ltI b 0) (some (([], []), 3)) (ifB (gtI b (lenI a.2)) (some (([], []), 3)) (z6 (yJ a.1) fun y => ifB (in1 a.2 b) (z6 (yJ (Yt a.2 b)) fun y_1 => some ((y, y_1), 0)) none)))
theorem z3Q (x : PI ja) : yC (x.1) (x.2) = fnE T z1Y z1Z z1X (zO Tryd.f19) ja z10 x := by kernel_rfl
noncomputable abbrev J0 : GS := zI false ja z10 fun x => yC (x.1) (x.2)
theorem JH : GSOK Tryd.prog 19 J0 := zC tok z6N fmo (Ht := z1Z) (fn := Tryd.f19) (Tryd.func19) (c := z1X) (by kernel_rfl) (by kernel_rfl) (by kernel_rfl) (by decide +kernel) (by decide) z3Q
end Go.Proofs.Y
namespace Go.Proofs.Y
open Go.Rb Go.Kx
noncomputable def z5a : Code := zq Tryd.f48
noncomputable def z5b : FuncId → Option GS := tabG []
theorem z9V : ΓOK Tryd.prog z5b := zu
def z5c : HT := ⟨tabL [(4, .it [] (dyn [.t 13 (.int .i64)]))], tabH []⟩
abbrev z0N : List IT := [.v (.one (.sl 5 (.one (.int .u8)))) false, .v (.one (.sl 5 (.one (.int .u8)))) false]
abbrev z3R : List OT := [⟨.one .bool, false, []⟩]
set_option maxRecDepth 100000
noncomputable def yK : List Int → List Int → Option Bool := fun a b => ifB (neI (lenI a) (lenI b)) (some false) (zi maxR (fun (x : Int) => ifB (ltI x (lenI a)) (z6 (atI a x) fun y => z6 (atI b x) fun y_1 => ifB (neI y y_1) (mapO Sum.inr (some false)) (some (Sum.inl (wadd .i64 x 1)))) (mapO Sum.inr (some true))) 0)
theorem z6O (x : PI z0N) : yK (x.1) (x.2) = fnE T z5b z5c z5a (zO Tryd.f48) z0N z3R x := by kernel_rfl
noncomputable abbrev z22 : GS := zI false z0N z3R fun x => yK (x.1) (x.2)
theorem z23 : GSOK Tryd.prog 48 z22 := zC tok z9V fmo (Ht := z5c) (fn := Tryd.f48) (Tryd.func48) (c := z5a) (by kernel_rfl) (by kernel_rfl) (by kernel_rfl) (by decide +kernel) (by decide) z6O
end Go.Proofs.Y
namespace Go.Proofs.Y
open Go.Rb Go.Kx
noncomputable def z2J : Code := zq Tryd.f24
noncomputable def z2K : FuncId → Option GS := tabG [(48, z22)]
theorem z7C : ΓOK Tryd.prog z2K := za (z23) (zu)
def z2L : HT := ⟨tabL [], tabH []⟩
abbrev J1 : List IT := [.v (.cons (.sl 5 (.one (.int .u8))) (.one (.sl 5 (.one (.int .u8))))) true, .v (.cons (.sl 5 (.one (.int .u8))) (.one (.sl 5 (.one (.int .u8))))) true]
abbrev z24 : List OT := [⟨.one .bool, false, []⟩]
set_option maxRecDepth 100000
noncomputable def YP : List Int × List Int → List Int × List Int → Option Bool := fun a b => z6 (yK a.1 b.1) fun y => ifB y (z6 (yK a.2 b.2) fun y => some y) (some false)
theorem z4l (x : PI J1) : YP (x.1) (x.2) = fnE T z2K z2L z2J (zO Tryd.f24) J1 z24 x := by kernel_rfl
noncomputable abbrev z2M : GS := zI false J1 z24 fun x => YP (x.1) (x.2)
theorem z4m : GSOK Tryd.prog 24 z2M := zC tok z7C fmo (Ht := z2L) (fn := Tryd.f24) (Tryd.func24) (c := z2J) (by kernel_rfl) (by kernel_rfl) (by kernel_rfl) (by decide +kernel) (by decide) z4l
end Go.Proofs.Y
namespace Go.Proofs.Y
open Go.Rb Go.Kx
set_option maxRecDepth 100000
noncomputable def J2 : Int → Int → Option Int := fun a b => ifB (eqI b 0) none (ifB (ltI (wrem a b) 0) (some (wadd .i64 (wrem a b) b)) (some (wrem a b)))
end Go.Proofs.Y
namespace Go.Proofs.Y
open Go.Rb Go.Kx
noncomputable def Vf : Code := zq Tryd.f15
noncomputable def Vg : FuncId → Option GS := tabG [(17, z0M), (18, JN), (19, J0), (21, VJ)]
theorem z12 : ΓOK Tryd.prog Vg := za (z0Z) (za (z0g) (za (JH) (za (jf) (zu))))
def Vh : HT := ⟨tabL [], tabH []⟩
abbrev yR : List IT := []
abbrev V4 : List OT := [⟨.one .bool, false, []⟩]
set_option maxRecDepth 100000
noncomputable def Zz : Option Bool :=  z6 (yi ([], []) (4, 0, 2, [])) fun y => z6 (Y1 (y.1.1, y.1.2)) fun y_1 => z6 (yi (y_1.1.1, y_1.1.2) (4, 0, 3, [])) fun y_2 => z6 (yC (y_2.1.1, y_2.1.2) 4) fun y_3 => z6 (ZU (y_3.1.1, y_3.1.2)) fun y_4 => ifB (eqI y.2 0) (ifB (eqI y_1.2 0) (ifB (eqI y_2.2 0) (ifB (eqI y_3.2 0) (ifB (eqI y_4.2.2 0) (ifB (eqS (strB y_4.1.1) [100, 114, 111, 112, 32, 50, 10]) (ifB (eqI (lenI y_4.1.2) 0) (ifB (eqI (lenI y_4.2.1) 1) (z6 (atI y_4.2.1 0) fun y => some (eqI y.2.2.1 2)) (some false)) (some false)) (some false)) (some false)) (some false)) (some false)) (some false)) (some false)
theorem JP (x : PI yR) : Zz  = fnE T Vg Vh Vf (zO Tryd.f15) yR V4 x := by kernel_rfl
noncomputable abbrev Vi : GS := zI false yR V4 fun x => Zz 
theorem JQ : GSOK Tryd.prog 15 Vi := zC tok z12 fmo (Ht := Vh) (fn := Tryd.f15) (Tryd.func15) (c := Vf) (by kernel_rfl) (by kernel_rfl) (by kernel_rfl) (by decide +kernel) (by decide) JP
end Go.Proofs.Y
namespace Go.Proofs.Y
open Go.Rb Go.Kx
theorem Yi (s : List UInt8) : strB (bytB s) = s := by
 unfold strB bytB
 rw [List.map_map]
 have : ((fun n : Int => UInt8.ofNat n.toNat) ∘ fun b : UInt8 => (b.toNat : Int)) = id := by
  funext b; simp
 rw [this, List.map_id]
theorem zJ (s : List UInt8) : (bytB s).length = s.length := by unfold bytB; rw [List.length_map]
theorem z6P (s t : List UInt8) : bytB (s ++ t) = bytB s ++ bytB t := by unfold bytB; rw [List.map_append]
theorem JI (s : List UInt8) (k : Nat) : (bytB s).take k = bytB (s.take k) := by unfold bytB; rw [List.map_take]
theorem zaN {s t : List UInt8} : bytB s = bytB t ↔ s = t := ⟨fun h => by rw [← Yi s, h, Yi], fun h => by rw [h]⟩
def bD (d : List UInt8 × List UInt8) : List Int × List Int := (bytB d.1, bytB d.2)
theorem z2Y (s : List UInt8) (most : Int) (hl : s.length ≤ 60000) : ZY s most = some (lnP most s) := by
 unfold ZY
 have key := jQ (f := fun (x : List UInt8 × List (Int × Int × Int × List (Int × Int × Int))) =>
   ifB (notB (eqS (Prod.fst x) []))
    (z6 (cutO (Prod.fst x) [10])
     fun (y : List UInt8 × List UInt8 × Bool) =>
     ifB (notB (Prod.snd (Prod.snd y))) (mapO Sum.inr (some (Prod.snd x, wsub IntKind.i64 (lenI s) (lenI (Prod.fst x)), 8)))
      (z6 (yA (Prod.fst y)) fun (y_1 : (Int × Int × Int × List (Int × Int × Int)) × Int) =>
       ifB (neI (Prod.snd y_1) 0) (mapO Sum.inr (some (Prod.snd x, wsub IntKind.i64 (lenI s) (lenI (Prod.fst x)), Prod.snd y_1)))
        (ifB (eqI (lenI (Prod.snd x)) most) (mapO Sum.inr (some (Prod.snd x, wsub IntKind.i64 (lenI s) (lenI (Prod.fst x)), 2)))
         (ifB
          (zB 48 (Prod.snd x)
           [(Prod.fst (Prod.fst y_1), Prod.fst (Prod.snd (Prod.fst y_1)), Prod.fst (Prod.snd (Prod.snd (Prod.fst y_1))),
             Prod.snd (Prod.snd (Prod.snd (Prod.fst y_1))))])
          (some
           (Sum.inl
            (Prod.fst (Prod.snd y),
             cat (Prod.snd x)
              [(Prod.fst (Prod.fst y_1), Prod.fst (Prod.snd (Prod.fst y_1)), Prod.fst (Prod.snd (Prod.snd (Prod.fst y_1))),
                Prod.snd (Prod.snd (Prod.snd (Prod.fst y_1))))])))
          none))))
    (mapO Sum.inr (some (Prod.snd x, lenI s, 0))))
  (G := fun x => some (lnW most s.length (sp 10 x.1) x.2)) (P := fun x => x.1.length + x.2.length ≤ s.length) (μ := fun x => x.1.length) ?_ maxR (s, []) (by simp) (by unfold maxR; simp only; omega)
 ·exact key
 ·rintro ⟨t, acc⟩ hp k hk
  simp only at hp hk ⊢
  have hw : wsub .i64 (lenI s) (lenI t) = (s.length : Int) - t.length := by rw [zf, zf, y9 ⟨by omega, by omega⟩]
  rw [ze, zW, yx]
  by_cases h0 : t = []
  ·subst h0
   rw [if_pos rfl, zm]
   rfl
  ·rw [if_neg h0, hw]
   have hc : cutO t [10] = some (Lib.cut t [10]) := by unfold cutO; rw [if_pos (by omega)]
   rw [hc, z7, ze, zm, zW]
   rcases z0I 10 t with hn | ⟨w, l, rfl, hn⟩
   ·rw [z2V hn]
    show some _ = _
    rw [z0c 10 hn, lnW, if_pos rfl, if_neg h0]
   ·rw [z2W hn]
    simp only [Zs]
    rw [zaL, z7, ze, zm, zA, ze, zm, zw, zf, jR 10 w l hn, lnW, if_neg (Yz 10 l), vD 10 w (Yz 10 l), Jy]
    split
    ·split
     ·rfl
     ·simp only [List.length_append, List.length_cons] at hp hk
      rw [ze, zG, zR, if_pos (by simp; omega)]
      simp only [ZG]
      exact hk _ (by simp; omega) (by simp only; omega)
    ·rfl
theorem yD (d : List UInt8 × List UInt8) (h1 : d.1.length < 4611686018427387904) (h2 : d.2.length < 4611686018427387904) : Z5 (bytB d.1, bytB d.2) = some (zE d) := by
 unfold Z5 zE
 simp only [zf, zJ, Z0, Yi]
 rw [y9 ⟨by omega, by omega⟩]
 by_cases k1 : 60000 < d.1.length
 ·rw [if_pos (by omega), if_pos k1]
 ·rw [if_neg (by omega), if_neg k1, z2Y _ _ (by omega), z7]
  by_cases k2 : 60000 - d.1.length < d.2.length
  ·rw [if_pos (by omega), if_pos k2]
  ·rw [if_neg (by omega), if_neg k2]
theorem ju (s : List UInt8) (h : s.length ≤ 60000) : yJ (bytB s) = some (bytB s) := by
 unfold yJ
 exact z9M 1 (bytB s) (by rw [zJ]; omega) (by rw [zJ]; omega)
theorem YQ (s t : List UInt8) (h : s.length + t.length ≤ 60000) : ZE [bytB s, bytB t] = some (bytB (s ++ t)) := by
 unfold ZE
 rw [z6P, ← z0J]
 refine z3y 1 0 [bytB s, bytB t] (by simp) (by omega) ?_ (by omega)
 rw [z0J, List.length_append, zJ, zJ]; omega
theorem z3S (s t : List UInt8) (h : s.length < 4611686018427387904) : yK (bytB s) (bytB t) = some (decide (s = t)) := by
 unfold yK
 have := z50 (fun x y : Int => !(neI x y)) (fun x y => by by_cases h : x = y <;> simp [neI, h]) (bytB s) (bytB t) (by rw [zJ]; exact h)
 simp only [notB, Bool.not_not] at this
 rw [this]
 congr 1
 exact decide_eq_decide.2 zaN
theorem z6Q (a b : List UInt8 × List UInt8) (h1 : a.1.length < 4611686018427387904) (h2 : a.2.length < 4611686018427387904) : YP (bytB a.1, bytB a.2) (bytB b.1, bytB b.2) = some (decide (a = b)) := by
 unfold YP
 rw [z3S _ _ h1, z7, z3S _ _ h2, z7]
 obtain ⟨a1, a2⟩ := a
 obtain ⟨b1, b2⟩ := b
 by_cases e1 : a1 = b1
 ·by_cases e2 : a2 = b2
  ·simp [e1, e2, Zs]
  ·simp [e1, e2, Zs]
 ·simp [e1, vj]
theorem z4n (d : List UInt8 × List UInt8) (r : Rc) (h1 : d.1.length < 4611686018427387904) (h2 : d.2.length < 4611686018427387904) (hl : r.2.2.2.length < 4611686018427387904) : yi (bytB d.1, bytB d.2) r = some (bD (dPut d r).1, (dPut d r).2) := by
 unfold yi dPut
 rw [yD d h1 h2, z7, zA]
 by_cases hc : zE d = 0
 ·have hlen := yg hc
  rw [if_pos hc, if_pos hc, show yz (Prod.fst r, Prod.fst (Prod.snd r), Prod.fst (Prod.snd (Prod.snd r)), Prod.snd (Prod.snd (Prod.snd r))) = some (jS r) from zaK r hl, z7, zA]
  unfold jS
  by_cases hr : zk r = 0
  ·have ht := JB hr
   simp only [if_pos hr, zf, zJ, Z0]
   rw [yy ⟨by omega, by omega⟩, y9 (a := 60000) ⟨by omega, by omega⟩, y9 ⟨by omega, by omega⟩]
   simp only [if_true]
   by_cases hf : 60000 - (d.1.length : Int) - d.2.length < (Z2 r).length + 1
   ·rw [if_pos hf, if_pos hf]; rfl
   ·rw [if_neg hf, if_neg hf, ju _ (by omega), z7, ju _ (by omega), z7, zR, if_pos (by rw [zJ, zJ]; omega), zR, if_pos (by rw [ZG, List.length_append, zJ, zJ]; simp; omega)]
    simp only [ZG, bD, VQ, z6P, List.append_assoc]
    rfl
  ·simp only [if_neg hr]; rfl
 ·rw [if_neg hc, if_neg hc]; rfl
theorem z6R (d : List UInt8 × List UInt8) (h1 : d.1.length < 4611686018427387904) (h2 : d.2.length < 4611686018427387904) : Y1 (bytB d.1, bytB d.2) = some (bD (YA d).1, (YA d).2) := by
 unfold Y1 YA
 rw [yD d h1 h2, z7, zA]
 by_cases hc : zE d = 0
 ·have hlen := yg hc
  rw [if_pos hc, if_pos hc]
  have e2 := yD (d.1 ++ d.2, []) (by simp; omega) (by simp)
  simp only at e2
  rw [YQ _ _ hlen, z7, show Z5 (bytB (d.1 ++ d.2), []) = some (zE (d.1 ++ d.2, [])) from e2, z7, zA]
  split <;> rfl
 ·rw [if_neg hc, if_neg hc]; rfl
theorem z5d (d : List UInt8 × List UInt8) (n : Int) (h1 : d.1.length < 4611686018427387904) (h2 : d.2.length < 4611686018427387904) : yC (bytB d.1, bytB d.2) n = some (bD (jU d n).1, (jU d n).2) := by
 unfold yC jU
 rw [yD d h1 h2, z7, zA]
 by_cases hc : zE d = 0
 ·have hlen := yg hc
  simp only [if_pos hc, zf, zJ, Z0, zt]
  by_cases k1 : n < 0
  ·rw [if_pos k1, if_pos (.inl k1)]; rfl
  ·rw [if_neg k1]
   by_cases k2 : (d.2.length : Int) < n
   ·rw [if_pos k2, if_pos (.inr k2)]; rfl
   ·rw [if_neg k2, if_neg (by omega), ju _ (by omega), z7, Zy, if_pos ⟨by omega, by rw [zJ]; omega⟩, ZI, JI, ju _ (by rw [List.length_take]; omega)]
    rfl
 ·rw [if_neg hc, if_neg hc]; rfl
theorem z2N (d : List UInt8 × List UInt8) (h1 : d.1.length < 4611686018427387904) (h2 : d.2.length < 4611686018427387904) : ZU (bytB d.1, bytB d.2) = some (bD (zF d).1, (zF d).2) := by
 unfold ZU zF
 rw [yD d h1 h2, z7, zA]
 by_cases hc : zE d = 0
 ·have hlen := yg hc
  have n1 := z8f 60 d.1
  have hm := zb8 (60 - ((lnP 60 d.1).1.length : Int)) d.2
  have n2 := z8f (60 - ((lnP 60 d.1).1.length : Int)) d.2
  rw [if_pos hc, if_pos hc]
  simp only [Yi]
  rw [z2Y _ _ (by omega), z7, zf, y9 ⟨by omega, by omega⟩, z2Y _ _ (by omega), z7, Zy, if_pos ⟨hm.1, by rw [zJ]; exact hm.2⟩, ZI, JI, YQ _ _ (by rw [List.length_take]; omega), z7, zR, if_pos (by omega)]
  rfl
 ·rw [if_neg hc, if_neg hc]; rfl
theorem at_some (a b : Int) (hb : 0 < b) (hb2 : b ≤ 4611686018427387904) : ∃ n, J2 a b = some n ∧ 0 ≤ n ∧ n < b := by
 unfold J2 wrem
 rw [zw, if_neg (by omega), zt]
 have h1 := Int.tmod_lt_of_pos a hb
 have h2 : -b < a.tmod b := by
  have := Int.tmod_lt_of_pos (-a) hb
  rw [Int.neg_tmod] at this
  omega
 by_cases h : a.tmod b < 0
 ·rw [if_pos h, yy ⟨by omega, by omega⟩]
  exact ⟨_, rfl, by omega, by omega⟩
 ·rw [if_neg h]
  exact ⟨_, rfl, by omega, h1⟩
theorem zaO : Zz = some true := by
 unfold Zz
 have e1 : yi ([], []) (4, 0, 2, []) = some (bD (dPut ([], []) (4, 0, 2, [])).1, (dPut ([], []) (4, 0, 2, [])).2) := z4n ([], []) (4, 0, 2, []) (by simp) (by simp) (by simp)
 have v1 : dPut ([], []) (4, 0, 2, []) = (([], [100, 114, 111, 112, 32, 50, 10]), 0) := by decide +kernel
 have v2 : YA ([], [100, 114, 111, 112, 32, 50, 10]) = (([100, 114, 111, 112, 32, 50, 10], []), 0) := by decide +kernel
 have v3 : dPut ([100, 114, 111, 112, 32, 50, 10], []) (4, 0, 3, []) = (([100, 114, 111, 112, 32, 50, 10], [100, 114, 111, 112, 32, 51, 10]), 0) := by decide +kernel
 have v4 : jU ([100, 114, 111, 112, 32, 50, 10], [100, 114, 111, 112, 32, 51, 10]) 4 = (([100, 114, 111, 112, 32, 50, 10], [100, 114, 111, 112]), 0) := by decide +kernel
 have v5 : zF ([100, 114, 111, 112, 32, 50, 10], [100, 114, 111, 112]) = (([100, 114, 111, 112, 32, 50, 10], []), [((4, 0, 2, []) : Rc)], 0) := by
  have t1 : lnP 60 [100, 114, 111, 112, 32, 50, 10] = ([((4, 0, 2, []) : Rc)], 7, 0) := by
   have := z9L (most := 60) (rs := [((4, 0, 2, []) : Rc)]) (by decide +kernel) (by decide)
   rw [show Zm [((4, 0, 2, []) : Rc)] = [100, 114, 111, 112, 32, 50, 10] by decide +kernel] at this
   exact this
  unfold zF vk zE
  simp only [t1]
  rw [show lnP (60 - (([((4, 0, 2, []) : Rc)]).length : Int)) [100, 114, 111, 112] = ([], 0, 8) from z6o (most := 59) (rs := []) (t := [100, 114, 111, 112]) (by simp) (by decide) (by decide)]
  rfl
 have e2 := z6R ([], [100, 114, 111, 112, 32, 50, 10]) (by decide) (by decide)
 have e3 := z4n ([100, 114, 111, 112, 32, 50, 10], []) (4, 0, 3, []) (by decide) (by decide) (by decide)
 have e4 := z5d ([100, 114, 111, 112, 32, 50, 10], [100, 114, 111, 112, 32, 51, 10]) 4 (by decide) (by decide)
 have e5 := z2N ([100, 114, 111, 112, 32, 50, 10], [100, 114, 111, 112]) (by decide) (by decide)
 rw [v2] at e2
 rw [v3] at e3
 rw [v4] at e4
 rw [v5] at e5
 rw [e1, v1, z7]
 simp only [bD] at e2 e3 e4 e5 ⊢
 rw [e2, z7]
 simp only
 rw [e3, z7]
 simp only
 rw [e4, z7]
 simp only
 rw [e5, z7]
 simp only [Yi]
 decide +kernel
end Go.Proofs.Y
namespace Go.Proofs.Y
open Go.Rb Go.Kx
end Go.Proofs.Y
namespace Go.Proofs.Y
open Go.Rb Go.Kx
noncomputable def z6S : Code := zq Tryd.f47
noncomputable def z6T : FuncId → Option GS := tabG []
theorem zaP : ΓOK Tryd.prog z6T := zu
def z6U : HT := ⟨tabL [], tabH []⟩
noncomputable def z6V : GS := inl T z6T z6U z6S (zO Tryd.f47) (Tryd.f47.ntmps)
theorem z7D : GSOK Tryd.prog 47 z6V := z3r tok zaP fmo (Ht := z6U) (fn := Tryd.f47) (Tryd.func47) (c := z6S) (by kernel_rfl) (by kernel_rfl) (by kernel_rfl)
end Go.Proofs.Y
namespace Go.Proofs.Y
open Go.Rb Go.Kx
noncomputable def z3T : Code := zq Tryd.f23
noncomputable def z3U : FuncId → Option GS := tabG [(47, z6V)]
theorem z91 : ΓOK Tryd.prog z3U := za (z7D) (zu)
def z3V : HT := ⟨tabL [(3, .it [] (dyn [.t 3 (.int .i64), .t 11 (.int .i64)])), (11, .it [] (dyn [.a 6 24 (.cons (.int .i64) (.cons (.int .i64) (.cons (.int .i64) (.one (.sl 56 (.cons (.int .i64) (.cons (.int .i64) (.one (.int .i64))))))))), .t 27 (.int .i64)]))], tabH [(10, [.trim 6])]⟩
abbrev JR : List IT := [.v (.one (.sl 34 (.one (.sl 24 (.cons (.int .i64) (.cons (.int .i64) (.cons (.int .i64) (.one (.sl 56 (.cons (.int .i64) (.cons (.int .i64) (.one (.int .i64))))))))))))) false]
abbrev z2O : List OT := [⟨.one (.sl 24 (.cons (.int .i64) (.cons (.int .i64) (.cons (.int .i64) (.one (.sl 56 (.cons (.int .i64) (.cons (.int .i64) (.one (.int .i64)))))))))), false, []⟩]
set_option maxRecDepth 100000
noncomputable def V5 : List (List (Int × Int × Int × List (Int × Int × Int))) → Option (List (Int × Int × Int × List (Int × Int × Int))) := fun a => zi maxR (fun (x : Int × Int) => ifB (ltI x.2 (lenI a)) (z6 (atI a x.2) fun y => ifB (ltI (wadd .i64 x.1 (lenI y)) 0) none (some (Sum.inl (wadd .i64 x.1 (lenI y), wadd .i64 x.2 1)))) (mapO Sum.inr (ifB (ltI x.1 0) none (ifB (gtI (wsub .i64 x.1 (wsub .i64 0 0)) 0) (ifB (jj 48 (wsub .i64 x.1 (wsub .i64 0 0))) (ifB (in1 (repI (wsub .i64 x.1 (wsub .i64 0 0)) ((0, 0, 0, []) : Int × Int × Int × List (Int × Int × Int))) 0) (ifB (inN (repI (wsub .i64 x.1 (wsub .i64 0 0)) ((0, 0, 0, []) : Int × Int × Int × List (Int × Int × Int))) 0 (natI 0)) (zi maxR (fun (x : Int × List (Int × Int × Int × List (Int × Int × Int))) => ifB (ltI x.1 (lenI a)) (z6 (atI a x.1) fun y => ifB (zB 48 x.2 y) (some (Sum.inl (wadd .i64 x.1 1, cat x.2 y))) none) (mapO Sum.inr (some x.2))) (0, subN (repI (wsub .i64 x.1 (wsub .i64 0 0)) ((0, 0, 0, []) : Int × Int × Int × List (Int × Int × Int))) 0 (natI 0))) none) none) none) (zi maxR (fun (x : Int × List (Int × Int × Int × List (Int × Int × Int))) => ifB (ltI x.1 (lenI a)) (z6 (atI a x.1) fun y => ifB (zB 48 x.2 y) (some (Sum.inl (wadd .i64 x.1 1, cat x.2 y))) none) (mapO Sum.inr (some x.2))) (0, [])))))) (0, 0)
theorem z5k (x : PI JR) : V5 x = fnE T z3U z3V z3T (zO Tryd.f23) JR z2O x := by kernel_rfl
noncomputable abbrev z3W : GS := zI false JR z2O fun x => V5 x
theorem z5l : GSOK Tryd.prog 23 z3W := zC tok z91 fmo (Ht := z3V) (fn := Tryd.f23) (Tryd.func23) (c := z3T) (by kernel_rfl) (by kernel_rfl) (by kernel_rfl) (by decide +kernel) (by decide) z5k
end Go.Proofs.Y
namespace Go.Proofs.Y
open Go.Rb Go.Kx
end Go.Proofs.Y
