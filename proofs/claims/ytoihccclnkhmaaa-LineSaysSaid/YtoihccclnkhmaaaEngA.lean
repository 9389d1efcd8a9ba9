/-
  What is proved: values of the model read as plain data (immutable rows of cells), and every operation that only reads gives, on values that read as data, a value that reads as what a plain function on data says. Conditions: none.
-/
import Derived.Orders
import Derived.Laws.AppendOwn
set_option linter.unusedVariables false
set_option linter.unusedSimpArgs false
set_option maxRecDepth 4000
namespace Go.Rb

/-- The data of one cell of memory. -/
inductive C where
  | int (k : IntKind) (n : Int)
  | bool (b : Bool)
  | str (s : ByteArray)
  | sl (e : TypeId) (rows : List (List C))

instance : Inhabited C := ⟨.bool false⟩

/-- A value reads as the data of one cell; all cells that are read lie in the stable set S. -/
inductive Rd (P : Program) (w : World) (S : Nat → Nat → Prop) : Value → C → Prop where
  | int (k : IntKind) (n : Int) : Rd P w S (.int k n) (.int k n)
  | bool (b : Bool) : Rd P w S (.bool b) (.bool b)
  | str (s : ByteArray) : Rd P w S (.string s) (.str s)
  | emp (e : TypeId) (a : Option Addr) (cap : Nat) : Rd P w S (.slice a 0 cap) (.sl e [])
  | sl (e b off n cap : Nat) (rows : List (List C)) (vs : Nat → Nat → Value) (hn : n = rows.length) (hcap : n ≤ cap)
      (hsz : ∀ (i : Nat) (r : List C), rows[i]? = some r → r.length = P.cellsOf e)
      (hcell : ∀ (i j : Nat) (r : List C) (c : C), rows[i]? = some r → r[j]? = some c →
        w.cell? ⟨b, off + (i * P.cellsOf e + j), none⟩ = some (vs i j) ∧ S b (off + (i * P.cellsOf e + j)))
      (hrd : ∀ (i j : Nat) (r : List C) (c : C), rows[i]? = some r → r[j]? = some c → Rd P w S (vs i j) c) :
      Rd P w S (.slice (some ⟨b, off, none⟩) n cap) (.sl e rows)

theorem Rd.mono {P : Program} {w w' : World} {S S' : Nat → Nat → Prop} {v : Value} {x : C}
    (hc : ∀ b o u, S b o → w.cell? ⟨b, o, none⟩ = some u → w'.cell? ⟨b, o, none⟩ = some u) (hS : ∀ b o, S b o → S' b o)
    (h : Rd P w S v x) : Rd P w' S' v x := by
  induction h with
  | int k n => exact .int k n
  | bool b => exact .bool b
  | str s => exact .str s
  | emp e a cap => exact .emp e a cap
  | sl e b off n cap rows vs hn hcap hsz hcell hrd ih =>
    exact .sl e b off n cap rows vs hn hcap hsz
      (fun i j r c hi hj => ⟨hc _ _ _ (hcell i j r c hi hj).2 (hcell i j r c hi hj).1, hS _ _ (hcell i j r c hi hj).2⟩)
      (fun i j r c hi hj => ih i j r c hi hj)

theorem Rd.oneCell {P : Program} {w : World} {S : Nat → Nat → Prop} {v : Value} {x : C} (h : Rd P w S v x) : v.oneCell' = true := by
  cases h <;> rfl

/-- What an activation knows of a value. -/
inductive AV where
  | c (x : C)
  | nils
  | agg (xs : List AV)
  | tup (xs : List AV)
  | own (nw : Bool) (id : Nat) (e : TypeId) (rows : List (List C))
  | arr (l off len cap : Nat) (e : TypeId)
  | ptr (l off : Nat)
  | el (xs : List C)
  | fn (f : FuncId) (caps : List AV)
  | und
  | any

instance : Inhabited AV := ⟨.any⟩

inductive OwnSt where
  | none
  | dead
  | reg (v : Value) (e : TypeId)

structure Env where
  w : World
  S : Nat → Nat → Prop
  β : Nat → Nat
  ow : Bool → Nat → OwnSt
  A : Nat → Prop
  cp : Nat → Nat := fun _ => 0

/-- No spare place behind it. -/
def Full (v : Value) : Prop := ∃ a n, v = .slice a n n

inductive VR (P : Program) (E : Env) : Value → AV → Prop where
  | c (v : Value) (x : C) (h : Rd P E.w E.S v x) : VR P E v (.c x)
  | nils : VR P E (.slice none 0 0) .nils
  | agg (vs : Array Value) (xs : List AV) (hn : vs.size = xs.length) (h1 : ∀ (i : Nat) (v : Value), vs[i]? = some v → v.oneCell' = true)
      (h : ∀ (i : Nat) (v : Value) (x : AV), vs[i]? = some v → xs[i]? = some x → VR P E v x) : VR P E (.agg vs) (.agg xs)
  | tup (vs : Array Value) (xs : List AV) (hn : vs.size = xs.length)
      (h : ∀ (i : Nat) (v : Value) (x : AV), vs[i]? = some v → xs[i]? = some x → VR P E v x) : VR P E (.tuple vs) (.tup xs)
  | own (v : Value) (nw : Bool) (id : Nat) (e : TypeId) (rows : List (List C)) (h : Rd P E.w E.S v (.sl e rows))
      (ho : Full v ∨ E.ow nw id = .dead ∨ E.ow nw id = .reg v e) : VR P E v (.own nw id e rows)
  | arr (l off len cap c : Nat) (e : TypeId) (h : E.A l) (hc : cap ≤ c) (hl : len ≤ c) (hs : off + c * P.cellsOf e ≤ E.cp l) (hm : c ≤ maxLen) : VR P E (.slice (some ⟨E.β l, off, none⟩) len c) (.arr l off len cap e)
  | arr0 (l off : Nat) (a : Option Addr) (e : TypeId) : VR P E (.slice a 0 0) (.arr l off 0 0 e)
  | ptr (l off : Nat) (h : E.A l) : VR P E (.pointer (some ⟨E.β l, off, none⟩)) (.ptr l off)
  | el (b o : Nat) (xs : List C) (vs : Nat → Value)
      (h : ∀ (j : Nat) (x : C), xs[j]? = some x → (E.w.cell? ⟨b, o + j, none⟩ = some (vs j) ∧ E.S b (o + j)) ∧ Rd P E.w E.S (vs j) x) :
      VR P E (.pointer (some ⟨b, o, none⟩)) (.el xs)
  | fn (f : FuncId) (cs : Array Value) (caps : List AV) (hn : cs.size = caps.length)
      (h : ∀ (i : Nat) (v : Value) (x : AV), cs[i]? = some v → caps[i]? = some x → VR P E v x) : VR P E (.func (.func f) #[] cs) (.fn f caps)
  | und : VR P E undef .und
  | any (v : Value) : VR P E v .any

/-- What was read stays read; blocks of one's own stay one's own, or the right to them has been used. -/
structure Env.le (E E' : Env) : Prop where
  cell : ∀ b o u, E.S b o → E.w.cell? ⟨b, o, none⟩ = some u → E'.w.cell? ⟨b, o, none⟩ = some u
  S : ∀ b o, E.S b o → E'.S b o
  A : ∀ l, E.A l → E'.A l ∧ E'.β l = E.β l ∧ E'.cp l = E.cp l
  ow : ∀ nw k v e, E.ow nw k = .reg v e → E'.ow nw k = .reg v e ∨ E'.ow nw k = .dead
  dead : ∀ nw k, E.ow nw k = .dead → E'.ow nw k = .dead

theorem Env.le.refl (E : Env) : E.le E :=
  ⟨fun _ _ _ _ h => h, fun _ _ h => h, fun _ h => ⟨h, rfl, rfl⟩, fun _ _ _ _ h => .inl h, fun _ _ h => h⟩

theorem Env.le.trans {E E' E'' : Env} (h : E.le E') (k : E'.le E'') : E.le E'' where
  cell b o u hs hc := k.cell b o u (h.S b o hs) (h.cell b o u hs hc)
  S b o hs := k.S b o (h.S b o hs)
  A l hl := ⟨(k.A l (h.A l hl).1).1, (k.A l (h.A l hl).1).2.1.trans (h.A l hl).2.1, (k.A l (h.A l hl).1).2.2.trans (h.A l hl).2.2⟩
  ow nw i v e hr := by
    rcases h.ow nw i v e hr with h1 | h1
    · exact k.ow nw i v e h1
    · exact .inr (k.dead nw i h1)
  dead nw i hd := k.dead nw i (h.dead nw i hd)

theorem VR.mono {P : Program} {E E' : Env} {v : Value} {x : AV} (hl : E.le E') (h : VR P E v x) : VR P E' v x := by
  induction h with
  | c v x h => exact .c v x (h.mono hl.cell hl.S)
  | nils => exact .nils
  | agg vs xs hn h1 h ih => exact .agg vs xs hn h1 ih
  | tup vs xs hn h ih => exact .tup vs xs hn ih
  | own v nw id e rows h ho =>
    refine .own v nw id e rows (h.mono hl.cell hl.S) ?_
    rcases ho with ho | ho | ho
    · exact .inl ho
    · exact .inr (.inl (hl.dead _ _ ho))
    · rcases hl.ow _ _ _ _ ho with h1 | h1
      · exact .inr (.inr h1)
      · exact .inr (.inl h1)
  | arr l off len cap c e h hc hn hs hm => rw [← (hl.A l h).2.1]; exact .arr l off len cap c e (hl.A l h).1 hc hn (by rw [(hl.A l h).2.2]; exact hs) hm
  | arr0 l off a e => exact .arr0 l off a e
  | ptr l off h => rw [← (hl.A l h).2.1]; exact .ptr l off (hl.A l h).1
  | el b o xs vs h => exact .el b o xs vs fun j x hj => ⟨⟨hl.cell _ _ _ (h j x hj).1.2 (h j x hj).1.1, hl.S _ _ (h j x hj).1.2⟩, (h j x hj).2.mono hl.cell hl.S⟩
  | fn f cs caps hn h ih => exact .fn f cs caps hn ih
  | und => exact .und
  | any v => exact .any v

/-! ### Constants -/

/-- What is known of a constant that is one cell. -/
def cv1 : Value → AV
  | .int k n => .c (.int k n)
  | .bool b => .c (.bool b)
  | .string s => .c (.str s)
  | .slice none 0 0 => .nils
  | _ => .any

def cv : Value → AV
  | .agg vs => if vs.all (·.oneCell') then .agg (vs.toList.map cv1) else .any
  | v => cv1 v

theorem vr_cv1 (P : Program) (E : Env) (v : Value) : VR P E v (cv1 v) := by
  unfold cv1
  split
  · exact .c _ _ (.int _ _)
  · exact .c _ _ (.bool _)
  · exact .c _ _ (.str _)
  · exact .nils
  · exact .any _

theorem vr_cells1 (P : Program) (E : Env) (vs : Array Value) (i : Nat) (v : Value) (x : AV) (hv : vs[i]? = some v) (hx : (vs.toList.map cv1)[i]? = some x) : VR P E v x := by
  rw [List.getElem?_map] at hx
  have : vs.toList[i]? = some v := by simpa using hv
  rw [this] at hx
  simp at hx
  subst hx
  exact vr_cv1 P E v

theorem vr_cv (P : Program) (E : Env) (v : Value) : VR P E v (cv v) := by
  unfold cv
  split
  · rename_i vs
    split
    · rename_i h
      simp only [Array.all_eq_true_iff_forall_mem] at h
      exact .agg vs _ (by simp) (fun i v hv => h v (Array.mem_of_getElem? hv)) (fun i v x hv hx => vr_cells1 P E vs i v x hv hx)
    · exact .any _
  · exact vr_cv1 P E v

/-! ### Views: a value as plain data -/

/-- The data of one cell, if it is known. -/
def AV.toC : AV → TypeId → Option C
  | .c x, _ => some x
  | .nils, e => some (.sl e [])
  | .own _ _ e rows, _ => some (.sl e rows)
  | _, _ => none

theorem VR.toC {P : Program} {E : Env} {v : Value} {x : AV} {e : TypeId} {y : C} (h : VR P E v x) (hx : x.toC e = some y) : Rd P E.w E.S v y := by
  cases h <;> simp [AV.toC] at hx
  · subst hx; assumption
  · subst hx; exact .emp _ _ _
  · subst hx; assumption

/-- Element type of a slice type. -/
def elemT (P : Program) (t : TypeId) : TypeId := match P.underlying t with | some (.slice e) => e | _ => 0

def isAggT (P : Program) (t : TypeId) : Option Bool := match P.underlying t with
  | some (.struct _) | some (.array _ _) => some true
  | some _ => some false
  | none => none

/-- Rows of a slice that is known as data. -/
def AV.rows : AV → TypeId → Option (List (List C))
  | .c (.sl e' rows), e => if e = e' then some rows else none
  | .nils, _ => some []
  | .own _ _ e' rows, e => if e = e' then some rows else none
  | _, _ => none

theorem VR.rows {P : Program} {E : Env} {v : Value} {x : AV} {e : TypeId} {rows : List (List C)} (h : VR P E v x) (hx : x.rows e = some rows) :
    Rd P E.w E.S v (.sl e rows) := by
  cases h with
  | c v y h =>
    cases h <;> simp [AV.rows] at hx
    · obtain ⟨rfl, rfl⟩ := hx; exact .emp _ _ _
    · obtain ⟨rfl, rfl⟩ := hx; exact .sl _ _ _ _ _ _ _ ‹_› ‹_› ‹_› ‹_› ‹_›
  | nils => simp [AV.rows] at hx; subst hx; exact .emp _ _ _
  | own v nw id e' rows' h ho => simp [AV.rows] at hx; obtain ⟨rfl, rfl⟩ := hx; exact h
  | _ => simp [AV.rows] at hx

theorem Rd.slice {P : Program} {w : World} {S : Nat → Nat → Prop} {v : Value} {e : TypeId} {rows : List (List C)} (h : Rd P w S v (.sl e rows)) :
    ∃ a cap, v = .slice a rows.length cap ∧ rows.length ≤ cap := by
  generalize hx : C.sl e rows = x at h
  cases h with
  | emp e' a cap => cases hx; exact ⟨_, _, rfl, by simp⟩
  | sl e' b off n cap rows' vs hn hcap hsz hcell hrd => cases hx; subst hn; exact ⟨_, _, rfl, hcap⟩
  | _ => cases hx

/-- The row of number i: its cells, and that they read as its data. -/
theorem Rd.row {P : Program} {w : World} {S : Nat → Nat → Prop} {v : Value} {e : TypeId} {rows : List (List C)} (h : Rd P w S v (.sl e rows)) {i : Nat} {r : List C}
    (hi : rows[i]? = some r) : ∃ (b off cap : Nat) (vs : Nat → Value), v = .slice (some ⟨b, off, none⟩) rows.length cap ∧ r.length = P.cellsOf e ∧
      ∀ (j : Nat) (x : C), r[j]? = some x → (w.cell? ⟨b, off + i * P.cellsOf e + j, none⟩ = some (vs j) ∧ S b (off + i * P.cellsOf e + j)) ∧ Rd P w S (vs j) x := by
  generalize hx : C.sl e rows = x at h
  cases h with
  | emp e' a cap => cases hx; simp at hi
  | sl e' b off n cap rows' vs hn hcap hsz hcell hrd =>
    cases hx; subst hn
    refine ⟨b, off, cap, vs i, rfl, hsz i r hi, fun j x hj => ⟨?_, hrd i j r x hi hj⟩⟩
    have := hcell i j r x hi hj
    rw [Nat.add_assoc]
    exact this
  | _ => cases hx

end Go.Rb
