/-
  What is proved, part by part: What is proved: values of the model read as plain data (immutable rows of cells), and every operation that only reads gives, on values that read as data, a value that reads as what a plain function on data says. What is proved: an operation that only reads hands back a value that reads as a plain function on data says. What is proved: an operation that only reads hands back a value that reads as a plain function on data says. What is proved: an operation that only reads hands back a value that reads as a plain function on data says. What is proved: an operation that only reads hands back a value that reads as a plain function on data says. What is stated: the state of an activation as plain data, what a call promises, and what one operation does to that state. What is proved: append to a slice of one's own, as the state of an activation has it. What is proved: append to a slice of one's own, as the state of an activation has it. What is proved: append to a slice of one's own, as the state of an activation has it. What is proved: every operation that the state of an activation speaks of does to memory what the state says. What is proved: every operation that the state of an activation speaks of does to memory what the state says. What is proved: every operation that the state of an activation speaks of does to memory what the state says. Conditions: none.
-/
import Derived.Orders
import Derived.Laws.AppendOwn
set_option linter.unusedVariables false
set_option linter.unusedSimpArgs false
set_option maxRecDepth 4000
namespace Go.Rb

/-- The data of one cell of memory. -/
inductive C where
  | int (k : IntKind) (n : Int)
  | bool (b : Bool)
  | str (s : ByteArray)
  | sl (e : TypeId) (rows : List (List C))

instance : Inhabited C := ⟨.bool false⟩

/-- A value reads as the data of one cell; all cells that are read lie in the stable set S. -/
inductive Rd (P : Program) (w : World) (S : Nat → Nat → Prop) : Value → C → Prop where
  | int (k : IntKind) (n : Int) : Rd P w S (.int k n) (.int k n)
  | bool (b : Bool) : Rd P w S (.bool b) (.bool b)
  | str (s : ByteArray) : Rd P w S (.string s) (.str s)
  | emp (e : TypeId) (a : Option Addr) (cap : Nat) : Rd P w S (.slice a 0 cap) (.sl e [])
  | sl (e b off n cap : Nat) (rows : List (List C)) (vs : Nat → Nat → Value) (hn : n = rows.length) (hcap : n ≤ cap)
      (hsz : ∀ (i : Nat) (r : List C), rows[i]? = some r → r.length = P.cellsOf e)
      (hcell : ∀ (i j : Nat) (r : List C) (c : C), rows[i]? = some r → r[j]? = some c →
        w.cell? ⟨b, off + (i * P.cellsOf e + j), none⟩ = some (vs i j) ∧ S b (off + (i * P.cellsOf e + j)))
      (hrd : ∀ (i j : Nat) (r : List C) (c : C), rows[i]? = some r → r[j]? = some c → Rd P w S (vs i j) c) :
      Rd P w S (.slice (some ⟨b, off, none⟩) n cap) (.sl e rows)

theorem Rd.mono {P : Program} {w w' : World} {S S' : Nat → Nat → Prop} {v : Value} {x : C}
    (hc : ∀ b o u, S b o → w.cell? ⟨b, o, none⟩ = some u → w'.cell? ⟨b, o, none⟩ = some u) (hS : ∀ b o, S b o → S' b o)
    (h : Rd P w S v x) : Rd P w' S' v x := by
  induction h with
  | int k n => exact .int k n
  | bool b => exact .bool b
  | str s => exact .str s
  | emp e a cap => exact .emp e a cap
  | sl e b off n cap rows vs hn hcap hsz hcell hrd ih =>
    exact .sl e b off n cap rows vs hn hcap hsz
      (fun i j r c hi hj => ⟨hc _ _ _ (hcell i j r c hi hj).2 (hcell i j r c hi hj).1, hS _ _ (hcell i j r c hi hj).2⟩)
      (fun i j r c hi hj => ih i j r c hi hj)

theorem Rd.oneCell {P : Program} {w : World} {S : Nat → Nat → Prop} {v : Value} {x : C} (h : Rd P w S v x) : v.oneCell' = true := by
  cases h <;> rfl

/-- What an activation knows of a value. -/
inductive AV where
  | c (x : C)
  | nils
  | agg (xs : List AV)
  | tup (xs : List AV)
  | own (nw : Bool) (id : Nat) (e : TypeId) (rows : List (List C))
  | arr (l off len cap : Nat) (e : TypeId)
  | ptr (l off : Nat)
  | el (xs : List C)
  | fn (f : FuncId) (caps : List AV)
  | und
  | any

instance : Inhabited AV := ⟨.any⟩

inductive OwnSt where
  | none
  | dead
  | reg (v : Value) (e : TypeId)

structure Env where
  w : World
  S : Nat → Nat → Prop
  β : Nat → Nat
  ow : Bool → Nat → OwnSt
  A : Nat → Prop
  cp : Nat → Nat := fun _ => 0

/-- No spare place behind it. -/
def Full (v : Value) : Prop := ∃ a n, v = .slice a n n

inductive VR (P : Program) (E : Env) : Value → AV → Prop where
  | c (v : Value) (x : C) (h : Rd P E.w E.S v x) : VR P E v (.c x)
  | nils : VR P E (.slice none 0 0) .nils
  | agg (vs : Array Value) (xs : List AV) (hn : vs.size = xs.length) (h1 : ∀ (i : Nat) (v : Value), vs[i]? = some v → v.oneCell' = true)
      (h : ∀ (i : Nat) (v : Value) (x : AV), vs[i]? = some v → xs[i]? = some x → VR P E v x) : VR P E (.agg vs) (.agg xs)
  | tup (vs : Array Value) (xs : List AV) (hn : vs.size = xs.length)
      (h : ∀ (i : Nat) (v : Value) (x : AV), vs[i]? = some v → xs[i]? = some x → VR P E v x) : VR P E (.tuple vs) (.tup xs)
  | own (v : Value) (nw : Bool) (id : Nat) (e : TypeId) (rows : List (List C)) (h : Rd P E.w E.S v (.sl e rows))
      (ho : Full v ∨ E.ow nw id = .dead ∨ E.ow nw id = .reg v e) : VR P E v (.own nw id e rows)
  | arr (l off len cap c : Nat) (e : TypeId) (h : E.A l) (hc : cap ≤ c) (hl : len ≤ c) (hs : off + c * P.cellsOf e ≤ E.cp l) (hm : c ≤ maxLen) : VR P E (.slice (some ⟨E.β l, off, none⟩) len c) (.arr l off len cap e)
  | arr0 (l off : Nat) (a : Option Addr) (e : TypeId) : VR P E (.slice a 0 0) (.arr l off 0 0 e)
  | ptr (l off : Nat) (h : E.A l) : VR P E (.pointer (some ⟨E.β l, off, none⟩)) (.ptr l off)
  | el (b o : Nat) (xs : List C) (vs : Nat → Value)
      (h : ∀ (j : Nat) (x : C), xs[j]? = some x → (E.w.cell? ⟨b, o + j, none⟩ = some (vs j) ∧ E.S b (o + j)) ∧ Rd P E.w E.S (vs j) x) :
      VR P E (.pointer (some ⟨b, o, none⟩)) (.el xs)
  | fn (f : FuncId) (cs : Array Value) (caps : List AV) (hn : cs.size = caps.length)
      (h : ∀ (i : Nat) (v : Value) (x : AV), cs[i]? = some v → caps[i]? = some x → VR P E v x) : VR P E (.func (.func f) #[] cs) (.fn f caps)
  | und : VR P E undef .und
  | any (v : Value) : VR P E v .any

/-- What was read stays read; blocks of one's own stay one's own, or the right to them has been used. -/
structure Env.le (E E' : Env) : Prop where
  cell : ∀ b o u, E.S b o → E.w.cell? ⟨b, o, none⟩ = some u → E'.w.cell? ⟨b, o, none⟩ = some u
  S : ∀ b o, E.S b o → E'.S b o
  A : ∀ l, E.A l → E'.A l ∧ E'.β l = E.β l ∧ E'.cp l = E.cp l
  ow : ∀ nw k v e, E.ow nw k = .reg v e → E'.ow nw k = .reg v e ∨ E'.ow nw k = .dead
  dead : ∀ nw k, E.ow nw k = .dead → E'.ow nw k = .dead

theorem Env.le.refl (E : Env) : E.le E :=
  ⟨fun _ _ _ _ h => h, fun _ _ h => h, fun _ h => ⟨h, rfl, rfl⟩, fun _ _ _ _ h => .inl h, fun _ _ h => h⟩

theorem Env.le.trans {E E' E'' : Env} (h : E.le E') (k : E'.le E'') : E.le E'' where
  cell b o u hs hc := k.cell b o u (h.S b o hs) (h.cell b o u hs hc)
  S b o hs := k.S b o (h.S b o hs)
  A l hl := ⟨(k.A l (h.A l hl).1).1, (k.A l (h.A l hl).1).2.1.trans (h.A l hl).2.1, (k.A l (h.A l hl).1).2.2.trans (h.A l hl).2.2⟩
  ow nw i v e hr := by
    rcases h.ow nw i v e hr with h1 | h1
    · exact k.ow nw i v e h1
    · exact .inr (k.dead nw i h1)
  dead nw i hd := k.dead nw i (h.dead nw i hd)

theorem VR.mono {P : Program} {E E' : Env} {v : Value} {x : AV} (hl : E.le E') (h : VR P E v x) : VR P E' v x := by
  induction h with
  | c v x h => exact .c v x (h.mono hl.cell hl.S)
  | nils => exact .nils
  | agg vs xs hn h1 h ih => exact .agg vs xs hn h1 ih
  | tup vs xs hn h ih => exact .tup vs xs hn ih
  | own v nw id e rows h ho =>
    refine .own v nw id e rows (h.mono hl.cell hl.S) ?_
    rcases ho with ho | ho | ho
    · exact .inl ho
    · exact .inr (.inl (hl.dead _ _ ho))
    · rcases hl.ow _ _ _ _ ho with h1 | h1
      · exact .inr (.inr h1)
      · exact .inr (.inl h1)
  | arr l off len cap c e h hc hn hs hm => rw [← (hl.A l h).2.1]; exact .arr l off len cap c e (hl.A l h).1 hc hn (by rw [(hl.A l h).2.2]; exact hs) hm
  | arr0 l off a e => exact .arr0 l off a e
  | ptr l off h => rw [← (hl.A l h).2.1]; exact .ptr l off (hl.A l h).1
  | el b o xs vs h => exact .el b o xs vs fun j x hj => ⟨⟨hl.cell _ _ _ (h j x hj).1.2 (h j x hj).1.1, hl.S _ _ (h j x hj).1.2⟩, (h j x hj).2.mono hl.cell hl.S⟩
  | fn f cs caps hn h ih => exact .fn f cs caps hn ih
  | und => exact .und
  | any v => exact .any v

/-! ### Constants -/

/-- What is known of a constant that is one cell. -/
def cv1 : Value → AV
  | .int k n => .c (.int k n)
  | .bool b => .c (.bool b)
  | .string s => .c (.str s)
  | .slice none 0 0 => .nils
  | _ => .any

def cv : Value → AV
  | .agg vs => if vs.all (·.oneCell') then .agg (vs.toList.map cv1) else .any
  | v => cv1 v

theorem vr_cv1 (P : Program) (E : Env) (v : Value) : VR P E v (cv1 v) := by
  unfold cv1
  split
  · exact .c _ _ (.int _ _)
  · exact .c _ _ (.bool _)
  · exact .c _ _ (.str _)
  · exact .nils
  · exact .any _

theorem vr_cells1 (P : Program) (E : Env) (vs : Array Value) (i : Nat) (v : Value) (x : AV) (hv : vs[i]? = some v) (hx : (vs.toList.map cv1)[i]? = some x) : VR P E v x := by
  rw [List.getElem?_map] at hx
  have : vs.toList[i]? = some v := by simpa using hv
  rw [this] at hx
  simp at hx
  subst hx
  exact vr_cv1 P E v

theorem vr_cv (P : Program) (E : Env) (v : Value) : VR P E v (cv v) := by
  unfold cv
  split
  · rename_i vs
    split
    · rename_i h
      simp only [Array.all_eq_true_iff_forall_mem] at h
      exact .agg vs _ (by simp) (fun i v hv => h v (Array.mem_of_getElem? hv)) (fun i v x hv hx => vr_cells1 P E vs i v x hv hx)
    · exact .any _
  · exact vr_cv1 P E v

/-! ### Views: a value as plain data -/

/-- The data of one cell, if it is known. -/
def AV.toC : AV → TypeId → Option C
  | .c x, _ => some x
  | .nils, e => some (.sl e [])
  | .own _ _ e rows, _ => some (.sl e rows)
  | _, _ => none

theorem VR.toC {P : Program} {E : Env} {v : Value} {x : AV} {e : TypeId} {y : C} (h : VR P E v x) (hx : x.toC e = some y) : Rd P E.w E.S v y := by
  cases h <;> simp [AV.toC] at hx
  · subst hx; assumption
  · subst hx; exact .emp _ _ _
  · subst hx; assumption

/-- Element type of a slice type. -/
def elemT (P : Program) (t : TypeId) : TypeId := match P.underlying t with | some (.slice e) => e | _ => 0

def isAggT (P : Program) (t : TypeId) : Option Bool := match P.underlying t with
  | some (.struct _) | some (.array _ _) => some true
  | some _ => some false
  | none => none

/-- Rows of a slice that is known as data. -/
def AV.rows : AV → TypeId → Option (List (List C))
  | .c (.sl e' rows), e => if e = e' then some rows else none
  | .nils, _ => some []
  | .own _ _ e' rows, e => if e = e' then some rows else none
  | _, _ => none

theorem VR.rows {P : Program} {E : Env} {v : Value} {x : AV} {e : TypeId} {rows : List (List C)} (h : VR P E v x) (hx : x.rows e = some rows) :
    Rd P E.w E.S v (.sl e rows) := by
  cases h with
  | c v y h =>
    cases h <;> simp [AV.rows] at hx
    · obtain ⟨rfl, rfl⟩ := hx; exact .emp _ _ _
    · obtain ⟨rfl, rfl⟩ := hx; exact .sl _ _ _ _ _ _ _ ‹_› ‹_› ‹_› ‹_› ‹_›
  | nils => simp [AV.rows] at hx; subst hx; exact .emp _ _ _
  | own v nw id e' rows' h ho => simp [AV.rows] at hx; obtain ⟨rfl, rfl⟩ := hx; exact h
  | _ => simp [AV.rows] at hx

theorem Rd.slice {P : Program} {w : World} {S : Nat → Nat → Prop} {v : Value} {e : TypeId} {rows : List (List C)} (h : Rd P w S v (.sl e rows)) :
    ∃ a cap, v = .slice a rows.length cap ∧ rows.length ≤ cap := by
  generalize hx : C.sl e rows = x at h
  cases h with
  | emp e' a cap => cases hx; exact ⟨_, _, rfl, by simp⟩
  | sl e' b off n cap rows' vs hn hcap hsz hcell hrd => cases hx; subst hn; exact ⟨_, _, rfl, hcap⟩
  | _ => cases hx

/-- The row of number i: its cells, and that they read as its data. -/
theorem Rd.row {P : Program} {w : World} {S : Nat → Nat → Prop} {v : Value} {e : TypeId} {rows : List (List C)} (h : Rd P w S v (.sl e rows)) {i : Nat} {r : List C}
    (hi : rows[i]? = some r) : ∃ (b off cap : Nat) (vs : Nat → Value), v = .slice (some ⟨b, off, none⟩) rows.length cap ∧ r.length = P.cellsOf e ∧
      ∀ (j : Nat) (x : C), r[j]? = some x → (w.cell? ⟨b, off + i * P.cellsOf e + j, none⟩ = some (vs j) ∧ S b (off + i * P.cellsOf e + j)) ∧ Rd P w S (vs j) x := by
  generalize hx : C.sl e rows = x at h
  cases h with
  | emp e' a cap => cases hx; simp at hi
  | sl e' b off n cap rows' vs hn hcap hsz hcell hrd =>
    cases hx; subst hn
    refine ⟨b, off, cap, vs i, rfl, hsz i r hi, fun j x hj => ⟨?_, hrd i j r x hi hj⟩⟩
    have := hcell i j r x hi hj
    rw [Nat.add_assoc]
    exact this
  | _ => cases hx

end Go.Rb
namespace Go.Rb

/-! ### Arithmetic -/
def iop (op : BinOp) (k : IntKind) (a b : Int) : Option C :=
  match op with
  | .add => some (.int k (k.wrap (a + b)))
  | .sub => some (.int k (k.wrap (a - b)))
  | .mul => some (.int k (k.wrap (a * b)))
  | .quo => if b = 0 then none else some (.int k (k.wrap (a.tdiv b)))
  | .rem => if b = 0 then none else some (.int k (a.tmod b))
  | .and => some (.int k (k.wrap (BitVec.ofInt k.bits a &&& BitVec.ofInt k.bits b).toNat))
  | .eql => some (.bool (a == b))
  | .neq => some (.bool (a != b))
  | .lss => some (.bool (decide (a < b)))
  | .leq => some (.bool (decide (a ≤ b)))
  | .gtr => some (.bool (decide (a > b)))
  | .geq => some (.bool (decide (a ≥ b)))
  | .shl => if b < 0 then none else some (.int k (k.wrap (a * 2 ^ min b.toNat k.bits)))
  | .shr => if b < 0 then none else some (.int k (a.fdiv (2 ^ min b.toNat k.bits)))
  | _ => none

def isShift (op : BinOp) : Bool := match op with | .shl | .shr => true | _ => false

def ybin (P : Program) (op : BinOp) (T : TypeId) : AV → AV → Option AV
  | .c (.int k a), .c (.int k' b) => if isShift op = true ∨ k = k' then (iop op k a b).map .c else none
  | .c (.bool a), .c (.bool b) =>
    match P.underlying T, op with
    | some .bool, .eql => some (.c (.bool (a == b)))
    | some .bool, .neq => some (.c (.bool (!(a == b))))
    | _, _ => none
  | .c (.str a), .c (.str b) =>
    match op with
    | .add => if (a.size : Int) + b.size ≤ 9223372036854775807 then some (.c (.str (a ++ b))) else none
    | .eql => some (.c (.bool (a.toList == b.toList)))
    | .neq => some (.c (.bool (!(a.toList == b.toList))))
    | _ => none
  | _, _ => none

def yun : UnOp → AV → Option AV
  | .not, .c (.bool b) => some (.c (.bool (!b)))
  | .neg, .c (.int k n) => some (.c (.int k (k.wrap (0 - n))))
  | _, _ => none

/-- Reading a variable of type t, of which the cells are known. -/
def yload (P : Program) (t : TypeId) (m : Nat → List AV) : AV → Option AV
  | .ptr l off =>
    match isAggT P t with
    | some true => if off + P.cellsOf t ≤ (m l).length ∧ (P.info? t).isSome then some (.agg (((m l).drop off).take (P.cellsOf t))) else none
    | some false => (m l)[off]?
    | none => none
  | .el xs =>
    match isAggT P t with
    | some true => if P.cellsOf t ≤ xs.length ∧ (P.info? t).isSome then some (.agg ((xs.take (P.cellsOf t)).map .c)) else none
    | some false => xs[0]?.map .c
    | none => none
  | _ => none

def yfield (P : Program) (s : TypeId) (f : Nat) (x : AV) : Option AV :=
  match P.underlying s with
  | some (.struct fs) =>
    match fs[f]? with
    | some fd =>
      if P.cellsOf fd.type ≠ 0 then
        match x with
        | .ptr l off => some (.ptr l (off + fd.offset))
        | .el xs => some (.el (xs.drop fd.offset))
        | _ => none
      else none
    | none => none
  | _ => none

def AV.int? : AV → Option Int
  | .c (.int _ n) => some n
  | _ => none

def yindex (P : Program) (t : TypeId) (x i : AV) : Option AV :=
  match P.underlying t, i.int? with
  | some (.slice e), some n =>
    match x with
    | .arr l off len _ e' => if 0 ≤ n ∧ n < len ∧ e' = e ∧ (P.info? e).isSome then some (.ptr l (off + n.toNat * P.cellsOf e)) else none
    | x =>
      match x.rows e with
      | some rows => if 0 ≤ n ∧ n < rows.length ∧ (P.info? e).isSome then some (.el (rows.getD n.toNat [])) else none
      | none => none
  | _, _ => none

/-- The bound of a slice expression. -/
def ybound (dflt : Nat) : Option AV → Option Nat
  | none => some dflt
  | some x => match x.int? with | some n => if 0 ≤ n then some n.toNat else none | none => none

def yslice (P : Program) (t : TypeId) (x : AV) (lo hi mx : Option AV) : Option AV :=
  match P.underlying t with
  | some (.slice e) =>
    match x.rows e with
    | some rows =>
      match ybound 0 lo, ybound rows.length hi with
      | some l, some h =>
        if l ≤ h ∧ h ≤ rows.length ∧ (P.info? e).isSome then
          match mx, hi with
          | none, _ => some (.c (.sl e ((rows.take h).drop l)))
          | some mm, some _ => if mm.int? = some (h : Int) then some (.own false 0 e ((rows.take h).drop l)) else none
          | some _, none => none
        else none
      | _, _ => none
    | none => none
  | some .string =>
    match x, mx with
    | .c (.str s), none =>
      match ybound 0 lo, ybound s.size hi with
      | some l, some h => if l ≤ h ∧ h ≤ s.size then some (.c (.str (s.extract l h))) else none
      | _, _ => none
    | _, _ => none
  | _ => none

/-- A part of an array of one's own. -/
def ysliceA (P : Program) (t : TypeId) (l off len cap : Nat) (e : TypeId) (lo hi mx : Option AV) : Option AV :=
  match P.underlying t with
  | some (.slice e') =>
    if e' = e ∧ (P.info? e).isSome then
      match ybound 0 lo, ybound len hi with
      | some a, some h =>
        match mx, hi with
        | none, _ => if a ≤ h ∧ (h ≤ len ∨ h ≤ cap) then some (.arr l (off + a * P.cellsOf e) (h - a) (cap - a) e) else none
        | some mm, some _ =>
          match ybound 0 (some mm) with
          | some m => if a ≤ h ∧ h ≤ m ∧ (m ≤ len ∨ m ≤ cap) then some (.arr l (off + a * P.cellsOf e) (h - a) (m - a) e) else none
          | none => none
        | some _, none => none
      | _, _ => none
    else none
  | _ => none

def yslice2 (P : Program) (t : TypeId) (x : AV) (lo hi mx : Option AV) : Option AV :=
  match x with
  | .arr l off len cap e => ysliceA P t l off len cap e lo hi mx
  | x => yslice P t x lo hi mx

def ycap (P : Program) (t : TypeId) : AV → Option AV
  | .nils => match P.underlying t with | some (.slice _) => some (.c (.int .i64 0)) | _ => none
  | _ => none

def ylen (P : Program) (t : TypeId) (x : AV) : Option AV :=
  match P.underlying t with
  | some (.slice e) =>
    match x with
    | .arr _ _ len _ _ => some (.c (.int .i64 len))
    | x => match x.rows e with | some rows => some (.c (.int .i64 rows.length)) | none => none
  | some .string => match x with | .c (.str s) => some (.c (.int .i64 s.size)) | _ => none
  | _ => none

def ymm (mn : Bool) : AV → AV → Option AV
  | .c (.int k x), .c (.int _ y) => some (.c (.int k (if mn then (if y < x then y else x) else (if y > x then y else x))))
  | _, _ => none

def ymm3 : AV → AV → AV → Option AV
  | .c (.int k x), .c (.int _ y), .c (.int _ z) => some (.c (.int k (if z < (if y < x then y else x) then z else (if y < x then y else x))))
  | _, _, _ => none

/-- Cells of a value. -/
def AV.cells : AV → Option (List AV)
  | .agg xs => some xs
  | .tup _ => none
  | .und => none
  | .any => none
  | x => some [x]

def place (z : List AV) (off : Nat) (cs : List AV) : List AV := z.take off ++ cs ++ z.drop (off + cs.length)

def yfill (pl : Nat → Option (Nat × Nat)) : List AV → List (Nat × AV) → Option (List AV)
  | z, [] => some z
  | z, (i, x) :: rest =>
    match pl i, x.cells with
    | some (off, size), some cs => if cs.length = size ∧ off + cs.length ≤ z.length then yfill pl (place z off cs) rest else none
    | _, _ => none

/-- The cells of a zero value. -/
def zc (P : Program) (t : TypeId) : Option (List AV) :=
  match P.info? t with
  | some i => match i.zero with
    | some z => if z.cells.all (·.oneCell') then some (z.cells.toList.map cv1) else none
    | none => none
  | none => none

def ybuild (P : Program) (t : TypeId) (ps : List (Nat × AV)) : Option AV :=
  match P.underlying t with
  | some (.struct fs) =>
    if fs.all (fun f => (P.info? f.type).isSome) then
      match zc P t with
      | some z => (yfill (fun i => (fs[i]?).map fun f => (f.offset, P.cellsOf f.type)) z ps).map .agg
      | none => none
    else none
  | _ => none

def ycall (P : Program) (ev : Operand → AV) (c : Call) : Option AV :=
  match c.callee with
  | .builtin .len => match c.args.toList, c.argTypes.toList with | [x], [t] => ylen P t (ev x) | _, _ => none
  | .builtin .cap => match c.args.toList, c.argTypes.toList with | [x], [t] => ycap P t (ev x) | _, _ => none
  | .builtin .min => match c.args.toList with | [x, y] => ymm true (ev x) (ev y) | [x, y, z] => ymm3 (ev x) (ev y) (ev z) | _ => none
  | .builtin .max => match c.args.toList with | [x, y] => ymm false (ev x) (ev y) | _ => none
  | _ => none

/-- What an operation that only reads hands back. -/
def yl (P : Program) (ev : Operand → AV) (m : Nat → List AV) : Op → Option AV
  | .move x => some (ev x)
  | .assign x => some (ev x)
  | .pick c a b => match ev c with | .c (.bool t) => some (if t then ev a else ev b) | _ => none
  | .binOp op T x y _ => ybin P op T (ev x) (ev y)
  | .unOp op _ x => yun op (ev x)
  | .convert src dst x =>
    match P.underlying src, P.underlying dst, ev x with
    | some (.int _), some (.int k), .c (.int _ n) => some (.c (.int k (k.wrap n)))
    | _, _, _ => none
  | .load t a => yload P t m (ev a)
  | .fieldAddr s x f => yfield P s f (ev x)
  | .indexAddr t x i => yindex P t (ev x) (ev i)
  | .nilCheck x => match ev x with | .ptr l o => some (.ptr l o) | .el xs => some (.el xs) | _ => none
  | .extract t i => match ev t with | .tup xs => xs[i]? | _ => none
  | .build t ps => ybuild P t (ps.toList.map fun (i, x) => (i, ev x))
  | .slice t x lo hi mx => yslice2 P t (ev x) (lo.map ev) (hi.map ev) (mx.map ev)
  | .call c => ycall P ev c
  | .makeFunc (.func f) first caps => if first.isEmpty then some (.fn f (caps.toList.map ev)) else none
  | _ => none

end Go.Rb
namespace Go.Rb

/-- The local blocks hold what is known of them. -/
def MemOK (P : Program) (E : Env) (m : Nat → List AV) : Prop :=
  ∀ l, m l ≠ [] → ∃ cs e fz, E.w.heap[E.β l]? = some (.cells cs e fz) ∧ (m l).length ≤ cs.size ∧
    ∀ (i : Nat) (v : Value) (x : AV), cs[i]? = some v → (m l)[i]? = some x → VR P E v x ∧ v.oneCell' = true

theorem run_v {P : Program} {w : World} {α β : Type} {s : Sem α} {u : α} {w' : World} (f : α → β) (h : s.run P w = .ok u w') :
    (do pure (f (← s)) : Sem β).run P w = .ok (f u) w' := by
  simp only [Sem.run_bind, h, Result.andThen_ok, Sem.run_pure]

theorem vr_c_inv {P : Program} {E : Env} {v : Value} {x : C} (h : VR P E v (.c x)) : Rd P E.w E.S v x := by cases h; assumption

theorem vr_int {P : Program} {E : Env} {v : Value} {k : IntKind} {n : Int} (h : VR P E v (.c (.int k n))) : v = .int k n := by
  have := vr_c_inv h; cases this; rfl
theorem vr_bool {P : Program} {E : Env} {v : Value} {b : Bool} (h : VR P E v (.c (.bool b))) : v = .bool b := by
  have := vr_c_inv h; cases this; rfl
theorem vr_str {P : Program} {E : Env} {v : Value} {s : ByteArray} (h : VR P E v (.c (.str s))) : v = .string s := by
  have := vr_c_inv h; cases this; rfl

theorem vr_int? {P : Program} {E : Env} {v : Value} {x : AV} {n : Int} (h : VR P E v x) (hn : x.int? = some n) : ∃ k, v = .int k n := by
  unfold AV.int? at hn
  split at hn
  · simp at hn; subst hn; exact ⟨_, vr_int h⟩
  · cases hn

theorem run_iop {P : Program} {w : World} {op : BinOp} {T : TypeId} {k k' : IntKind} {a b : Int} {x : C} (hk : isShift op = true ∨ k = k') (h : iop op k a b = some x) :
    ∃ u, (binOp op T (.int k a) (.int k' b)).run P w = .ok u w ∧ Rd P w (fun _ _ => False) u x := by
  cases op <;> simp only [isShift, Bool.false_eq_true, false_or, true_or] at hk <;> simp only [iop] at h
  case quo =>
    subst hk
    split at h
    · cases h
    · rename_i hb
      cases h
      exact ⟨_, by simp [binOp, Op.intDiv, hb], .int _ _⟩
  case rem =>
    subst hk
    split at h
    · cases h
    · rename_i hb
      cases h
      exact ⟨_, by simp [binOp, Op.intDiv, hb], .int _ _⟩
  case shl =>
    split at h
    · cases h
    · rename_i hb
      cases h
      exact ⟨_, by simp [binOp, Op.shift, hb], .int _ _⟩
  case shr =>
    split at h
    · cases h
    · rename_i hb
      cases h
      exact ⟨_, by simp [binOp, Op.shift, hb], .int _ _⟩
  all_goals first
    | (cases h; done)
    | (subst hk; cases h; exact ⟨_, by simp [binOp, Op.intArith, Op.intBits, Op.intCmp]; rfl, by first | exact .int _ _ | exact .bool _⟩)

theorem Rd.any {P : Program} {w : World} {S : Nat → Nat → Prop} {v : Value} {x : C} (h : Rd P w (fun _ _ => False) v x) : Rd P w S v x :=
  h.mono (fun _ _ _ hf _ => hf.elim) (fun _ _ hf => hf.elim)

theorem equal_bool {P : Program} {T : TypeId} (h : P.underlying T = some .bool) (a b : Bool) (w : World) : (Op.equal T (.bool a) (.bool b)).run P w = .ok (a == b) w := by
  unfold Op.equal Op.maxDepth
  rw [show (10000 : Nat) = 9999 + 1 from rfl]
  generalize 9999 = d
  simp only [Op.equalIn, Sem.run_bind, run_underlying h, Result.andThen_ok, Sem.run_pure]

theorem ybin_sound {P : Program} {E : Env} {op : BinOp} {T : TypeId} {x y v : AV} {xo yo : Operand} {a b : Value} (hx : VR P E a x) (hy : VR P E b y) (h : ybin P op T x y = some v) :
    ∃ u, (do eqGuard op T xo yo a b; binOp op T a b : Sem Value).run P E.w = .ok u E.w ∧ VR P E u v := by
  unfold ybin at h
  split at h
  · rename_i k m k' n
    have ha := vr_int hx
    have hb := vr_int hy
    subst ha hb
    split at h
    · rename_i hk
      cases hi : iop op k m n with
      | none => simp [hi] at h
      | some c =>
        simp [hi] at h
        subst h
        obtain ⟨u, hr, hd⟩ := run_iop (P := P) (w := E.w) (T := T) hk hi
        refine ⟨u, ?_, .c _ _ hd.any⟩
        have hg : (eqGuard op T xo yo (.int k m) (.int k' n)).run P E.w = .ok () E.w := by
          cases op <;> simp [eqGuard]
        simp only [Sem.run_bind, hg, Result.andThen_ok, hr]
    · cases h
  · rename_i p q
    have ha := vr_bool hx
    have hb := vr_bool hy
    subst ha hb
    split at h
    · rename_i hT
      cases h
      exact ⟨.bool (p == q), by simp [eqGuard, binOp, equal_bool hT], .c _ _ (.bool _)⟩
    · rename_i hT
      cases h
      exact ⟨.bool (!(p == q)), by simp [eqGuard, binOp, equal_bool hT], .c _ _ (.bool _)⟩
    · cases h
  · rename_i p q
    have ha := vr_str hx
    have hb := vr_str hy
    subst ha hb
    split at h
    · split at h
      · rename_i hs
        cases h
        exact ⟨.string (p ++ q), by simp [eqGuard, binOp, Op.stringOp, hs], .c _ _ (.str _)⟩
      · cases h
    · cases h
      exact ⟨.bool (p.toList == q.toList), by simp [eqGuard, binOp, Op.stringOp], .c _ _ (.bool _)⟩
    · cases h
      exact ⟨.bool (!(p.toList == q.toList)), by simp [eqGuard, binOp, Op.stringOp], .c _ _ (.bool _)⟩
    · cases h
  · cases h

theorem yun_sound {P : Program} {E : Env} {op : UnOp} {x v : AV} {a : Value} (hx : VR P E a x) (h : yun op x = some v) :
    ∃ u, (Op.unary op a).run P E.w = .ok u E.w ∧ VR P E u v := by
  unfold yun at h
  split at h
  · have ha := vr_bool hx
    subst ha
    cases h
    exact ⟨.bool _, by simp [Op.unary], .c _ _ (.bool _)⟩
  · have ha := vr_int hx
    subst ha
    cases h
    exact ⟨.int _ _, by simp [Op.unary, Op.intArith], .c _ _ (.int _ _)⟩
  · cases h

theorem run_isAgg {P : Program} {t : TypeId} {b : Bool} (h : isAggT P t = some b) (w : World) : (isAgg t).run P w = .ok b w := by
  unfold isAggT at h
  split at h
  · rename_i hu; cases h; simp [isAgg, underlying, hu]
  · rename_i hu; cases h; simp [isAgg, underlying, hu]
  · rename_i hu; cases h
    rename_i d _ h1 h2
    cases d <;> first | (exfalso; exact h1 _ rfl) | (exfalso; exact h2 _ _ rfl) | simp [isAgg, underlying, hu]
  · cases h

theorem cellsOf_size {P : Program} {t : TypeId} {i : TypeInfo} (h : P.info? t = some i) : i.size = P.cellsOf t := by simp [Program.cellsOf, h]

theorem run_sizeOf {P : Program} {t : TypeId} (h : (P.info? t).isSome) (w : World) : (sizeOf t).run P w = .ok (P.cellsOf t) w := by
  cases hi : P.info? t with
  | none => simp [hi] at h
  | some i => simp [sizeOf, typeInfo, hi, Program.cellsOf]

theorem addr_add (b o n : Nat) : (⟨b, o, none⟩ : Addr).add n = ⟨b, o + n, none⟩ := by
  unfold Addr.add; split <;> simp_all

theorem run_load_cell {P : Program} {w : World} {a : Addr} {v : Value} (h : w.cell? a = some v) : (load a).run P w = .ok v w := by
  simp [load, Sem.run, h]

/-- A struct's cells, read one by one. -/
theorem run_loadVar_agg {P : Program} {w : World} {t : TypeId} {b o : Nat} {cs : List Value} (ht : isAggT P t = some true) (hi : (P.info? t).isSome) (hn : cs.length = P.cellsOf t)
    (h : ∀ (j : Nat) (v : Value), cs[j]? = some v → w.cell? ⟨b, o + j, none⟩ = some v) : (loadVar t ⟨b, o, none⟩).run P w = .ok (.agg cs.toArray) w := by
  have hl := run_loadCells_list (P := P) w ⟨b, o, none⟩ cs (fun j v hv => by rw [addr_add]; exact h j v hv)
  rw [hn] at hl
  simp only [loadVar, Sem.run_bind, run_isAgg ht, Result.andThen_ok, if_true, run_sizeOf hi, hl, Sem.run_pure]

theorem run_loadVar_one {P : Program} {w : World} {t : TypeId} {a : Addr} {v : Value} (ht : isAggT P t = some false) (h : w.cell? a = some v) : (loadVar t a).run P w = .ok v w := by
  simp only [loadVar, Sem.run_bind, run_isAgg ht, Result.andThen_ok, Bool.false_eq_true, if_false, run_load_cell h]

theorem yload_sound {P : Program} {E : Env} {m : Nat → List AV} (hm : MemOK P E m) {t : TypeId} {x v : AV} {a : Value} (hx : VR P E a x) (h : yload P t m x = some v) :
    ∃ u, (Instr.loadAt t a).run P E.w = .ok u E.w ∧ VR P E u v := by
  unfold yload at h
  split at h
  · rename_i l off
    cases hx
    simp only [Instr.loadAt, Instr.sureAddr, Sem.run_bind, Sem.run_pure, Result.andThen_ok]
    split at h
    · rename_i ht
      split at h
      · rename_i hc
        cases h
        by_cases hz : m l = []
        · simp only [hz, List.length_nil] at hc
          have h0 : P.cellsOf t = 0 := by omega
          refine ⟨_, run_loadVar_agg (cs := []) ht hc.2 (by simp [h0]) (by simp), ?_⟩
          rw [hz, h0]
          exact .agg _ _ rfl (by simp) (by simp)
        · obtain ⟨cs, e, fz, hh, hn, hr⟩ := hm l hz
          have hlen : ((cs.toList.drop off).take (P.cellsOf t)).length = P.cellsOf t := by simp; omega
          have hget : ∀ j v, ((cs.toList.drop off).take (P.cellsOf t))[j]? = some v → cs[off + j]? = some v := by
            intro j v hv
            rw [List.getElem?_take] at hv
            split at hv
            · rw [List.getElem?_drop] at hv; simpa using hv
            · cases hv
          refine ⟨_, run_loadVar_agg (cs := (cs.toList.drop off).take (P.cellsOf t)) ht hc.2 hlen ?_, ?_⟩
          · intro j v hv
            rw [cell_of_row _ _ _ _ _ _ hh]
            exact hget j v hv
          · refine .agg _ _ (by simp; omega) ?_ ?_
            · intro i v hv
              simp only [List.getElem?_toArray] at hv
              have h1 := hget i v hv
              have hi0 : i < P.cellsOf t := by have := (List.getElem?_eq_some_iff.1 hv).1; omega
              have hi : off + i < (m l).length := by omega
              exact (hr _ _ _ h1 (List.getElem?_eq_getElem hi)).2
            · intro i v x hv hx
              simp only [List.getElem?_toArray] at hv
              have h1 := hget i v hv
              have h2 : (m l)[off + i]? = some x := by
                rw [List.getElem?_take] at hx
                split at hx
                · rw [List.getElem?_drop] at hx; exact hx
                · cases hx
              exact (hr _ _ _ h1 h2).1
      · cases h
    · rename_i ht
      have hz : m l ≠ [] := by intro hz; rw [hz] at h; simp at h
      obtain ⟨cs, e, fz, hh, hn, hr⟩ := hm l hz
      have hi : off < cs.size := Nat.lt_of_lt_of_le (List.getElem?_eq_some_iff.1 h).1 hn
      have hc : cs[off]? = some cs[off] := Array.getElem?_eq_getElem hi
      exact ⟨_, run_loadVar_one ht (by rw [cell_of_row _ _ _ _ _ _ hh]; exact hc), (hr _ _ _ hc h).1⟩
    · cases h
  · rename_i xs
    cases hx with
    | el b o _ vs hr =>
    simp only [Instr.loadAt, Instr.sureAddr, Sem.run_bind, Sem.run_pure, Result.andThen_ok]
    split at h
    · rename_i ht
      split at h
      · rename_i hc
        cases h
        have hlen : ((List.range (P.cellsOf t)).map vs).length = P.cellsOf t := by simp
        have hget : ∀ j v, ((List.range (P.cellsOf t)).map vs)[j]? = some v → j < P.cellsOf t ∧ vs j = v := by
          intro j v hv
          simp only [List.getElem?_map, Option.map_eq_some_iff] at hv
          obtain ⟨a, ha, rfl⟩ := hv
          have := List.getElem?_eq_some_iff.1 ha
          obtain ⟨h1, h2⟩ := this
          simp at h1 h2
          subst h2
          exact ⟨h1, rfl⟩
        refine ⟨_, run_loadVar_agg (cs := (List.range (P.cellsOf t)).map vs) ht hc.2 hlen ?_, ?_⟩
        · intro j v hv
          obtain ⟨hj, rfl⟩ := hget j v hv
          have hj' : j < xs.length := by omega
          exact (hr j _ (List.getElem?_eq_getElem hj')).1.1
        · refine .agg _ _ (by simp; omega) ?_ ?_
          · intro i v hv
            simp only [List.getElem?_toArray] at hv
            obtain ⟨hj, rfl⟩ := hget i v hv
            have hj' : i < xs.length := by omega
            exact (hr i _ (List.getElem?_eq_getElem hj')).2.oneCell
          · intro i v x hv hx
            simp only [List.getElem?_toArray] at hv
            obtain ⟨hj, rfl⟩ := hget i v hv
            simp only [List.getElem?_map, Option.map_eq_some_iff] at hx
            obtain ⟨y, hy, rfl⟩ := hx
            rw [List.getElem?_take, if_pos hj] at hy
            exact .c _ _ (hr i y hy).2
      · cases h
    · rename_i ht
      cases hx0 : xs[0]? with
      | none => simp [hx0] at h
      | some y =>
        simp [hx0] at h
        subst h
        have := hr 0 y hx0
        exact ⟨_, run_loadVar_one ht (by simpa using this.1.1), .c _ _ this.2⟩
    · cases h
  · cases h

end Go.Rb
namespace Go.Rb

theorem yfield_sound {P : Program} {E : Env} {s : TypeId} {f : Nat} {x v : AV} {a : Value} (hx : VR P E a x) (h : yfield P s f x = some v) :
    ∃ u, (Instr.fieldAt s a f).run P E.w = .ok u E.w ∧ VR P E u v := by
  unfold yfield at h
  split at h
  · rename_i fs hu
    split at h
    · rename_i fd hf
      split at h
      · rename_i hz
        have hi : (P.info? fd.type).isSome := by
          cases hq : P.info? fd.type with
          | none => simp [Program.cellsOf, hq] at hz
          | some i => rfl
        have hp : ∀ (b o : Nat), (fieldPlace ⟨b, o, none⟩ fd).run P E.w = .ok ⟨b, o + fd.offset, none⟩ E.w := by
          intro b o
          simp only [fieldPlace, Sem.run_bind, run_sizeOf hi, Result.andThen_ok, hz, if_false, Sem.run_pure, addr_add]
        split at h
        · cases h
          cases hx
          rename_i hA
          refine ⟨_, ?_, .ptr _ _ hA⟩
          simp only [Instr.fieldAt, Sem.run_bind, run_underlying hu, Result.andThen_ok, hf, Instr.sureAddr, Sem.run_pure, hp]
        · cases h
          cases hx with
          | el b o _ vs hr =>
          refine ⟨.pointer (some ⟨b, o + fd.offset, none⟩), ?_, .el _ _ _ (fun j => vs (fd.offset + j)) ?_⟩
          · simp only [Instr.fieldAt, Sem.run_bind, run_underlying hu, Result.andThen_ok, hf, Instr.sureAddr, Sem.run_pure, hp]
          · intro j x hj
            rw [List.getElem?_drop] at hj
            have := hr _ _ hj
            rw [Nat.add_assoc]
            exact this
        · cases h
      · cases h
    · cases h
  · cases h

theorem run_asIntOf {P : Program} {w : World} (k : IntKind) (n : Int) : (asIntOf (.int k n)).run P w = .ok (k, n) w := rfl

theorem yindex_sound {P : Program} {E : Env} {t : TypeId} {x i v : AV} {a b : Value} (hx : VR P E a x) (hi : VR P E b i) (h : yindex P t x i = some v) :
    ∃ u, (Instr.indexAt t a b).run P E.w = .ok u E.w ∧ VR P E u v := by
  unfold yindex at h
  split at h
  · rename_i e n hu hn
    obtain ⟨k, rfl⟩ := vr_int? hi hn
    split at h
    · rename_i l off len cap e'
      split at h
      · rename_i hc
        obtain ⟨h0, h1, rfl, hs⟩ := hc
        cases h
        cases hx
        case arr0 => omega
        rename_i hA _ _ _
        refine ⟨_, ?_, .ptr _ _ hA⟩
        simp only [Instr.indexAt, Sem.run_bind, run_asIntOf, Result.andThen_ok, run_underlying hu, Sem.run_pure, Bool.and_false, h0, h1, and_self, if_true, run_sizeOf hs, addr_add]
      · cases h
    · split at h
      · rename_i rows hr
        split at h
        · rename_i hc
          obtain ⟨h0, h1, hs⟩ := hc
          cases h
          have hd := hx.rows hr
          have hlt : n.toNat < rows.length := by omega
          obtain ⟨b, off, cap, vs, rfl, hlen, hcell⟩ := hd.row (List.getElem?_eq_getElem hlt)
          have hg : rows.getD n.toNat [] = rows[n.toNat] := by simp [List.getD, List.getElem?_eq_getElem hlt]
          rw [hg]
          refine ⟨_, ?_, .el b (off + n.toNat * P.cellsOf e) _ vs hcell⟩
          simp only [Instr.indexAt, Sem.run_bind, run_asIntOf, Result.andThen_ok, run_underlying hu, Sem.run_pure, Bool.and_false, h0, h1, and_self, if_true, run_sizeOf hs, addr_add]
        · cases h
      · cases h
  · cases h

theorem run_bound {P : Program} {E : Env} {y : Nat} {code : BoundsCode} {x : AV} {a : Value} {d l : Nat} (hx : VR P E a x) (h : ybound d (some x) = some l) (hl : l ≤ y) :
    (Instr.sliceBound a y code).run P E.w = .ok l E.w := by
  simp only [ybound] at h
  split at h
  · rename_i n hn
    obtain ⟨k, rfl⟩ := vr_int? hx hn
    split at h
    · rename_i h0
      cases h
      have : 0 ≤ n ∧ n ≤ (y : Int) := ⟨h0, by omega⟩
      simp only [Instr.sliceBound, Sem.run_bind, run_asIntOf, Result.andThen_ok, this, and_self, if_true, Sem.run_pure]
    · cases h
  · cases h

/-- A bound of a slice expression that runs to l. -/
def BoundIs (P : Program) (w : World) (d l : Nat) (v : Option Value) : Prop :=
  (v = none ∧ l = d) ∨ ∃ u, v = some u ∧ ∀ (y : Nat) (code : BoundsCode), l ≤ y → (Instr.sliceBound u y code).run P w = .ok l w

theorem boundIs {P : Program} {E : Env} {d l : Nat} {lo : Option AV} {vlo : Option Value} (hlo : ∀ y, lo = some y → ∃ u, vlo = some u ∧ VR P E u y) (hlo' : lo = none → vlo = none)
    (hl : ybound d lo = some l) : BoundIs P E.w d l vlo := by
  cases lo with
  | none => simp only [ybound, Option.some.injEq] at hl; exact .inl ⟨hlo' rfl, hl.symm⟩
  | some x => obtain ⟨u, h, hv⟩ := hlo _ rfl; exact .inr ⟨u, h, fun y code hy => run_bound hv hl hy⟩

theorem run_sliceBounds {P : Program} {w : World} (q : Bool) {len cap l k : Nat} {vlo vhi : Option Value} (hl : BoundIs P w 0 l vlo) (hk : BoundIs P w len k vhi) (hlk : l ≤ k) (hkc : k ≤ cap) :
    (Instr.sliceBounds q len cap vlo vhi none).run P w = .ok (l, k, cap) w := by
  rcases hl with ⟨rfl, rfl⟩ | ⟨u, rfl, hu⟩ <;> rcases hk with ⟨rfl, rfl⟩ | ⟨u', rfl, hu'⟩
  · simp only [Instr.sliceBounds, Sem.run_bind, Sem.run_pure, Result.andThen_ok]
  · simp only [Instr.sliceBounds, Sem.run_bind, Sem.run_pure, Result.andThen_ok, hu' _ _ hkc]
  · simp only [Instr.sliceBounds, Sem.run_bind, Sem.run_pure, Result.andThen_ok, hu _ _ hlk]
  · simp only [Instr.sliceBounds, Sem.run_bind, Sem.run_pure, Result.andThen_ok, hu _ _ hlk, hu' _ _ hkc]

theorem run_sliceBounds3 {P : Program} {w : World} (q : Bool) {len cap l k m : Nat} {vlo : Option Value} {uhi umx : Value} (hl : BoundIs P w 0 l vlo) (hk : BoundIs P w len k (some uhi))
    (hm : BoundIs P w len m (some umx)) (hlk : l ≤ k) (hkm : k ≤ m) (hmc : m ≤ cap) :
    (Instr.sliceBounds q len cap vlo (some uhi) (some umx)).run P w = .ok (l, k, m) w := by
  rcases hk with ⟨h, _⟩ | ⟨u', h', hu'⟩
  · cases h
  rcases hm with ⟨h, _⟩ | ⟨u2, h2, hu2⟩
  · cases h
  cases h'
  cases h2
  rcases hl with ⟨rfl, rfl⟩ | ⟨u, rfl, hu⟩
  · simp only [Instr.sliceBounds, Sem.run_bind, Sem.run_pure, Result.andThen_ok, hu' _ _ hkm, hu2 _ _ hmc]
  · simp only [Instr.sliceBounds, Sem.run_bind, Sem.run_pure, Result.andThen_ok, hu' _ _ hkm, hu2 _ _ hmc, hu _ _ hlk]

theorem Rd.part {P : Program} {w : World} {S : Nat → Nat → Prop} {a : Option Addr} {n cap : Nat} {e : TypeId} {rows : List (List C)} (h : Rd P w S (.slice a n cap) (.sl e rows)) (l k c : Nat)
    (hl : l ≤ k) (hk : k ≤ rows.length) (hc : k - l ≤ c) (q : Bool) (hq : q = true → k = l) :
    Rd P w S (.slice (if q = true then a else a.map (·.add (l * P.cellsOf e))) (k - l) c) (.sl e ((rows.take k).drop l)) := by
  by_cases hkl : k = l
  · subst hkl
    rw [Nat.sub_self, List.drop_of_length_le (by simp; omega)]
    exact .emp _ _ _
  · have hq' : q = false := by cases q <;> simp_all
    subst hq'
    simp only [Bool.false_eq_true, if_false]
    generalize hx : C.sl e rows = x at h
    generalize hv : Value.slice a n cap = v at h
    cases h with
    | emp e' a cap => cases hx; simp at hk; omega
    | sl e' b off n' cap' rows' vs hn hcap hsz hcell hrd =>
      cases hx; cases hv
      simp only [Option.map_some, addr_add]
      have hget : ∀ (i : Nat) (r : List C), ((rows.take k).drop l)[i]? = some r → rows[l + i]? = some r := by
        intro i r hi
        rw [List.getElem?_drop, List.getElem?_take] at hi
        split at hi
        · exact hi
        · cases hi
      refine .sl e b _ _ _ _ (fun i j => vs (l + i) j) (by simp; omega) hc ?_ ?_ ?_
      · intro i r hi; exact hsz _ _ (hget i r hi)
      · intro i j r c hi hj
        have := hcell _ j r c (hget i r hi) hj
        rw [Nat.add_mul, Nat.add_assoc] at this
        rw [Nat.add_assoc]
        exact this
      · intro i j r c hi hj; exact hrd _ _ _ _ (hget i r hi) hj
    | _ => cases hx

theorem yslice_sound {P : Program} {E : Env} {t : TypeId} {x v : AV} {lo hi mx : Option AV} {a : Value} {vlo vhi vmx : Option Value} (hx : VR P E a x)
    (hlo : ∀ y, lo = some y → ∃ u, vlo = some u ∧ VR P E u y) (hlo' : lo = none → vlo = none)
    (hhi : ∀ y, hi = some y → ∃ u, vhi = some u ∧ VR P E u y) (hhi' : hi = none → vhi = none)
    (hmx : ∀ y, mx = some y → ∃ u, vmx = some u ∧ VR P E u y) (hmx' : mx = none → vmx = none)
    (h : yslice P t x lo hi mx = some v) : ∃ u, (Instr.sliceAt t a vlo vhi vmx).run P E.w = .ok u E.w ∧ VR P E u v := by
  unfold yslice at h
  split at h
  · rename_i e hu
    split at h
    · rename_i rows hr
      split at h
      · rename_i l k hl hk
        split at h
        · rename_i hc
          obtain ⟨hlk, hkn, hs⟩ := hc
          have hd := hx.rows hr
          obtain ⟨ad, cap, rfl, hcap⟩ := hd.slice
          have hlB := boundIs hlo hlo' hl
          have hkB := boundIs hhi hhi' hk
          split at h
          · cases h
            obtain rfl := hmx' rfl
            refine ⟨_, ?_, .c _ _ (hd.part l k (cap - l) hlk hkn (by omega) (decide (cap = l)) (by simp; omega))⟩
            simp only [Instr.sliceAt, Sem.run_bind, run_underlying hu, Result.andThen_ok, Instr.slice, Sem.run_pure, run_sliceBounds true hlB hkB hlk (Nat.le_trans hkn hcap), run_sizeOf hs, decide_eq_true_eq]
          · rename_i mm hh
            split at h
            · rename_i hmm
              cases h
              obtain ⟨u, rfl, hvu⟩ := hhi _ rfl
              obtain ⟨u2, rfl, hvu2⟩ := hmx _ rfl
              have hmB : BoundIs P E.w rows.length k (some u2) := boundIs (lo := some mm) (fun y hy => by cases hy; exact ⟨_, rfl, hvu2⟩) (fun h => by cases h) (by simp [ybound, hmm])
              refine ⟨_, ?_, .own _ _ _ _ _ (hd.part l k (k - l) hlk hkn (by omega) (decide (k = l)) (by simp)) (.inl ⟨_, _, rfl⟩)⟩
              simp only [Instr.sliceAt, Sem.run_bind, run_underlying hu, Result.andThen_ok, Instr.slice, Sem.run_pure, run_sliceBounds3 true hlB hkB hmB hlk (Nat.le_refl _) (Nat.le_trans hkn hcap), run_sizeOf hs, decide_eq_true_eq]
            · cases h
          · cases h
        · cases h
      · cases h
    · cases h
  · rename_i hu
    split at h
    · rename_i s
      have ha := vr_str hx
      subst ha
      split at h
      · rename_i l k hl hk
        split at h
        · rename_i hc
          obtain ⟨hlk, hkn⟩ := hc
          cases h
          obtain rfl := hmx' rfl
          have hlB := boundIs hlo hlo' hl
          have hkB := boundIs hhi hhi' hk
          refine ⟨_, ?_, .c _ _ (.str _)⟩
          simp only [Instr.sliceAt, Sem.run_bind, run_underlying hu, Result.andThen_ok, Instr.slice, Sem.run_pure, run_sliceBounds false hlB hkB hlk hkn, Option.isSome_none, Bool.false_eq_true, if_false]
        · cases h
      · cases h
    · cases h
  · cases h

theorem ysliceA_sound {P : Program} {E : Env} {t e : TypeId} {l off len cap : Nat} {v : AV} {lo hi mx : Option AV} {a : Value} {vlo vhi vmx : Option Value} (hx : VR P E a (.arr l off len cap e))
    (hlo : ∀ y, lo = some y → ∃ u, vlo = some u ∧ VR P E u y) (hlo' : lo = none → vlo = none)
    (hhi : ∀ y, hi = some y → ∃ u, vhi = some u ∧ VR P E u y) (hhi' : hi = none → vhi = none)
    (hmx : ∀ y, mx = some y → ∃ u, vmx = some u ∧ VR P E u y) (hmx' : mx = none → vmx = none)
    (h : ysliceA P t l off len cap e lo hi mx = some v) : ∃ u, (Instr.sliceAt t a vlo vhi vmx).run P E.w = .ok u E.w ∧ VR P E u v := by
  unfold ysliceA at h
  split at h
  · rename_i e' hu
    split at h
    · rename_i hc
      obtain ⟨rfl, hs⟩ := hc
      split at h
      · rename_i x k hl hk
        have hlB := boundIs hlo hlo' hl
        have hkB := boundIs hhi hhi' hk
        -- what the value is
        obtain ⟨ad, c, rfl, hcl, hcc, hval⟩ : ∃ ad c, a = .slice ad len c ∧ len ≤ c ∧ cap ≤ c ∧ ∀ (x k m : Nat), x ≤ k → k ≤ m → m ≤ c →
            ∀ capb, capb ≤ m - x → VR P E (.slice (if decide (m = x) = true then ad else ad.map (·.add (x * P.cellsOf e'))) (k - x) (m - x)) (.arr l (off + x * P.cellsOf e') (k - x) capb e') := by
          cases hx with
          | arr _ _ _ _ c _ hA hc hl hsz hm =>
            refine ⟨_, c, rfl, hl, hc, fun x k m h1 h2 h3 capb hb => ?_⟩
            by_cases hmx : m = x
            · subst hmx
              have e1 : k - m = 0 := by omega
              have e2 : capb = 0 := by omega
              rw [e1, e2, Nat.sub_self]
              exact .arr0 _ _ _ _
            · rw [if_neg (by simp [hmx])]
              simp only [Option.map_some, addr_add]
              refine .arr _ _ _ _ _ _ hA hb (by omega) ?_ (by omega)
              have : x * P.cellsOf e' + (m - x) * P.cellsOf e' = m * P.cellsOf e' := by rw [← Nat.add_mul]; congr 1; omega
              have h4 : m * P.cellsOf e' ≤ c * P.cellsOf e' := Nat.mul_le_mul_right _ h3
              omega
          | arr0 _ _ ad _ =>
            refine ⟨ad, 0, rfl, Nat.le_refl _, Nat.le_refl _, fun x k m h1 h2 h3 capb hb => ?_⟩
            have e1 : k - x = 0 := by omega
            have e2 : capb = 0 := by omega
            have e3 : m - x = 0 := by omega
            rw [e1, e2, e3]
            exact .arr0 _ _ _ _
        split at h
        · split at h
          · rename_i hb
            cases h
            obtain rfl := hmx' rfl
            refine ⟨_, ?_, hval x k c hb.1 (by omega) (Nat.le_refl _) (cap - x) (by omega)⟩
            simp only [Instr.sliceAt, Sem.run_bind, run_underlying hu, Result.andThen_ok, Instr.slice, Sem.run_pure, run_sliceBounds true hlB hkB hb.1 (show k ≤ c by omega), run_sizeOf hs, decide_eq_true_eq]
          · cases h
        · rename_i mm hh
          split at h
          · rename_i m hm
            split at h
            · rename_i hb
              cases h
              obtain ⟨u, rfl, hvu⟩ := hhi _ rfl
              obtain ⟨u2, rfl, hvu2⟩ := hmx _ rfl
              have hmB : BoundIs P E.w len m (some u2) := boundIs (lo := some mm) (fun y hy => by cases hy; exact ⟨_, rfl, hvu2⟩) (fun h => by cases h) (by simpa [ybound] using hm)
              refine ⟨_, ?_, hval x k m hb.1 hb.2.1 (by omega) (m - x) (Nat.le_refl _)⟩
              simp only [Instr.sliceAt, Sem.run_bind, run_underlying hu, Result.andThen_ok, Instr.slice, Sem.run_pure, run_sliceBounds3 true hlB hkB hmB hb.1 hb.2.1 (show m ≤ c by omega), run_sizeOf hs, decide_eq_true_eq]
            · cases h
          · cases h
        · cases h
      · cases h
    · cases h
  · cases h

theorem yslice2_sound {P : Program} {E : Env} {t : TypeId} {x v : AV} {lo hi mx : Option AV} {a : Value} {vlo vhi vmx : Option Value} (hx : VR P E a x)
    (hlo : ∀ y, lo = some y → ∃ u, vlo = some u ∧ VR P E u y) (hlo' : lo = none → vlo = none)
    (hhi : ∀ y, hi = some y → ∃ u, vhi = some u ∧ VR P E u y) (hhi' : hi = none → vhi = none)
    (hmx : ∀ y, mx = some y → ∃ u, vmx = some u ∧ VR P E u y) (hmx' : mx = none → vmx = none)
    (h : yslice2 P t x lo hi mx = some v) : ∃ u, (Instr.sliceAt t a vlo vhi vmx).run P E.w = .ok u E.w ∧ VR P E u v := by
  unfold yslice2 at h
  split at h
  · exact ysliceA_sound hx hlo hlo' hhi hhi' hmx hmx' h
  · exact yslice_sound hx hlo hlo' hhi hhi' hmx hmx' h

theorem ycap_sound {P : Program} {E : Env} {t ty : TypeId} {x v : AV} {a : Value} (hx : VR P E a x) (h : ycap P t x = some v) :
    ∃ u, (Builtin.cap_ #[t] ty #[a]).run P E.w = .ok u E.w ∧ VR P E u v := by
  unfold ycap at h
  split at h
  · split at h
    · rename_i e hu
      cases h
      cases hx
      exact ⟨_, by simp only [Builtin.cap_, List.getElem?_toArray, List.getElem?_cons_zero, Sem.run_bind, run_underlying hu, Result.andThen_ok, goInt, Sem.run_pure]; rfl, .c _ _ (.int _ _)⟩
    · cases h
  · cases h

theorem ylen_sound {P : Program} {E : Env} {t ty : TypeId} {x v : AV} {a : Value} (hx : VR P E a x) (h : ylen P t x = some v) :
    ∃ u, (Builtin.len_ #[t] ty #[a]).run P E.w = .ok u E.w ∧ VR P E u v := by
  unfold ylen at h
  split at h
  · rename_i e hu
    split at h
    · cases h
      cases hx <;> exact ⟨_, by simp only [Builtin.len_, List.getElem?_toArray, List.getElem?_cons_zero, Sem.run_bind, run_underlying hu, Result.andThen_ok, goInt, Sem.run_pure], .c _ _ (.int _ _)⟩
    · split at h
      · rename_i rows hr
        cases h
        obtain ⟨ad, cap, rfl, _⟩ := (hx.rows hr).slice
        exact ⟨_, by simp only [Builtin.len_, List.getElem?_toArray, List.getElem?_cons_zero, Sem.run_bind, run_underlying hu, Result.andThen_ok, goInt, Sem.run_pure], .c _ _ (.int _ _)⟩
      · cases h
  · rename_i hu
    split at h
    · cases h
      have ha := vr_str hx
      subst ha
      exact ⟨_, by simp only [Builtin.len_, List.getElem?_toArray, List.getElem?_cons_zero, Sem.run_bind, run_underlying hu, Result.andThen_ok, goInt, Sem.run_pure], .c _ _ (.int _ _)⟩
    · cases h
  · cases h

end Go.Rb
namespace Go.Rb

theorem ymm_sound {P : Program} {E : Env} {mn : Bool} {ts : Array TypeId} {ty : TypeId} {x y v : AV} {a b : Value} (hx : VR P E a x) (hy : VR P E b y) (h : ymm mn x y = some v) :
    ∃ u, (if mn = true then Builtin.min_ ts ty #[a, b] else Builtin.max_ ts ty #[a, b]).run P E.w = .ok u E.w ∧ VR P E u v := by
  unfold ymm at h
  split at h
  · have ha := vr_int hx
    have hb := vr_int hy
    subst ha hb
    cases h
    cases mn
    · exact ⟨.int _ _, by simp [Builtin.max_, Builtin.max2], .c _ _ (.int _ _)⟩
    · exact ⟨.int _ _, by simp [Builtin.min_, Builtin.min2], .c _ _ (.int _ _)⟩
  · cases h

/-- Cells of a value and what is known of them. -/
def CellsR (P : Program) (E : Env) (cs : Array Value) (xs : List AV) : Prop :=
  cs.size = xs.length ∧ ∀ (i : Nat) (v : Value) (x : AV), cs[i]? = some v → xs[i]? = some x → VR P E v x ∧ v.oneCell' = true

theorem VR.cells {P : Program} {E : Env} {v : Value} {x : AV} {xs : List AV} (h : VR P E v x) (hx : x.cells = some xs) : CellsR P E v.cells xs := by
  have one : ∀ (v : Value) (x : AV), VR P E v x → v.oneCell' = true → CellsR P E v.cells [x] := by
    intro v x hv h1
    have hc : v.cells = #[v] := by cases v <;> first | rfl | (simp [Value.oneCell'] at h1)
    rw [hc]
    refine ⟨rfl, fun i u y hu hy => ?_⟩
    cases i with
    | zero => simp at hu hy; subst hu hy; exact ⟨hv, h1⟩
    | succ i => simp at hy
  cases h with
  | agg vs xs' hn h1 h => simp [AV.cells] at hx; subst hx; exact ⟨hn, fun i v x hv hx => ⟨h i v x hv hx, h1 i v hv⟩⟩
  | tup => simp [AV.cells] at hx
  | und => simp [AV.cells] at hx
  | any => simp [AV.cells] at hx
  | c v x h => simp [AV.cells] at hx; subst hx; exact one _ _ (.c _ _ h) h.oneCell
  | nils => simp [AV.cells] at hx; subst hx; exact one _ _ .nils rfl
  | own v nw id e rows h ho => simp [AV.cells] at hx; subst hx; exact one _ _ (.own _ _ _ _ _ h ho) h.oneCell
  | arr l off len cap c e h hc hl hs hm => simp [AV.cells] at hx; subst hx; exact one _ _ (.arr _ _ _ _ _ _ h hc hl hs hm) rfl
  | arr0 l off a e => simp [AV.cells] at hx; subst hx; exact one _ _ (.arr0 _ _ _ _) rfl
  | ptr l off h => simp [AV.cells] at hx; subst hx; exact one _ _ (.ptr _ _ h) rfl
  | el b o xs' vs h => simp [AV.cells] at hx; subst hx; exact one _ _ (.el _ _ _ _ h) rfl
  | fn f cs caps hn h => simp [AV.cells] at hx; subst hx; exact one _ _ (.fn _ _ _ hn h) rfl

theorem CellsR.agg {P : Program} {E : Env} {cs : Array Value} {xs : List AV} (h : CellsR P E cs xs) : VR P E (.agg cs) (.agg xs) := by
  refine .agg _ _ h.1 (fun i v hv => ?_) (fun i v x hv hx => (h.2 i v x hv hx).1)
  have hi : i < xs.length := by rw [← h.1]; exact (Array.getElem?_eq_some_iff.1 hv).1
  exact (h.2 i v _ hv (List.getElem?_eq_getElem hi)).2

/-- Cells written one by one. -/
def putCells (cs : Array Value) (off : Nat) : List Value → Nat → Array Value
  | [], _ => cs
  | v :: rest, j => putCells (cs.setIfInBounds (off + j) v) off rest (j + 1)

theorem putCells_size (off : Nat) : ∀ (l : List Value) (j : Nat) (cs : Array Value), (putCells cs off l j).size = cs.size
  | [], _, _ => rfl
  | v :: rest, j, cs => by simp [putCells, putCells_size off rest]

theorem putCells_get (off : Nat) : ∀ (l : List Value) (j : Nat) (cs : Array Value) (k : Nat), off + j + l.length ≤ cs.size →
    (putCells cs off l j)[k]? = if off + j ≤ k ∧ k < off + j + l.length then l[k - (off + j)]? else cs[k]?
  | [], j, cs, k, _ => by simp [putCells]; omega
  | v :: rest, j, cs, k, h => by
    simp only [List.length_cons] at h
    rw [putCells, putCells_get off rest (j + 1) _ k (by simp; omega)]
    simp only [List.length_cons]
    by_cases h1 : off + (j + 1) ≤ k ∧ k < off + (j + 1) + rest.length
    · rw [if_pos h1, if_pos (by omega), show k - (off + j) = (k - (off + (j + 1))) + 1 from by omega, List.getElem?_cons_succ]
    · rw [if_neg h1]
      by_cases h2 : k = off + j
      · subst h2
        rw [if_pos (by omega), Nat.sub_self, Array.getElem?_setIfInBounds_self_of_lt (by omega)]
        rfl
      · rw [if_neg (by omega), Array.getElem?_setIfInBounds_ne (by omega)]

theorem foldl_put (off : Nat) : ∀ (l : List Value) (j : Nat) (cs : Array Value), (l.zipIdx j).foldl (fun cs (p : Value × Nat) => cs.setIfInBounds (off + p.2) p.1) cs = putCells cs off l j
  | [], _, _ => rfl
  | v :: rest, j, cs => by simp only [List.zipIdx_cons, List.foldl_cons, foldl_put off rest, putCells]

theorem fill_cons (pl : Nat → Option (Nat × Nat)) (cs : Array Value) (i : Nat) (v : Value) (rest : List (Nat × Value)) {off size : Nat} (hp : pl i = some (off, size)) (hs : v.cells.size = size)
    (hf : off + v.cells.size ≤ cs.size) : Instr.fill pl cs ((i, v) :: rest) = Instr.fill pl (putCells cs off v.cells.toList 0) rest := by
  rw [Instr.fill]
  simp only [hp]
  have hc : (decide (v.cells.size ≠ size) || decide (off + v.cells.size > cs.size)) = false := by
    simp only [hs, ne_eq, not_true_eq_false, decide_false, Bool.false_or, decide_eq_false_iff_not]; omega
  rw [hc]
  simp only [Bool.false_eq_true, if_false]
  rw [← Array.foldl_toList, Array.toList_zipIdx]
  congr 1
  exact foldl_put off v.cells.toList 0 cs

theorem place_get (z cs : List AV) (off k : Nat) (h : off + cs.length ≤ z.length) : (place z off cs)[k]? = if off ≤ k ∧ k < off + cs.length then cs[k - off]? else z[k]? := by
  unfold place
  have hl : (z.take off).length = off := by simp; omega
  rw [List.append_assoc, List.getElem?_append, hl]
  by_cases h1 : k < off
  · rw [if_pos h1, if_neg (by omega), List.getElem?_take, if_pos h1]
  · rw [if_neg h1, List.getElem?_append]
    by_cases h2 : k - off < cs.length
    · rw [if_pos h2, if_pos (by omega)]
    · rw [if_neg h2, if_neg (by omega), List.getElem?_drop]
      congr 1
      omega

theorem place_length (z cs : List AV) (off : Nat) (h : off + cs.length ≤ z.length) : (place z off cs).length = z.length := by
  simp [place]; omega

theorem putCells_rel {P : Program} {E : Env} {cs : Array Value} {z : List AV} {ws : Array Value} {ys : List AV} {off : Nat} (h : CellsR P E cs z) (k : CellsR P E ws ys) (hf : off + ys.length ≤ z.length) :
    CellsR P E (putCells cs off ws.toList 0) (place z off ys) := by
  refine ⟨by rw [putCells_size, place_length _ _ _ hf, h.1], fun i v x hv hx => ?_⟩
  rw [place_get _ _ _ _ hf] at hx
  rw [putCells_get _ _ _ _ _ (by simp [k.1, h.1]; omega)] at hv
  simp only [Nat.add_zero, Array.length_toList, k.1] at hv
  split at hv
  · rename_i hc
    rw [if_pos hc] at hx
    exact k.2 _ _ _ (by simpa using hv) hx
  · rename_i hc
    rw [if_neg hc] at hx
    exact h.2 _ _ _ hv hx

theorem yfill_sound {P : Program} {E : Env} {pl : Nat → Option (Nat × Nat)} : ∀ (ps : List (Nat × AV)) (vs : List (Nat × Value)) (z : List AV) (cs : Array Value) (z' : List AV),
    CellsR P E cs z → ps.length = vs.length → (∀ (i : Nat) (p : Nat × AV) (q : Nat × Value), ps[i]? = some p → vs[i]? = some q → p.1 = q.1 ∧ VR P E q.2 p.2) → yfill pl z ps = some z' →
    ∃ cs', Instr.fill pl cs vs = some cs' ∧ CellsR P E cs' z'
  | [], [], z, cs, z', h, _, _, hy => by simp [yfill] at hy; subst hy; exact ⟨cs, rfl, h⟩
  | (i, x) :: ps, (i', v) :: vs, z, cs, z', h, hl, hr, hy => by
    obtain ⟨hi, hv⟩ := hr 0 _ _ rfl rfl
    simp only at hi hv
    subst hi
    rw [yfill] at hy
    split at hy
    · rename_i off size xs hp hx
      split at hy
      · rename_i hc
        have hcs := hv.cells hx
        rw [fill_cons pl cs i v vs hp (by rw [hcs.1]; exact hc.1) (by rw [hcs.1, h.1]; exact hc.2)]
        exact yfill_sound ps vs _ _ z' (putCells_rel h hcs hc.2) (by simpa using hl) (fun j p q hp hq => hr (j + 1) p q hp hq) hy
      · cases hy
    · cases hy
  | [], _ :: _, _, _, _, _, hl, _, _ => by simp at hl
  | _ :: _, [], _, _, _, _, hl, _, _ => by simp at hl

theorem run_zeroValue {P : Program} {t : TypeId} {z : List AV} (E : Env) (h : zc P t = some z) : ∃ v, (zeroValue t).run P E.w = .ok v E.w ∧ CellsR P E v.cells z := by
  unfold zc at h
  split at h
  · rename_i i hi
    split at h
    · rename_i v hv
      split at h
      · rename_i ha
        cases h
        simp only [Array.all_eq_true_iff_forall_mem] at ha
        refine ⟨v, by simp [zeroValue, typeInfo, hi, hv], by simp, fun j u x hu hx => ⟨vr_cells1 P E _ j u x hu hx, ha u (Array.mem_of_getElem? hu)⟩⟩
      · cases h
    · cases h
  · cases h

theorem run_places {P : Program} (w : World) : ∀ (fs : List Field), fs.all (fun f => (P.info? f.type).isSome) = true →
    (fs.mapM (fun (f : Field) => (do pure (f.offset, ← sizeOf f.type) : Sem (Nat × Nat)))).run P w = .ok (fs.map fun f => (f.offset, P.cellsOf f.type)) w
  | [], _ => rfl
  | f :: fs, h => by
    simp only [List.all_cons, Bool.and_eq_true] at h
    simp only [List.mapM_cons, Sem.run_bind, run_sizeOf h.1, Result.andThen_ok, Sem.run_pure, run_places w fs h.2, List.map_cons]

theorem ybuild_sound {P : Program} {E : Env} {t : TypeId} {ps : List (Nat × AV)} {vs : Array (Nat × Value)} {v : AV} (hl : ps.length = vs.size)
    (hr : ∀ (i : Nat) (p : Nat × AV) (q : Nat × Value), ps[i]? = some p → vs[i]? = some q → p.1 = q.1 ∧ VR P E q.2 p.2) (h : ybuild P t ps = some v) :
    ∃ u, (Instr.build t vs).run P E.w = .ok u E.w ∧ VR P E u v := by
  unfold ybuild at h
  split at h
  · rename_i fs hu
    split at h
    · rename_i hall
      split at h
      · rename_i z hz
        cases hy : yfill (fun i => (fs[i]?).map fun f => (f.offset, P.cellsOf f.type)) z ps with
        | none => simp [hy] at h
        | some z' =>
          simp [hy] at h
          subst h
          obtain ⟨zv, hzr, hzc⟩ := run_zeroValue E hz
          obtain ⟨cs', hf, hc⟩ := yfill_sound ps vs.toList z zv.cells z' hzc (by simpa using hl) (fun i p q hp hq => hr i p q hp (by simpa using hq)) hy
          refine ⟨.agg cs', ?_, hc.agg⟩
          have hpl := run_places (P := P) E.w fs.toList (by simpa using hall)
          have hpl' : (fs.mapM (fun (f : Field) => (do pure (f.offset, ← sizeOf f.type) : Sem (Nat × Nat)))).run P E.w = .ok (fs.toList.map fun f => (f.offset, P.cellsOf f.type)).toArray E.w := by
            rw [Array.mapM_eq_mapM_toList]
            rw [Sem.run_map, hpl, Result.andThen_ok]
          have hfun : (fun (i : Nat) => ((fs.toList.map fun (f : Field) => (f.offset, P.cellsOf f.type)).toArray)[i]?) = (fun (i : Nat) => (fs[i]?).map fun (f : Field) => (f.offset, P.cellsOf f.type)) := by
            funext i; simp
          simp only [Instr.build, Sem.run_bind, hzr, Result.andThen_ok, run_underlying hu, hpl', hfun, hf, Sem.run_pure]
      · cases h
    · cases h
  · cases h


theorem vr_opt {P : Program} {E : Env} {a : Act} {ev : Operand → AV} (o : Option Operand) (h : ∀ x ∈ o.toArray, VR P E (a.eval x) (ev x)) :
    (∀ y, o.map ev = some y → ∃ u, o.map a.eval = some u ∧ VR P E u y) ∧ (o.map ev = none → o.map a.eval = none) := by
  cases o with
  | none => exact ⟨fun y hy => by simp at hy, fun _ => rfl⟩
  | some x => exact ⟨fun y hy => by simp at hy; subst hy; exact ⟨_, rfl, h x (by simp)⟩, fun h => by simp at h⟩

theorem run_val {P : Program} {w : World} {s : Sem Value} {u : Value} (h : s.run P w = .ok u w) : (do pure (Next.value (← s)) : Sem Next).run P w = .ok (.value u) w := by
  simp only [Sem.run_bind, h, Result.andThen_ok, Sem.run_pure]

theorem toList1 {α : Type} {a : Array α} {x : α} (h : a.toList = [x]) : a = #[x] := by cases a; simp at h; simp [h]
theorem toList3 {α : Type} {a : Array α} {x y z : α} (h : a.toList = [x, y, z]) : a = #[x, y, z] := by cases a; simp at h; simp [h]
theorem toList2 {α : Type} {a : Array α} {x y : α} (h : a.toList = [x, y]) : a = #[x, y] := by cases a; simp at h; simp [h]

set_option maxHeartbeats 1000000 in
/-- **An operation that only reads hands back what 'yl' says.** -/
theorem yl_sound {P : Program} {E : Env} {m : Nat → List AV} (hm : MemOK P E m) {a : Act} {ev : Operand → AV} {o : Oper} {v : AV} (hev : ∀ x ∈ o.op.operands, VR P E (a.eval x) (ev x))
    (h : yl P ev m o.op = some v) : ∃ u, (execOp a.eval o).run P E.w = .ok (.value u) E.w ∧ VR P E u v := by
  obtain ⟨dst, op, ty, pos, after, guard⟩ := o
  simp only at hev h
  have one : ∀ {s : Sem Value}, (∃ u, s.run P E.w = .ok u E.w ∧ VR P E u v) → ∃ u, (do pure (Next.value (← s)) : Sem Next).run P E.w = .ok (.value u) E.w ∧ VR P E u v :=
    fun ⟨u, hr, hv⟩ => ⟨u, run_val hr, hv⟩
  unfold yl at h
  split at h
  case h_1 x => simp at h; subst h; exact ⟨_, rfl, hev x (by simp [Op.operands])⟩
  case h_2 x => simp at h; subst h; exact ⟨_, rfl, hev x (by simp [Op.operands])⟩
  case h_3 c x y =>
    split at h
    · rename_i t ht
      have hc := hev c (by simp [Op.operands])
      rw [ht] at hc
      have hc' := vr_bool hc
      cases h
      refine ⟨if t = true then a.eval x else a.eval y, ?_, ?_⟩
      · simp only [execOp, Sem.run_bind, hc', asBool, Sem.run_pure, Result.andThen_ok]
      · cases t
        · exact hev y (by simp [Op.operands])
        · exact hev x (by simp [Op.operands])
    · cases h
  case h_4 op T x y yt => exact one (ybin_sound (hev x (by simp [Op.operands])) (hev y (by simp [Op.operands])) h)
  case h_5 op T x => exact one (yun_sound (hev x (by simp [Op.operands])) h)
  case h_6 src dst x =>
    split at h
    · rename_i k k' n hs hd hx
      have hc := hev x (by simp [Op.operands])
      rw [hx] at hc
      have hc' := vr_int hc
      cases h
      refine one ⟨_, ?_, .c _ _ (.int _ _)⟩
      simp only [convert, Sem.run_bind, run_underlying hs, run_underlying hd, Result.andThen_ok, hc', Conv.intToInt, Sem.run_pure]
    · cases h
  case h_7 t x => exact one (yload_sound hm (hev x (by simp [Op.operands])) h)
  case h_8 s x f => exact one (yfield_sound (hev x (by simp [Op.operands])) h)
  case h_9 t x i => exact one (yindex_sound (hev x (by simp [Op.operands])) (hev i (by simp [Op.operands])) h)
  case h_10 x =>
    have hx := hev x (by simp [Op.operands])
    split at h
    · rename_i l off he
      cases h
      rw [he] at hx
      refine ⟨a.eval x, ?_, hx⟩
      generalize hq : a.eval x = q at *
      cases hx
      simp only [execOp, hq, Sem.run_pure]
    · rename_i xs he
      cases h
      rw [he] at hx
      refine ⟨a.eval x, ?_, hx⟩
      generalize hq : a.eval x = q at *
      cases hx
      simp only [execOp, hq, Sem.run_pure]
    · cases h
  case h_11 t i =>
    have hx := hev t (by simp [Op.operands])
    split at h
    · rename_i xs he
      rw [he] at hx
      generalize hq : a.eval t = q at *
      cases hx with
      | tup vs _ hn hr =>
      have hi : i < vs.size := by rw [hn]; exact (List.getElem?_eq_some_iff.1 h).1
      refine one ⟨vs[i], ?_, hr i _ _ (Array.getElem?_eq_getElem hi) h⟩
      simp only [hq, Instr.extract, Array.getElem?_eq_getElem hi, Sem.run_pure]
    · cases h
  case h_12 t ps =>
    refine one (ybuild_sound (by simp) ?_ h)
    intro i p q hp hq
    simp only [List.getElem?_map, Array.getElem?_map, Array.getElem?_toList, Option.map_eq_some_iff] at hp hq
    obtain ⟨r, hr, rfl⟩ := hp
    obtain ⟨r', hr', rfl⟩ := hq
    rw [hr] at hr'
    cases hr'
    exact ⟨rfl, hev _ (by simp only [Op.operands, List.mem_toArray, List.mem_map]; exact ⟨r, by simpa using Array.mem_of_getElem? hr, rfl⟩)⟩
  case h_13 t x lo hi mx =>
    have h1 := vr_opt (P := P) (E := E) (a := a) (ev := ev) lo (fun y hy => hev y (by simp only [Op.operands, Array.mem_append]; exact .inl (.inl (.inr hy))))
    have h2 := vr_opt (P := P) (E := E) (a := a) (ev := ev) hi (fun y hy => hev y (by simp only [Op.operands, Array.mem_append]; exact .inl (.inr hy)))
    have h3 := vr_opt (P := P) (E := E) (a := a) (ev := ev) mx (fun y hy => hev y (by simp only [Op.operands, Array.mem_append]; exact .inr hy))
    exact one (yslice2_sound (hev x (by simp [Op.operands])) h1.1 h1.2 h2.1 h2.2 h3.1 h3.2 h)
  case h_14 c =>
    obtain ⟨callee, args, ts⟩ := c
    unfold ycall at h
    simp only at h
    split at h
    · split at h
      · rename_i x t hx ht
        have ha := toList1 hx
        have hb := toList1 ht
        subst ha hb
        obtain ⟨u, hr, hv⟩ := ylen_sound (ty := ty) (hev x (by simp [Op.operands, Call.operands])) h
        exact ⟨u, by simp [execOp, resolve, invoke, builtin, hr], hv⟩
      · cases h
    · split at h
      · rename_i x t hx ht
        have ha := toList1 hx
        have hb := toList1 ht
        subst ha hb
        obtain ⟨u, hr, hv⟩ := ycap_sound (ty := ty) (hev x (by simp [Op.operands, Call.operands])) h
        exact ⟨u, by simp [execOp, resolve, invoke, builtin, hr], hv⟩
      · cases h
    · split at h
      · rename_i x y hx
        have ha := toList2 hx
        subst ha
        obtain ⟨u, hr, hv⟩ := ymm_sound (ts := ts) (ty := ty) (hev x (by simp [Op.operands, Call.operands])) (hev y (by simp [Op.operands, Call.operands])) h
        simp only [if_true] at hr
        exact ⟨u, by simp [execOp, resolve, invoke, builtin, hr], hv⟩
      · rename_i x y z hx
        have ha := toList3 hx
        subst ha
        have h1 := hev x (by simp [Op.operands, Call.operands])
        have h2 := hev y (by simp [Op.operands, Call.operands])
        have h3 := hev z (by simp [Op.operands, Call.operands])
        unfold ymm3 at h
        split at h
        · rename_i e1 e2 e3
          rw [e1] at h1
          rw [e2] at h2
          rw [e3] at h3
          have g1 := vr_int h1
          have g2 := vr_int h2
          have g3 := vr_int h3
          cases h
          exact ⟨_, by simp [execOp, resolve, invoke, builtin, Builtin.min_, Builtin.min2, g1, g2, g3], .c _ _ (.int _ _)⟩
        · cases h
      · cases h
    · split at h
      · rename_i x y hx
        have ha := toList2 hx
        subst ha
        obtain ⟨u, hr, hv⟩ := ymm_sound (ts := ts) (ty := ty) (hev x (by simp [Op.operands, Call.operands])) (hev y (by simp [Op.operands, Call.operands])) h
        simp only [Bool.false_eq_true, if_false] at hr
        exact ⟨u, by simp [execOp, resolve, invoke, builtin, hr], hv⟩
      · cases h
    · cases h
  case h_15 f first caps =>
    split at h
    · rename_i hf
      cases h
      have hf' : first = #[] := by simpa using hf
      subst hf'
      refine one ⟨.func (.func f) #[] (caps.map a.eval), by simp [Instr.makeFunc], .fn _ _ _ (by simp) ?_⟩
      intro i v x hv hx
      have hv' : (caps.map a.eval)[i]? = some v := hv
      clear hv
      have hv := hv'
      rw [Array.getElem?_map, Option.map_eq_some_iff] at hv
      rw [List.getElem?_map, Option.map_eq_some_iff, Array.getElem?_toList] at hx
      obtain ⟨r, hr, rfl⟩ := hv
      obtain ⟨r', hr', rfl⟩ := hx
      rw [hr] at hr'
      cases hr'
      exact hev r (by simp only [Op.operands, Array.mem_append]; exact .inr (Array.mem_of_getElem? hr))
    · cases h
  case h_16 => cases h

end Go.Rb
namespace Go.Rb

structure RSt where
  t : Nat → AV
  m : Nat → List AV
  p : Nat
  xo : Nat
  xn : Nat

def evO (t : Nat → AV) : Operand → AV
  | .tmp i => t i
  | .const v => cv v
  | .func f => .fn f []
  | .global _ => .any

def setT (t : Nat → AV) (d : Nat) (v : AV) : Nat → AV := fun i => if i = d then v else t i
def setM (m : Nat → List AV) (l : Nat) (cs : List AV) : Nat → List AV := fun i => if i = l then cs else m i
def putT (t : Nat → AV) (d : Option Nat) (v : AV) : Nat → AV := match d with | some d => setT t d v | none => t

/-- What one operation does. -/
structure Eff where
  v : AV
  mem : List (Nat × List AV) := []
  p : Nat := 0
  xo : Nat := 0
  xn : Nat := 0

def memAll (m : Nat → List AV) : List (Nat × List AV) → Nat → List AV
  | [] => m
  | (l, cs) :: r => memAll (setM m l cs) r

def RSt.app (s : RSt) (d : Option Nat) (f : Eff) : RSt :=
  { t := putT s.t d f.v, m := memAll s.m f.mem, p := s.p ||| f.p, xo := s.xo ||| f.xo, xn := s.xn ||| f.xn }

/-! ### Pointers -/
mutual
/-- The local blocks to which a value points. -/
def AV.ptrs : AV → List Nat
  | .ptr l _ => [l]
  | .arr l _ len cap _ => if len = 0 ∧ cap = 0 then [] else [l]
  | .agg xs => ptrsL xs
  | .tup xs => ptrsL xs
  | .fn _ caps => ptrsL caps
  | _ => []
def ptrsL : List AV → List Nat
  | [] => []
  | x :: xs => AV.ptrs x ++ ptrsL xs
end

/-! ### The world beside the state -/

/-- Of the blocks below B all but those of X are as they were. -/
structure Fr (B : Nat) (X : Nat → Prop) (w w' : World) : Prop where
  os : w'.os = w.os
  tape : w'.tape = w.tape
  output : w'.output = w.output
  size : w.heap.size ≤ w'.heap.size
  block : ∀ k, k < B → ¬ X k → w'.heap[k]? = w.heap[k]?

theorem Fr.refl (B : Nat) (X : Nat → Prop) (w : World) : Fr B X w w := ⟨rfl, rfl, rfl, Nat.le_refl _, fun _ _ _ => rfl⟩

/-- A block of one's own: behind the first n elements nothing is read. -/
def OwnBlk (P : Program) (w : World) (S : Nat → Nat → Prop) (B : Nat) (v : Value) (e : TypeId) : Prop :=
  ∃ g n cap cur e', v = .slice (some ⟨g, 0, none⟩) n cap ∧ B ≤ g ∧ w.heap[g]? = some (.cells cur e' (0, 0)) ∧ cap * P.cellsOf e ≤ cur.size ∧ n ≤ cap ∧ cap ≤ maxLen ∧ ∀ o, S g o → o < n * P.cellsOf e

/-- A block of n cells, of which the first ones hold what is known of them. -/
def BlkR (P : Program) (E : Env) (n : Nat) (cs : Array Value) (xs : List AV) : Prop :=
  cs.size = n ∧ xs.length ≤ n ∧ ∀ (i : Nat) (v : Value) (x : AV), cs[i]? = some v → xs[i]? = some x → VR P E v x ∧ v.oneCell' = true

theorem CellsR.blk {P : Program} {E : Env} {cs : Array Value} {xs : List AV} (h : CellsR P E cs xs) : BlkR P E xs.length cs xs := ⟨h.1, Nat.le_refl _, h.2⟩

theorem BlkR.mono {P : Program} {E E' : Env} {n : Nat} {cs : Array Value} {xs : List AV} (hl : E.le E') (h : BlkR P E n cs xs) : BlkR P E' n cs xs :=
  ⟨h.1, h.2.1, fun i v x hv hx => ⟨(h.2.2 i v x hv hx).1.mono hl, (h.2.2 i v x hv hx).2⟩⟩

structure WI (P : Program) (B : Nat) (X : Nat → Prop) (w0 : World) (S0 : Nat → Nat → Prop) (E : Env) (s : RSt) : Prop where
  fr : Fr B X w0 E.w
  hB : B ≤ E.w.heap.size
  s0 : ∀ b o, S0 b o → E.S b o
  sNew : ∀ b o, E.S b o → S0 b o ∨ B ≤ b
  slt : ∀ b o, E.S b o → b < E.w.heap.size
  hA : ∀ l, E.A l ↔ s.m l ≠ []
  loc : ∀ l, s.m l ≠ [] → ∃ cs e, E.w.heap[E.β l]? = some (.cells cs e (0, 0)) ∧ BlkR P E (E.cp l) cs (s.m l) ∧ (∀ o, ¬ E.S (E.β l) o) ∧ (B ≤ E.β l ∨ X (E.β l))
  locne : ∀ l l', s.m l ≠ [] → s.m l' ≠ [] → E.β l = E.β l' → l = l'
  own : ∀ nw k v e, E.ow nw k = .reg v e → OwnBlk P E.w E.S B v e ∧ ∀ l, s.m l ≠ [] → v.ownBlock ≠ some (E.β l)
  ownne : ∀ nw k v e nw' k' v' e', E.ow nw k = .reg v e → E.ow nw' k' = .reg v' e' → v.ownBlock = v'.ownBlock → nw = nw' ∧ k = k'
  new : ∀ k, E.ow true k ≠ .none → s.p.testBit k = true
  deadn : ∀ k, E.ow true k = .dead → s.xn.testBit k = true
  deado : ∀ k, E.ow false k = .dead → s.xo.testBit k = true

theorem WI.memOK {P : Program} {B : Nat} {X : Nat → Prop} {w0 : World} {S0 : Nat → Nat → Prop} {E : Env} {s : RSt} (h : WI P B X w0 S0 E s) : MemOK P E s.m := by
  intro l hl
  obtain ⟨cs, e, hh, hc, _⟩ := h.loc l hl
  exact ⟨cs, e, _, hh, by rw [hc.1]; exact hc.2.1, hc.2.2⟩

/-! ### What a call promises -/

def nomem : Nat → List AV := fun _ => []

def HasBody (P : Program) (f : FuncId) : Prop := ∃ fn c, P.funcs[f]? = some fn ∧ fn.body = some c ∧ (fn.name == "runtime.NumGoroutine") = false

/-- **Called with values that read as 'args' (and blocks that hold 'pm'), function f returns a value that reads as r; the blocks hold pm' then; all else that was there is as it was.** -/
def Fun (P : Program) (f : FuncId) (args : List AV) (pm : Nat → List AV) (r : AV) (pm' : Nat → List AV) : Prop :=
  HasBody P f ∧ ∀ (E : Env) (vs : Array Value), (∀ nw k, E.ow nw k = .none) → (∀ l, E.A l ↔ pm l ≠ []) → (∀ b o, E.S b o → b < E.w.heap.size) →
    vs.size = args.length → (∀ (i : Nat) (v : Value) (x : AV), vs[i]? = some v → args[i]? = some x → VR P E v x) →
    (∀ l, pm l ≠ [] → ∃ cs e, E.w.heap[E.β l]? = some (.cells cs e (0, 0)) ∧ BlkR P E (E.cp l) cs (pm l) ∧ ∀ o, ¬ E.S (E.β l) o) →
    (∀ l l', pm l ≠ [] → pm l' ≠ [] → E.β l = E.β l' → l = l') →
    Calls P f vs E.w (fun e w' => ∃ v E', e = .returned v ∧ E'.w = w' ∧ (∀ l, pm l ≠ [] → pm' l ≠ [] ∧ E'.β l = E.β l ∧ E'.cp l = E.cp l) ∧ (∀ l, E'.A l ↔ pm' l ≠ []) ∧
      Fr E.w.heap.size (fun b => ∃ l, pm l ≠ [] ∧ E.β l = b) E.w w' ∧ (∀ b o, E.S b o → E'.S b o) ∧ (∀ b o, E'.S b o → E.S b o ∨ E.w.heap.size ≤ b) ∧
      (∀ b o, E'.S b o → b < w'.heap.size) ∧ VR P E' v r ∧
      (∀ l, pm' l ≠ [] → ∃ cs e, w'.heap[E'.β l]? = some (.cells cs e (0, 0)) ∧ BlkR P E' (E'.cp l) cs (pm' l) ∧ (∀ o, ¬ E'.S (E'.β l) o) ∧ (pm l ≠ [] ∨ E.w.heap.size ≤ E'.β l)) ∧
      (∀ l l', pm' l ≠ [] → pm' l' ≠ [] → E'.β l = E'.β l' → l = l') ∧
      (∀ nw k, E'.ow nw k ≠ .dead) ∧ (∀ nw k u ty, E'.ow nw k = .reg u ty → nw = false ∧ k = 0 ∧ OwnBlk P w' E'.S E.w.heap.size u ty ∧ ∀ l, pm' l ≠ [] → u.ownBlock ≠ some (E'.β l)))

/-- The knowledge x may be handed on as y. -/
def Wk (P : Program) (A : Nat → Prop) (x y : AV) : Prop :=
  ∀ (E : Env) (v : Value), (∀ l, A l → E.A l) → VR P E v x → VR P { E with A := A, ow := fun _ _ => .none } v y

inductive WkL (P : Program) (A : Nat → Prop) : List AV → List AV → Prop where
  | nil : WkL P A [] []
  | cons {x y : AV} {xs ys : List AV} (h : Wk P A x y) (t : WkL P A xs ys) : WkL P A (x :: xs) (y :: ys)

/-- A slice of the callee's own becomes one of the caller's: number d. -/
def AV.setOwn1 (d : Nat) : AV → AV
  | .own _ _ e rows => .own true d e rows
  | x => x

def AV.setOwn (d : Nat) : AV → AV
  | .tup xs => .tup (xs.map (AV.setOwn1 d))
  | x => x.setOwn1 d

def AV.noOwn1 : AV → Bool
  | .own .. => false
  | .agg _ | .tup _ => false
  | .fn _ caps => caps.isEmpty
  | _ => true

def AV.noOwnA : AV → Bool
  | .agg xs => xs.all AV.noOwn1
  | x => x.noOwn1

/-- Nothing of the callee's own in it. -/
def AV.noOwn : AV → Bool
  | .tup xs => xs.all AV.noOwnA
  | x => x.noOwnA

/-- A slice of one's own at the top, or as a part of a tuple, nowhere else. -/
def AV.ownTop : AV → Bool
  | .own .. => true
  | .tup xs => xs.all fun x => match x with | .own .. => true | x => x.noOwnA
  | x => x.noOwnA

/-! ### One operation -/

/-- Element type of the slice that is cell j of a row of type e. -/
def cellElem (P : Program) (e : TypeId) (j : Nat) : TypeId :=
  match P.underlying e with
  | some (.struct fs) => match fs.find? (fun f => f.offset == j) with | some f => elemT P f.type | none => 0
  | _ => elemT P e

def toCs (ty : Nat → TypeId) : Nat → List AV → Option (List C)
  | _, [] => some []
  | j, x :: xs => match x.toC (ty j), toCs ty (j + 1) xs with | some c, some cs => some (c :: cs) | _, _ => none

def toRows (ty : Nat → TypeId) (sz : Nat) : Nat → List AV → Option (List (List C))
  | 0, _ => some []
  | n + 1, z => match toCs ty 0 (z.take sz), toRows ty sz n (z.drop sz) with | some r, some rs => some (r :: rs) | _, _ => none

def ybs (P : Program) (t : TypeId) (n : Nat) (ps : List (Nat × AV)) : Option (List (List C)) :=
  match P.underlying t with
  | some (.slice e) =>
    if (zc P e).map (·.length) = some (P.cellsOf e) ∧ P.cellsOf e ≠ 0 ∧ n * P.cellsOf e ≤ 2 ^ 24 then
      match yfill (fun i => some (i * P.cellsOf e, P.cellsOf e)) (List.replicate (n * P.cellsOf e) .any) ps with
      | some z => toRows (cellElem P e) (P.cellsOf e) n z
      | none => none
    else none
  | _ => none

/-- Two structs of ints are held against each other. -/
def EqInts (P : Program) (T n : Nat) : Prop :=
  ∀ (op : BinOp) (xs ys : List Int) (xo yo : Operand) (w : World), (op = .eql ∨ op = .neq) → xs.length = n → ys.length = n →
    (do eqGuard op T xo yo (.agg (xs.map (Value.int .i64)).toArray) (.agg (ys.map (Value.int .i64)).toArray)
        binOp op T (.agg (xs.map (Value.int .i64)).toArray) (.agg (ys.map (Value.int .i64)).toArray) : Sem Value).run P w = .ok (.bool (if op = .eql then decide (xs = ys) else !decide (xs = ys))) w

def intsOf : List AV → Option (List Int)
  | [] => some []
  | .c (.int .i64 n) :: r => (intsOf r).map (n :: ·)
  | _ => none

def AV.ints : AV → Option (List Int)
  | .agg xs => intsOf xs
  | _ => none

def AV.base (e : TypeId) : AV → Option (List (List C))
  | .own _ _ e' rows => if e = e' then some rows else none
  | .nils => some []
  | _ => none

def maskO : AV → Nat
  | .own false k _ _ => 2 ^ k
  | _ => 0

def maskN : AV → Nat
  | .own true k _ _ => 2 ^ k
  | _ => 0

/-- **What operation o may do in a state: the operations that do not only read.** -/
def AYe (P : Program) (dr : Bool) (t : Nat → AV) (m : Nat → List AV) (p xo xn : Nat) (o : Oper) (f : Eff) : Prop :=
  match o.op with
  | .binOp op T x y _ => (op = .eql ∨ op = .neq) ∧ ∃ xs ys, (evO t x).ints = some xs ∧ (evO t y).ints = some ys ∧ EqInts P T xs.length ∧ ys.length = xs.length ∧
      f = { v := .c (.bool (if op = .eql then decide (xs = ys) else !decide (xs = ys))) }
  | .buildSlice ty n ps => ∃ rows, ybs P ty n (ps.toList.map fun (i, x) => (i, evO t x)) = some rows ∧ f = { v := .own false 0 (elemT P ty) rows }
  | .alloc e => ∃ d z, o.dst = some d ∧ zc P e = some z ∧ z ≠ [] ∧ m d = [] ∧ f = { v := .ptr d 0, mem := [(d, z)] }
  | .box e x => ∃ d z, o.dst = some d ∧ (evO t x).cells = some z ∧ z ≠ [] ∧ m d = [] ∧ f = { v := .ptr d 0, mem := [(d, z)] }
  | .store ty a x => ∃ l off cs, evO t a = .ptr l off ∧ (evO t x).cells = some cs ∧ cs.length = P.cellsOf ty ∧ cs ≠ [] ∧ (P.info? ty).isSome ∧ off + cs.length ≤ (m l).length ∧
      f = { v := .und, mem := [(l, place (m l) off cs)] }
  | .call c =>
    match c.callee with
    | .builtin .append => ∃ d x y ty e rows new, o.dst = some d ∧ c.args = #[x, y] ∧ c.argTypes = #[ty, ty] ∧ P.underlying ty = some (.slice e) ∧
        (evO t x).base e = some rows ∧ xo &&& maskO (evO t x) = 0 ∧ xn &&& maskN (evO t x) = 0 ∧ p.testBit d = false ∧ (evO t y).rows e = some new ∧
        (rows.length + new.length) * P.bytesOf e ≤ 140737488355328 ∧ rows.length + new.length ≤ maxLen ∧ (zc P e).map (·.length) = some (P.cellsOf e) ∧ P.cellsOf e ≠ 0 ∧
        f = { v := .own true d e (rows ++ new), p := 2 ^ d, xo := maskO (evO t x), xn := maskN (evO t x) }
    | .value g => ∃ fid caps, evO t g = .fn fid caps ∧
        ((∃ cargs r, WkL P (fun _ => False) (c.args.toList.map (evO t) ++ caps) cargs ∧ Fun P fid cargs nomem r nomem ∧ (dr = true → r.ptrs = []) ∧ (r.noOwn = true ∧ f = { v := r } ∨
            ∃ d, o.dst = some d ∧ r.ownTop = true ∧ p.testBit d = false ∧ f = { v := r.setOwn d, p := 2 ^ d })) ∨
         (dr = false ∧ ∃ (cargs : List AV) (r : AV) (L : List Nat) (pm pm' : Nat → List AV), WkL P (fun l => l ∈ L) (c.args.toList.map (evO t) ++ caps) cargs ∧ Fun P fid cargs pm r pm' ∧ r.noOwn = true ∧
            (∀ l ∈ L, m l ≠ [] ∧ WkL P (fun l => l ∈ L) (m l) (pm l) ∧ (pm' l).all AV.noOwn1 = true) ∧ (∀ l, l ∉ L → pm l = []) ∧ (∀ l, l ∉ L → pm' l = []) ∧ f = { v := r, mem := L.map fun l => (l, pm' l) }))
    | _ => False
  | _ => False

/-- What operation o may do in a state. -/
def AY (P : Program) (dr : Bool) (t : Nat → AV) (m : Nat → List AV) (p xo xn : Nat) (o : Oper) (f : Eff) : Prop :=
  (∃ v, yl P (evO t) m o.op = some v ∧ f = { v := v }) ∨ AYe P dr t m p xo xn o f

end Go.Rb
namespace Go.Rb

/-- Rows of cells, one behind the other. -/
def flat (sz m : Nat) (vs : Nat → Nat → Value) : List Value := (List.range (m * sz)).map fun q => vs (q / sz) (q % sz)

theorem flat_length (sz m : Nat) (vs : Nat → Nat → Value) : (flat sz m vs).length = m * sz := by simp [flat]

theorem flat_get (sz m : Nat) (vs : Nat → Nat → Value) (i j : Nat) (hi : i < m) (hj : j < sz) : (flat sz m vs)[i * sz + j]? = some (vs i j) := by
  have hlt : i * sz + j < m * sz := by
    have h1 : (i + 1) * sz ≤ m * sz := Nat.mul_le_mul_right _ hi
    rw [Nat.add_mul, Nat.one_mul] at h1
    omega
  have hd : (i * sz + j) / sz = i := by
    rw [Nat.mul_comm, Nat.mul_add_div (by omega), Nat.div_eq_of_lt hj, Nat.add_zero]
  have hm : (i * sz + j) % sz = j := by
    rw [Nat.mul_comm, Nat.mul_add_mod, Nat.mod_eq_of_lt hj]
  simp [flat, hlt, hd, hm]

theorem flat_inv (sz m : Nat) (vs : Nat → Nat → Value) (q : Nat) (v : Value) (h : (flat sz m vs)[q]? = some v) : ∃ i j, i < m ∧ j < sz ∧ q = i * sz + j ∧ v = vs i j := by
  have hq : q < m * sz := by have := (List.getElem?_eq_some_iff.1 h).1; rwa [flat_length] at this
  have hsz : 0 < sz := by
    rcases Nat.eq_zero_or_pos sz with h0 | h0
    · subst h0; simp at hq
    · exact h0
  refine ⟨q / sz, q % sz, (Nat.div_lt_iff_lt_mul hsz).2 hq, Nat.mod_lt _ hsz, by rw [Nat.mul_comm]; exact (Nat.div_add_mod q sz).symm, ?_⟩
  simp [flat, hq] at h
  exact h.symm

/-- A slice with rows in it: where it lies, and its cells. -/
theorem Rd.cells {P : Program} {w : World} {S : Nat → Nat → Prop} {v : Value} {e : TypeId} {rows : List (List C)} (h : Rd P w S v (.sl e rows)) (hne : rows ≠ []) :
    ∃ (b off cap : Nat) (vs : Nat → Nat → Value), v = .slice (some ⟨b, off, none⟩) rows.length cap ∧ rows.length ≤ cap ∧ (∀ r ∈ rows, r.length = P.cellsOf e) ∧
      ∀ (i j : Nat), i < rows.length → j < P.cellsOf e → (w.cell? ⟨b, off + (i * P.cellsOf e + j), none⟩ = some (vs i j) ∧ S b (off + (i * P.cellsOf e + j))) ∧
        ∀ (r : List C) (c : C), rows[i]? = some r → r[j]? = some c → Rd P w S (vs i j) c := by
  generalize hx : C.sl e rows = x at h
  cases h with
  | emp e' a cap => cases hx; exact absurd rfl hne
  | sl e' b off n cap rows' vs hn hcap hsz hcell hrd =>
    cases hx; subst hn
    have hr : ∀ r ∈ rows, r.length = P.cellsOf e := fun r hr => by obtain ⟨i, hi⟩ := List.getElem?_of_mem hr; exact hsz i r hi
    refine ⟨b, off, cap, vs, rfl, hcap, hr, fun i j hi hj => ?_⟩
    have h1 := List.getElem?_eq_getElem hi
    have hl := hr _ (List.mem_of_getElem? h1)
    have h2 : rows[i][j]? = some (rows[i][j]'(by omega)) := List.getElem?_eq_getElem (by omega)
    exact ⟨hcell i j _ _ h1 h2, fun r c hr hc => hrd i j r c hr hc⟩
  | _ => cases hx

/-- Rows that stand at the head of a block. -/
theorem Rd.mk {P : Program} {w : World} {S : Nat → Nat → Prop} {e : TypeId} {rows : List (List C)} {g n cap : Nat} {L : List Value} (hn : n = rows.length) (hcap : n ≤ cap)
    (hsz : ∀ r ∈ rows, r.length = P.cellsOf e) (hL : L.length = n * P.cellsOf e) (hcell : ∀ (q : Nat) (v : Value), L[q]? = some v → w.cell? ⟨g, q, none⟩ = some v ∧ S g q)
    (hrd : ∀ (i j : Nat) (r : List C) (c : C) (v : Value), rows[i]? = some r → r[j]? = some c → L[i * P.cellsOf e + j]? = some v → Rd P w S v c) :
    Rd P w S (.slice (some ⟨g, 0, none⟩) n cap) (.sl e rows) := by
  have key : ∀ (i j : Nat) (r : List C) (c : C), rows[i]? = some r → r[j]? = some c → ∃ v, L[i * P.cellsOf e + j]? = some v ∧ L.getD (i * P.cellsOf e + j) undef = v := by
    intro i j r c hi hj
    have h1 : i < rows.length := (List.getElem?_eq_some_iff.1 hi).1
    have h2 : j < P.cellsOf e := by rw [← hsz r (List.mem_of_getElem? hi)]; exact (List.getElem?_eq_some_iff.1 hj).1
    have h3 : (i + 1) * P.cellsOf e ≤ rows.length * P.cellsOf e := Nat.mul_le_mul_right _ h1
    rw [Nat.add_mul, Nat.one_mul] at h3
    have h4 : i * P.cellsOf e + j < L.length := by rw [hL, hn]; omega
    exact ⟨_, List.getElem?_eq_getElem h4, by simp [List.getD, List.getElem?_eq_getElem h4]⟩
  refine .sl e g 0 n cap rows (fun i j => L.getD (i * P.cellsOf e + j) undef) hn hcap (fun i r hi => hsz r (List.mem_of_getElem? hi)) ?_ ?_
  · intro i j r c hi hj
    obtain ⟨v, h1, h2⟩ := key i j r c hi hj
    rw [Nat.zero_add]
    show _ = some (L.getD _ undef) ∧ _
    rw [h2]
    exact hcell _ _ h1
  · intro i j r c hi hj
    obtain ⟨v, h1, h2⟩ := key i j r c hi hj
    show Rd P w S (L.getD _ undef) c
    rw [h2]
    exact hrd i j r c v hi hj h1

/-- A world with new blocks and with a row written behind what is read. -/
structure Grows (E : Env) (w' : World) (row : Option Nat) : Prop where
  os : w'.os = E.w.os
  tape : w'.tape = E.w.tape
  output : w'.output = E.w.output
  size : E.w.heap.size ≤ w'.heap.size
  block : ∀ k, k < E.w.heap.size → some k ≠ row → w'.heap[k]? = E.w.heap[k]?
  cell : ∀ b o u, E.S b o → E.w.cell? ⟨b, o, none⟩ = some u → w'.cell? ⟨b, o, none⟩ = some u

/-- The state after an operation that made something: 'id' is one's own now (or nothing is); the right of 'old' is used up. -/
def envApp (E : Env) (w' : World) (S' : Nat → Nat → Prop) (old : Option (Bool × Nat)) (id : Option Nat) (st : OwnSt) : Env :=
  { E with w := w', S := S', ow := fun nw k => if nw = true ∧ id = some k then st else if old = some (nw, k) then .dead else E.ow nw k }

theorem testBit_or_left {a b k : Nat} (h : a.testBit k = true) : (a ||| b).testBit k = true := by simp [h]
theorem testBit_or_right {a b k : Nat} (h : b.testBit k = true) : (a ||| b).testBit k = true := by simp [h]

theorem World.cell_of_block {w w' : World} {b o : Nat} (h : w'.heap[b]? = w.heap[b]?) : w'.cell? ⟨b, o, none⟩ = w.cell? ⟨b, o, none⟩ := World.cell?_of_block (a := ⟨b, o, none⟩) h

section
variable {P : Program} {B : Nat} {X : Nat → Prop} {w0 : World} {S0 : Nat → Nat → Prop} {E : Env} {s : RSt}

theorem envApp_le (h : WI P B X w0 S0 E s) {w' : World} {S' : Nat → Nat → Prop} {row : Option Nat} {old : Option (Bool × Nat)} {id : Option Nat} {st : OwnSt} (hg : Grows E w' row)
    (hS1 : ∀ b o, E.S b o → S' b o) (hid : ∀ d, id = some d → s.p.testBit d = false) : E.le (envApp E w' S' old id st) where
  cell := hg.cell
  S := hS1
  A l hl := ⟨hl, rfl, rfl⟩
  ow nw k v e hr := by
    simp only [envApp]
    split
    · rename_i hc
      obtain ⟨rfl, hk⟩ := hc
      have h1 := h.new k (by rw [hr]; simp)
      rw [hid k hk] at h1
      cases h1
    · split
      · exact .inr rfl
      · exact .inl hr
  dead nw k hr := by
    simp only [envApp]
    split
    · rename_i hc
      obtain ⟨rfl, hk⟩ := hc
      have h1 := h.new k (by rw [hr]; simp)
      rw [hid k hk] at h1
      cases h1
    · split
      · rfl
      · exact hr

theorem ownBlk_block {w : World} {S : Nat → Nat → Prop} {v : Value} {e : TypeId} (h : OwnBlk P w S B v e) : ∃ g, v.ownBlock = some g ∧ B ≤ g ∧ g < w.heap.size := by
  obtain ⟨g, n, cap, cur, e', rfl, hB, hh, _⟩ := h
  exact ⟨g, rfl, hB, (Array.getElem?_eq_some_iff.1 hh).1⟩

theorem wi_app (h : WI P B X w0 S0 E s) {w' : World} {S' : Nat → Nat → Prop} {row : Option Nat} {old : Option (Bool × Nat)} {id : Option Nat} {st : OwnSt} {s' : RSt} (hg : Grows E w' row)
    (hrow : ∀ g, row = some g → B ≤ g ∧ ∃ nw k v e, old = some (nw, k) ∧ E.ow nw k = .reg v e ∧ v.ownBlock = some g)
    (hS1 : ∀ b o, E.S b o → S' b o) (hS2 : ∀ b o, S' b o → E.S b o ∨ E.w.heap.size ≤ b ∨ some b = row) (hS3 : ∀ b o, S' b o → b < w'.heap.size)
    (hst : st = .none ∨ ∃ v e, st = .reg v e ∧ OwnBlk P w' S' B v e ∧ ∃ g, v.ownBlock = some g ∧ (E.w.heap.size ≤ g ∨ some g = row)) (hid : ∀ d, id = some d → s.p.testBit d = false)
    (hm : s'.m = s.m) (hp : ∀ k, s.p.testBit k = true ∨ id = some k → s'.p.testBit k = true)
    (hxn : ∀ k, s.xn.testBit k = true ∨ old = some (true, k) → s'.xn.testBit k = true) (hxo : ∀ k, s.xo.testBit k = true ∨ old = some (false, k) → s'.xo.testBit k = true)
    (holdp : ∀ k, old = some (true, k) → s.p.testBit k = true) :
    WI P B X w0 S0 (envApp E w' S' old id st) s' := by
  have hle := envApp_le (w' := w') (old := old) (id := id) (st := st) h hg hS1 hid
  have hrowl : ∀ l, s.m l ≠ [] → row ≠ some (E.β l) := by
    intro l hl hr
    obtain ⟨_, nw, k, v, e, _, hk, hv⟩ := hrow _ hr
    exact (h.own nw k v e hk).2 l hl hv
  have hlt : ∀ l, s.m l ≠ [] → E.β l < E.w.heap.size := by
    intro l hl
    obtain ⟨cs, e, hh, _⟩ := h.loc l hl
    exact (Array.getElem?_eq_some_iff.1 hh).1
  -- what is registered in the new state
  have hreg : ∀ nw k v e, (envApp E w' S' old id st).ow nw k = .reg v e → (nw = true ∧ id = some k ∧ st = .reg v e) ∨ (E.ow nw k = .reg v e ∧ old ≠ some (nw, k) ∧ ¬(nw = true ∧ id = some k)) := by
    intro nw k v e hr
    simp only [envApp] at hr
    split at hr
    · rename_i hc; exact .inl ⟨hc.1, hc.2, hr⟩
    · rename_i hc
      split at hr
      · cases hr
      · rename_i ho; exact .inr ⟨hr, ho, hc⟩
  have hother : ∀ nw k v e, E.ow nw k = .reg v e → old ≠ some (nw, k) → ∀ g, v.ownBlock = some g → some g ≠ row := by
    intro nw k v e hr ho g hv hgr
    obtain ⟨_, nw', k', v', e', ho', hr', hv'⟩ := hrow g hgr.symm
    obtain ⟨rfl, rfl⟩ := h.ownne nw k v e nw' k' v' e' hr hr' (by rw [hv, hv'])
    exact ho ho'
  refine ⟨⟨hg.os.trans h.fr.os, hg.tape.trans h.fr.tape, hg.output.trans h.fr.output, Nat.le_trans h.fr.size hg.size, ?_⟩, Nat.le_trans h.hB hg.size, fun b o hb => hS1 b o (h.s0 b o hb), ?_, hS3, ?_, ?_, ?_, ?_, ?_, ?_, ?_, ?_⟩
  · intro k hk hX
    have hk' : some k ≠ row := by
      intro hr
      have := (hrow k hr.symm).1
      omega
    exact (hg.block k (Nat.lt_of_lt_of_le hk h.hB) hk').trans (h.fr.block k hk hX)
  · intro b o hb
    rcases hS2 b o hb with h1 | h1 | h1
    · exact h.sNew b o h1
    · exact .inr (Nat.le_trans h.hB h1)
    · exact .inr (hrow b h1.symm).1
  · intro l; rw [hm]; exact h.hA l
  · intro l hl
    rw [hm] at hl ⊢
    obtain ⟨cs, e, hh, hc, hs, hb⟩ := h.loc l hl
    refine ⟨cs, e, ?_, hc.mono hle, ?_, hb⟩
    · exact (hg.block _ (hlt l hl) (fun hr => hrowl l hl hr.symm)).trans hh
    · intro o ho
      rcases hS2 _ _ ho with h1 | h1 | h1
      · exact hs o h1
      · have := hlt l hl; simp only [envApp] at h1; omega
      · exact hrowl l hl h1.symm
  · intro l l' hl hl' he
    rw [hm] at hl hl'
    exact h.locne l l' hl hl' he
  · intro nw k v e hr
    rcases hreg nw k v e hr with ⟨_, _, hst'⟩ | ⟨hr', ho, _⟩
    · rcases hst with h1 | ⟨v', e', h1, hown, g, hv, hgg⟩
      · rw [h1] at hst'; cases hst'
      · rw [h1] at hst'
        cases hst'
        refine ⟨hown, fun l hl => ?_⟩
        rw [hm] at hl
        rw [hv]
        intro hbl
        cases hbl
        simp only [envApp] at hgg
        rcases hgg with h2 | h2
        · have := hlt l hl; omega
        · exact hrowl l hl h2.symm
    · obtain ⟨⟨g, n, cap, cur, e2, rfl, hB, hh, hsz, hn, hcap, hs⟩, hl⟩ := h.own nw k v e hr'
      have hne := hother nw k _ e hr' ho g rfl
      have hglt : g < E.w.heap.size := (Array.getElem?_eq_some_iff.1 hh).1
      refine ⟨⟨g, n, cap, cur, e2, rfl, hB, (hg.block g hglt hne).trans hh, hsz, hn, hcap, ?_⟩, fun l hl' => ?_⟩
      · intro o hgo
        rcases hS2 _ _ hgo with h1 | h1 | h1
        · exact hs o h1
        · omega
        · exact absurd h1 hne
      · rw [hm] at hl'; exact hl l hl'
  · intro nw k v e nw' k' v' e' hr hr' hv
    rcases hreg nw k v e hr with ⟨rfl, hk, hs1⟩ | ⟨hr1, ho1, hc1⟩ <;> rcases hreg nw' k' v' e' hr' with ⟨rfl, hk', hs2⟩ | ⟨hr2, ho2, hc2⟩
    · rw [hk] at hk'; cases hk'; exact ⟨rfl, rfl⟩
    · exfalso
      rcases hst with h1 | ⟨v1, e1, h1, hown, g, hvg, hgg⟩
      · rw [h1] at hs1; cases hs1
      · rw [h1] at hs1; cases hs1
        rw [hvg] at hv
        obtain ⟨g2, hg2, _, hlt2⟩ := ownBlk_block (h.own nw' k' v' e' hr2).1
        rw [hg2] at hv
        cases hv
        rcases hgg with h2 | h2
        · omega
        · exact hother nw' k' v' e' hr2 ho2 g hg2 h2
    · exfalso
      rcases hst with h1 | ⟨v1, e1, h1, hown, g, hvg, hgg⟩
      · rw [h1] at hs2; cases hs2
      · rw [h1] at hs2; cases hs2
        rw [hvg] at hv
        obtain ⟨g2, hg2, _, hlt2⟩ := ownBlk_block (h.own nw k v e hr1).1
        rw [hg2] at hv
        cases hv
        rcases hgg with h2 | h2
        · omega
        · exact hother nw k v e hr1 ho1 g hg2 h2
    · exact h.ownne nw k v e nw' k' v' e' hr1 hr2 hv
  · intro k hk
    simp only [envApp] at hk
    split at hk
    · rename_i hc; exact hp k (.inr hc.2)
    · split at hk
      · rename_i ho; exact hp k (.inl (holdp k ho))
      · exact hp k (.inl (h.new k hk))
  · intro k hk
    simp only [envApp] at hk
    split at hk
    · rename_i hc
      rcases hst with h1 | ⟨v1, e1, h1, _⟩ <;> rw [h1] at hk <;> cases hk
    · split at hk
      · rename_i ho; exact hxn k (.inr ho)
      · exact hxn k (.inl (h.deadn k hk))
  · intro k hk
    simp only [envApp] at hk
    split at hk
    · rename_i hc; simp at hc
    · split at hk
      · rename_i ho; exact hxo k (.inr ho)
      · exact hxo k (.inl (h.deado k hk))
end

end Go.Rb
namespace Go.Rb

theorem zc_info {P : Program} {e : TypeId} {n : Nat} (h : (zc P e).map (·.length) = some n) : ∃ i z, P.info? e = some i ∧ i.zero = some z ∧ z.cells.size = n ∧ (∀ v ∈ z.cells, v.oneCell' = true) := by
  unfold zc at h
  split at h
  · rename_i i hi
    split at h
    · rename_i z hz
      split at h
      · rename_i ha
        simp only [Array.all_eq_true_iff_forall_mem] at ha
        simp at h
        exact ⟨i, z, hi, hz, h, ha⟩
      · simp at h
    · simp at h
  · simp at h

theorem run_append_zero {P : Program} {w : World} {t ty e : TypeId} (hu : P.underlying t = some (.slice e)) (hi : (P.info? e).isSome) (a b : Option Addr) (n c c' : Nat) (hn : n ≤ c) :
    (Builtin.append_ #[t, t] ty #[.slice a n c, .slice b 0 c']).run P w = .ok (.slice a n c) w := by
  cases hq : P.info? e with
  | none => simp [hq] at hi
  | some i => cases a <;> cases b <;> simp [Builtin.append_, run_underlying hu, sizeOf, typeInfo, hq, Builtin.lenOf, Builtin.firstCells, loadCells, loadCellsFrom, storeCells, hn]

theorem zeroCells_size (z : Array Value) (n : Nat) : (Builtin.zeroCells z n).size = n * z.size := by simp [Builtin.zeroCells]

section
variable {P : Program} {B : Nat} {X : Nat → Prop} {w0 : World} {S0 : Nat → Nat → Prop} {E : Env} {s : RSt}

/-- What an append leaves where it has made a new array. -/
theorem grow_env (h : WI P B X w0 S0 E s) {e : TypeId} {rows new : List (List C)} {olds news Z : List Value} {cap d : Nat} {old : Option (Bool × Nat)} {s' : RSt}
    (hsz : ∀ r ∈ rows ++ new, r.length = P.cellsOf e) (hlo : olds.length = rows.length * P.cellsOf e) (hln : news.length = new.length * P.cellsOf e)
    (hcap : rows.length + new.length ≤ cap) (hmax : cap ≤ maxLen) (hZ : Z.length = (cap - (rows.length + new.length)) * P.cellsOf e)
    (hro : ∀ (i j : Nat) (r : List C) (c : C) (v : Value), rows[i]? = some r → r[j]? = some c → olds[i * P.cellsOf e + j]? = some v → Rd P E.w E.S v c)
    (hrn : ∀ (i j : Nat) (r : List C) (c : C) (v : Value), new[i]? = some r → r[j]? = some c → news[i * P.cellsOf e + j]? = some v → Rd P E.w E.S v c)
    (hid : s.p.testBit d = false) (hm : s'.m = s.m) (hp : ∀ k, s.p.testBit k = true ∨ some d = some k → s'.p.testBit k = true)
    (hxn : ∀ k, s.xn.testBit k = true ∨ old = some (true, k) → s'.xn.testBit k = true) (hxo : ∀ k, s.xo.testBit k = true ∨ old = some (false, k) → s'.xo.testBit k = true)
    (holdp : ∀ k, old = some (true, k) → s.p.testBit k = true) :
    ∃ E', E'.w = (E.w.drew.alloc (.cells (olds.toArray ++ news.toArray ++ Z.toArray) e)) ∧ E.le E' ∧ WI P B X w0 S0 E' s' ∧
      VR P E' (.slice (some ⟨E.w.heap.size, 0, none⟩) (rows.length + new.length) cap) (.own true d e (rows ++ new)) := by
  have hnew : (E.w.drew.alloc (.cells (olds.toArray ++ news.toArray ++ Z.toArray) e)).heap[E.w.heap.size]? = some (.cells (olds.toArray ++ news.toArray ++ Z.toArray) e (0, 0)) := heap_alloc_new E.w.drew _
  have hlen : (olds ++ news).length = (rows.length + new.length) * P.cellsOf e := by rw [List.length_append, hlo, hln, Nat.add_mul]
  have hg : Grows E (E.w.drew.alloc (.cells (olds.toArray ++ news.toArray ++ Z.toArray) e)) none :=
    ⟨rfl, rfl, rfl, by simp, fun k hk _ => heap_alloc_old E.w.drew _ k hk, fun b o u hs hc => by
      rw [World.cell_of_block (heap_alloc_old E.w.drew _ b (h.slt b o hs))]; exact hc⟩
  have hS1 : ∀ b o, E.S b o → (fun b o => E.S b o ∨ (b = E.w.heap.size ∧ o < (rows.length + new.length) * P.cellsOf e)) b o := fun b o hs => .inl hs
  have hown : OwnBlk P (E.w.drew.alloc (.cells (olds.toArray ++ news.toArray ++ Z.toArray) e)) (fun b o => E.S b o ∨ (b = E.w.heap.size ∧ o < (rows.length + new.length) * P.cellsOf e)) B
      (.slice (some ⟨E.w.heap.size, 0, none⟩) (rows.length + new.length) cap) e := by
    refine ⟨_, _, _, _, _, rfl, h.hB, hnew, Nat.le_of_eq (Eq.symm ?_), hcap, hmax, ?_⟩
    · simp only [Array.size_append, List.size_toArray, hZ, hlo, hln]
      rw [← Nat.add_mul, ← Nat.add_mul]
      congr 1
      omega
    · intro o ho
      rcases ho with ho | ho
      · exact absurd (h.slt _ _ ho) (Nat.lt_irrefl _)
      · exact ho.2
  refine ⟨envApp E _ (fun b o => E.S b o ∨ (b = E.w.heap.size ∧ o < (rows.length + new.length) * P.cellsOf e)) old (some d) (.reg (.slice (some ⟨E.w.heap.size, 0, none⟩) (rows.length + new.length) cap) e), rfl,
    envApp_le h hg hS1 (fun k hk => by cases hk; exact hid), ?_, ?_⟩
  · refine wi_app h hg (fun g hg => by cases hg) hS1 ?_ ?_ (.inr ⟨_, _, rfl, hown, _, rfl, .inl (Nat.le_refl _)⟩) (fun k hk => by cases hk; exact hid) hm hp hxn hxo holdp
    · intro b o hb
      rcases hb with hb | hb
      · exact .inl hb
      · exact .inr (.inl (by omega))
    · intro b o hb
      rcases hb with hb | hb
      · have := h.slt b o hb; simp; omega
      · simp; omega
  · refine .own _ _ _ _ _ ?_ (.inr (.inr (by simp [envApp])))
    have hle := envApp_le (old := old) (id := some d) (st := (.reg (.slice (some ⟨E.w.heap.size, 0, none⟩) (rows.length + new.length) cap) e)) h hg hS1 (fun k hk => by cases hk; exact hid)
    refine Rd.mk (L := olds ++ news) (by simp) hcap hsz hlen ?_ ?_
    · intro q v hq
      have hlt := (List.getElem?_eq_some_iff.1 hq).1
      refine ⟨(cell_of_row _ _ q _ _ _ hnew).trans ?_, .inr ⟨rfl, by rw [hlen] at hlt; exact hlt⟩⟩
      rw [Array.getElem?_append_left (by simpa using hlt)]
      simpa using hq
    · intro i j r c v hi hj hv
      have hjl : j < P.cellsOf e := by rw [← hsz r (List.mem_of_getElem? hi)]; exact (List.getElem?_eq_some_iff.1 hj).1
      refine Rd.mono hle.cell hle.S ?_
      rw [List.getElem?_append] at hi hv
      by_cases h1 : i < rows.length
      · rw [if_pos h1] at hi
        have h3 : (i + 1) * P.cellsOf e ≤ rows.length * P.cellsOf e := Nat.mul_le_mul_right _ h1
        rw [Nat.add_mul, Nat.one_mul] at h3
        rw [if_pos (by rw [hlo]; omega)] at hv
        exact hro i j r c v hi hj hv
      · rw [if_neg h1] at hi
        have h3 : rows.length * P.cellsOf e ≤ i * P.cellsOf e := Nat.mul_le_mul_right _ (by omega)
        rw [if_neg (by rw [hlo]; omega), hlo] at hv
        refine hrn (i - rows.length) j r c v hi hj ?_
        rw [Nat.sub_mul, ← Nat.sub_add_comm h3]
        exact hv

/-- What an append leaves where there was room. -/
theorem room_env (h : WI P B X w0 S0 E s) {e : TypeId} {rows new : List (List C)} {news : List Value} {g cap d k : Nat} {nw : Bool} {cur : Array Value} {e' : TypeId} {s' : RSt}
    (hsz : ∀ r ∈ rows ++ new, r.length = P.cellsOf e) (hln : news.length = new.length * P.cellsOf e)
    (hreg : E.ow nw k = .reg (.slice (some ⟨g, 0, none⟩) rows.length cap) e) (hh : E.w.heap[g]? = some (.cells cur e' (0, 0))) (hcap : rows.length + new.length ≤ cap)
    (hrd : Rd P E.w E.S (.slice (some ⟨g, 0, none⟩) rows.length cap) (.sl e rows))
    (hrn : ∀ (i j : Nat) (r : List C) (c : C) (v : Value), new[i]? = some r → r[j]? = some c → news[i * P.cellsOf e + j]? = some v → Rd P E.w E.S v c)
    (hid : s.p.testBit d = false) (hm : s'.m = s.m) (hp : ∀ i, s.p.testBit i = true ∨ some d = some i → s'.p.testBit i = true)
    (hxn : ∀ i, s.xn.testBit i = true ∨ some (nw, k) = some (true, i) → s'.xn.testBit i = true) (hxo : ∀ i, s.xo.testBit i = true ∨ some (nw, k) = some (false, i) → s'.xo.testBit i = true) :
    ∃ E', E'.w = E.w.setRow g (cur.toList.take (rows.length * P.cellsOf e) ++ news ++ cur.toList.drop (rows.length * P.cellsOf e + news.length)).toArray ∧ E.le E' ∧ WI P B X w0 S0 E' s' ∧
      VR P E' (.slice (some ⟨g, 0, none⟩) (rows.length + new.length) cap) (.own true d e (rows ++ new)) := by
  obtain ⟨⟨g', n', cap', cur', e2, hv', hB, hh', hcs, hnc, hmax, hfr⟩, hl⟩ := h.own _ _ _ _ hreg
  cases hv'
  rw [hh] at hh'
  cases hh'
  have hglt : g < E.w.heap.size := (Array.getElem?_eq_some_iff.1 hh).1
  have hnc1 : (rows.length + new.length) * P.cellsOf e ≤ cap * P.cellsOf e := Nat.mul_le_mul_right _ hcap
  rw [Nat.add_mul] at hnc1
  generalize hC : (cur.toList.take (rows.length * P.cellsOf e) ++ news ++ cur.toList.drop (rows.length * P.cellsOf e + news.length)) = cs
  have hcslen : cs.length = cur.size := by
    rw [← hC]
    simp only [List.length_append, List.length_take, List.length_drop, Array.length_toList, hln]
    omega
  have hnew : (E.w.setRow g cs.toArray).heap[g]? = some (.cells cs.toArray e' (0, 0)) := setRow_heap E.w g cur _ e' (0, 0) hh
  have htl : (cur.toList.take (rows.length * P.cellsOf e)).length = rows.length * P.cellsOf e := by
    have h1 : cap * P.cellsOf e ≤ cur.toList.length := by simpa using hcs
    rw [List.length_take]; omega
  have hlow : ∀ q, q < rows.length * P.cellsOf e → cs[q]? = cur[q]? := by
    intro q hq
    rw [← hC, List.append_assoc, List.getElem?_append, if_pos (by rw [htl]; exact hq), List.getElem?_take, if_pos hq]
    simp
  have hmid : ∀ q, q < news.length → cs[rows.length * P.cellsOf e + q]? = news[q]? := by
    intro q hq
    rw [← hC, List.append_assoc, List.getElem?_append, if_neg (by rw [htl]; omega), htl, List.getElem?_append, if_pos (by omega)]
    congr 1
    omega
  have hg : Grows E (E.w.setRow g cs.toArray) (some g) := by
    refine ⟨rfl, rfl, rfl, by simp [World.setRow], fun i hi hne => setRow_other E.w g i _ (fun hig => hne (by rw [hig])), ?_⟩
    intro b o u hs hc
    by_cases hb : b = g
    · subst hb
      rw [cell_of_row _ _ _ _ _ _ hnew]
      rw [cell_of_row _ _ _ _ _ _ hh] at hc
      have := hlow o (hfr o hs)
      simp only [List.getElem?_toArray, this]
      exact hc
    · rw [World.cell_of_block (setRow_other E.w g b _ hb)]
      exact hc
  have hS1 : ∀ b o, E.S b o → (fun b o => E.S b o ∨ (b = g ∧ o < (rows.length + new.length) * P.cellsOf e)) b o := fun b o hs => .inl hs
  have hidd : ∀ i, some d = some i → s.p.testBit i = false := fun i hi => by cases hi; exact hid
  have hown : OwnBlk P (E.w.setRow g cs.toArray) (fun b o => E.S b o ∨ (b = g ∧ o < (rows.length + new.length) * P.cellsOf e)) B (.slice (some ⟨g, 0, none⟩) (rows.length + new.length) cap) e := by
    refine ⟨_, _, _, _, _, rfl, hB, hnew, by simpa [hcslen] using hcs, hcap, hmax, ?_⟩
    intro o ho
    rcases ho with ho | ho
    · have := hfr o ho
      rw [Nat.add_mul]
      omega
    · exact ho.2
  have hle := envApp_le (old := some (nw, k)) (id := some d) (st := (.reg (.slice (some ⟨g, 0, none⟩) (rows.length + new.length) cap) e)) h hg hS1 hidd
  refine ⟨_, rfl, hle, ?_, ?_⟩
  · refine wi_app h hg ?_ hS1 ?_ ?_ (.inr ⟨_, _, rfl, hown, _, rfl, .inr rfl⟩) hidd hm hp hxn hxo ?_
    · intro g' hg'
      cases hg'
      exact ⟨hB, nw, k, _, _, rfl, hreg, rfl⟩
    · intro b o hb
      rcases hb with hb | hb
      · exact .inl hb
      · exact .inr (.inr (by rw [hb.1]))
    · intro b o hb
      rcases hb with hb | hb
      · exact Nat.lt_of_lt_of_le (h.slt b o hb) hg.size
      · rw [hb.1]; exact Nat.lt_of_lt_of_le hglt hg.size
    · intro i hi
      cases hi
      exact h.new _ (by rw [hreg]; simp)
  · refine .own _ _ _ _ _ ?_ (.inr (.inr (by simp [envApp])))
    refine Rd.mk (L := cs.take ((rows.length + new.length) * P.cellsOf e)) (by simp) hcap hsz (by rw [List.length_take, hcslen, Nat.min_eq_left (Nat.le_trans (Nat.mul_le_mul_right _ hcap) hcs)]) ?_ ?_
    · intro q v hq
      rw [List.getElem?_take] at hq
      split at hq
      · rename_i hlt
        refine ⟨(cell_of_row _ _ q _ _ _ hnew).trans ?_, .inr ⟨rfl, hlt⟩⟩
        simpa using hq
      · cases hq
    · intro i j r c v hi hj hv
      have hjl : j < P.cellsOf e := by rw [← hsz r (List.mem_of_getElem? hi)]; exact (List.getElem?_eq_some_iff.1 hj).1
      refine Rd.mono hle.cell hle.S ?_
      rw [List.getElem?_take] at hv
      split at hv
      · rw [List.getElem?_append] at hi
        by_cases h1 : i < rows.length
        · rw [if_pos h1] at hi
          have h3 : (i + 1) * P.cellsOf e ≤ rows.length * P.cellsOf e := Nat.mul_le_mul_right _ h1
          rw [Nat.add_mul, Nat.one_mul] at h3
          rw [hlow _ (by omega)] at hv
          obtain ⟨b, off, cap2, vs, he, _, _, hcell⟩ := hrd.cells (by intro hc; rw [hc] at h1; simp at h1)
          cases he
          have := hcell i j h1 hjl
          rw [cell_of_row _ _ _ _ _ _ hh, Nat.zero_add, hv] at this
          obtain ⟨⟨h4, _⟩, h5⟩ := this
          cases h4
          exact h5 r c hi hj
        · rw [if_neg h1] at hi
          have h2 : i - rows.length < new.length := (List.getElem?_eq_some_iff.1 hi).1
          have h3 : rows.length * P.cellsOf e ≤ i * P.cellsOf e := Nat.mul_le_mul_right _ (by omega)
          have h4 : (i - rows.length + 1) * P.cellsOf e ≤ new.length * P.cellsOf e := Nat.mul_le_mul_right _ h2
          rw [Nat.add_mul, Nat.one_mul, Nat.sub_mul] at h4
          have h5 := hmid ((i - rows.length) * P.cellsOf e + j) (by rw [hln, Nat.sub_mul]; omega)
          rw [show rows.length * P.cellsOf e + ((i - rows.length) * P.cellsOf e + j) = i * P.cellsOf e + j by rw [Nat.sub_mul]; omega, hv] at h5
          exact hrn (i - rows.length) j r c v hi hj h5.symm
      · cases hv
end

end Go.Rb
namespace Go.Rb

theorem mask_bit {x k : Nat} (h : x &&& 2 ^ k = 0) : x.testBit k = false := by
  have h1 : (x &&& 2 ^ k).testBit k = false := by rw [h]; simp
  simpa [Nat.testBit_and, Nat.testBit_two_pow_self] using h1

theorem run_append_room2 {P : Program} (w : World) (t ty e e2 : TypeId) (i : TypeInfo) (ht : P.underlying t = some (.slice e)) (hi : P.info? e = some i)
    (g sLen sCap : Nat) (cur : Array Value) (hg : w.heap[g]? = some (.cells cur e2 (0, 0)))
    (a : Addr) (m c : Nat) (news : List Value) (hl : news.length = m * i.size) (hnews : ∀ j u, news[j]? = some u → w.cell? (a.add j) = some u) (h1 : ∀ u ∈ news, u.oneCell' = true)
    (hroom : sLen + m ≤ sCap) (hfit : sLen * i.size + news.length ≤ cur.size) :
    (Builtin.append_ #[t, t] ty #[.slice (some ⟨g, 0, none⟩) sLen sCap, .slice (some a) m c]).run P w =
      .ok (.slice (some ⟨g, 0, none⟩) (sLen + m) sCap) (w.setRow g (cur.toList.take (sLen * i.size) ++ news ++ cur.toList.drop (sLen * i.size + news.length)).toArray) := by
  have hf := run_firstCells_some (P := P) w i.size m a m c news hl hnews
  have hst := run_storeCells_at P g (sLen * i.size) e2 news 0 cur w hg (by simpa using hfit) h1
  simp only [Nat.add_zero] at hst
  simp [Builtin.append_, run_underlying ht, sizeOf, typeInfo, hi, Builtin.lenOf, hroom, hf, Addr.add_lit, hst]

section
variable {P : Program} {B : Nat} {X : Nat → Prop} {w0 : World} {S0 : Nat → Nat → Prop} {E : Env} {s : RSt}

/-- Nothing happens to the world: the right of 'old' goes over to d. -/
theorem same_env (h : WI P B X w0 S0 E s) {old : Option (Bool × Nat)} {d : Nat} (s' : RSt) (hid : s.p.testBit d = false) (hm : s'.m = s.m)
    (hp : ∀ k, s.p.testBit k = true ∨ some d = some k → s'.p.testBit k = true)
    (hxn : ∀ k, s.xn.testBit k = true ∨ old = some (true, k) → s'.xn.testBit k = true) (hxo : ∀ k, s.xo.testBit k = true ∨ old = some (false, k) → s'.xo.testBit k = true)
    (holdp : ∀ k, old = some (true, k) → s.p.testBit k = true) (st : OwnSt)
    (hst : st = .none ∨ ∃ nw k v e, old = some (nw, k) ∧ E.ow nw k = .reg v e ∧ st = .reg v e) :
    ∃ E', E'.w = E.w ∧ E.le E' ∧ WI P B X w0 S0 E' s' ∧ E'.S = E.S ∧ E'.ow true d = st := by
  have hidd : ∀ i, some d = some i → s.p.testBit i = false := fun i hi => by cases hi; exact hid
  rcases hst with h1 | ⟨nw, k, v, e, h1, h2, h3⟩
  · have hg : Grows E E.w none := ⟨rfl, rfl, rfl, Nat.le_refl _, fun _ _ _ => rfl, fun _ _ _ _ hc => hc⟩
    exact ⟨envApp E E.w E.S old (some d) st, rfl, envApp_le h hg (fun _ _ hs => hs) hidd,
      wi_app h hg (fun g hg => by cases hg) (fun _ _ hs => hs) (fun _ _ hs => .inl hs) h.slt (.inl h1) hidd hm hp hxn hxo holdp, rfl, by simp [envApp]⟩
  · obtain ⟨hown, hl⟩ := h.own nw k v e h2
    obtain ⟨g, hg1, hg2, _⟩ := ownBlk_block hown
    have hg : Grows E E.w (some g) := ⟨rfl, rfl, rfl, Nat.le_refl _, fun _ _ _ => rfl, fun _ _ _ _ hc => hc⟩
    exact ⟨envApp E E.w E.S old (some d) st, rfl, envApp_le h hg (fun _ _ hs => hs) hidd,
      wi_app h hg (fun g' hg' => by cases hg'; exact ⟨hg2, nw, k, v, e, h1, h2, hg1⟩) (fun _ _ hs => hs) (fun _ _ hs => .inl hs) h.slt (.inr ⟨v, e, h3, hown, g, hg1, .inr rfl⟩) hidd hm hp hxn hxo holdp, rfl, by simp [envApp]⟩

/-- The number of a slice of one's own. -/
def AV.oid (p : Nat) : AV → Option (Bool × Nat)
  | .own true k _ _ => if p.testBit k = true then some (true, k) else none
  | .own false k _ _ => some (false, k)
  | _ => none

theorem rows_size {w : World} {S : Nat → Nat → Prop} {v : Value} {e : TypeId} {rows : List (List C)} (h : Rd P w S v (.sl e rows)) : ∀ r ∈ rows, r.length = P.cellsOf e := by
  by_cases hr : rows = []
  · subst hr; simp
  · obtain ⟨_, _, _, _, _, _, h1, _⟩ := h.cells hr; exact h1

set_option maxHeartbeats 1000000 in
theorem append_sound (h : WI P B X w0 S0 E s) {va vb : Value} {x y : AV} {ty tt e : TypeId} {rows new : List (List C)} {d : Nat} (hu : P.underlying ty = some (.slice e))
    (hx : VR P E va x) (hb : x.base e = some rows) (hxo : s.xo &&& maskO x = 0) (hxn : s.xn &&& maskN x = 0) (hd : s.p.testBit d = false) (hy : VR P E vb y) (hr : y.rows e = some new)
    (hbytes : (rows.length + new.length) * P.bytesOf e ≤ 140737488355328) (hmax : rows.length + new.length ≤ maxLen) (hz : (zc P e).map (·.length) = some (P.cellsOf e)) (hz0 : P.cellsOf e ≠ 0) :
    ∃ v' E', (Builtin.append_ #[ty, ty] tt #[va, vb]).run P E.w = .ok v' E'.w ∧ E.le E' ∧
      WI P B X w0 S0 E' { s with p := s.p ||| 2 ^ d, xo := s.xo ||| maskO x, xn := s.xn ||| maskN x } ∧ VR P E' v' (.own true d e (rows ++ new)) := by
  obtain ⟨i, z, hi, hiz, hzs, hz1⟩ := zc_info hz
  have hsize : i.size = P.cellsOf e := cellsOf_size hi
  have hbyt : i.bytes = P.bytesOf e := by simp [Program.bytesOf, hi]
  have hnd := hy.rows hr
  obtain ⟨ab, capb, rfl, hcapb⟩ := hnd.slice
  have hp : ∀ k, s.p.testBit k = true ∨ some d = some k → (s.p ||| 2 ^ d).testBit k = true := by
    intro k hk
    rcases hk with hk | hk
    · exact testBit_or_left hk
    · cases hk; exact testBit_or_right Nat.testBit_two_pow_self
  have hoid : ∀ nw k, x.oid s.p = some (nw, k) → ∃ e' r', x = .own nw k e' r' ∧ (nw = true → s.p.testBit k = true) := by
    intro nw k hk
    unfold AV.oid at hk
    split at hk
    · split at hk
      · rename_i hb; cases hk; exact ⟨_, _, rfl, fun _ => hb⟩
      · cases hk
    · cases hk; exact ⟨_, _, rfl, fun h => by cases h⟩
    · cases hk
  have hxn' : ∀ k, s.xn.testBit k = true ∨ x.oid s.p = some (true, k) → (s.xn ||| maskN x).testBit k = true := by
    intro k hk
    rcases hk with hk | hk
    · exact testBit_or_left hk
    · obtain ⟨e', r', rfl, _⟩ := hoid _ _ hk
      exact testBit_or_right Nat.testBit_two_pow_self
  have hxo' : ∀ k, s.xo.testBit k = true ∨ x.oid s.p = some (false, k) → (s.xo ||| maskO x).testBit k = true := by
    intro k hk
    rcases hk with hk | hk
    · exact testBit_or_left hk
    · obtain ⟨e', r', rfl, _⟩ := hoid _ _ hk
      exact testBit_or_right Nat.testBit_two_pow_self
  have holdp : ∀ k, x.oid s.p = some (true, k) → s.p.testBit k = true := by
    intro k hk
    obtain ⟨_, _, _, h1⟩ := hoid _ _ hk
    exact h1 rfl
  -- the base: full, or registered
  have hbase : Rd P E.w E.S va (.sl e rows) ∧ (Full va ∨ ∃ nw k, x.oid s.p = some (nw, k) ∧ E.ow nw k = .reg va e) := by
    cases hx with
    | nils => simp [AV.base] at hb; subst hb; exact ⟨.emp _ _ _, .inl ⟨none, 0, rfl⟩⟩
    | own v nw k e' rows' hrd ho =>
      simp [AV.base] at hb
      obtain ⟨rfl, rfl⟩ := hb
      refine ⟨hrd, ?_⟩
      rcases ho with ho | ho | ho
      · exact .inl ho
      · exfalso
        cases nw
        · have h1 := h.deado k ho
          rw [mask_bit hxo] at h1
          cases h1
        · have h1 := h.deadn k ho
          rw [mask_bit hxn] at h1
          cases h1
      · refine .inr ⟨nw, k, ?_, ho⟩
        cases nw
        · rfl
        · have h1 := h.new k (by rw [ho]; simp)
          simp [AV.oid, h1]
    | _ => simp [AV.base] at hb
  obtain ⟨hrd, hkind⟩ := hbase
  obtain ⟨aa, capa, rfl, hcapa⟩ := hrd.slice
  have hszall : ∀ r ∈ rows ++ new, r.length = P.cellsOf e := by
    intro r hr'
    rcases List.mem_append.1 hr' with h1 | h1
    · exact rows_size hrd r h1
    · exact rows_size hnd r h1
  by_cases hnew : new = []
  · -- nothing is appended
    subst hnew
    rw [List.append_nil]
    have hrun := run_append_zero (P := P) (w := E.w) (t := ty) (ty := tt) hu (by rw [hi]; rfl) aa ab rows.length capa capb hcapa
    rcases hkind with ⟨a', n', hf⟩ | ⟨nw, k, hid, hreg⟩
    · obtain ⟨E', hw, hle, hwi, hS, _⟩ := same_env (old := x.oid s.p) h { s with p := s.p ||| 2 ^ d, xo := s.xo ||| maskO x, xn := s.xn ||| maskN x } hd rfl hp hxn' hxo' holdp .none (.inl rfl)
      refine ⟨_, E', by rw [hw]; exact hrun, hle, hwi, .own _ _ _ _ _ (by rw [hw, hS]; exact hrd) (.inl ⟨_, _, hf⟩)⟩
    · obtain ⟨E', hw, hle, hwi, hS, how⟩ := same_env (old := x.oid s.p) h { s with p := s.p ||| 2 ^ d, xo := s.xo ||| maskO x, xn := s.xn ||| maskN x } hd rfl hp hxn' hxo' holdp (.reg (.slice aa rows.length capa) e) (.inr ⟨nw, k, _, _, hid, hreg, rfl⟩)
      refine ⟨_, E', by rw [hw]; exact hrun, hle, hwi, .own _ _ _ _ _ (by rw [hw, hS]; exact hrd) (.inr (.inr how))⟩
  · -- some rows are appended
    obtain ⟨b, off, cap2, vs, he, _, _, hcell⟩ := hnd.cells hnew
    cases he
    have hm0 : 0 < new.length := List.length_pos_iff.2 hnew
    have hnl : (flat (P.cellsOf e) new.length vs).length = new.length * i.size := by rw [flat_length, hsize]
    have hnc : ∀ (j : Nat) (v : Value), (flat (P.cellsOf e) new.length vs)[j]? = some v → E.w.cell? ((⟨b, off, none⟩ : Addr).add j) = some v := by
      intro j v hv
      obtain ⟨i', j', h1, h2, rfl, rfl⟩ := flat_inv _ _ _ _ _ hv
      rw [addr_add]
      exact (hcell i' j' h1 h2).1.1
    have hn1 : ∀ u ∈ flat (P.cellsOf e) new.length vs, u.oneCell' = true := by
      intro u hu'
      obtain ⟨q, hq⟩ := List.getElem?_of_mem hu'
      obtain ⟨i', j', h1, h2, rfl, rfl⟩ := flat_inv _ _ _ _ _ hq
      have h3 := List.getElem?_eq_getElem h1
      have h4 : new[i'].length = P.cellsOf e := rows_size hnd _ (List.mem_of_getElem? h3)
      exact ((hcell i' j' h1 h2).2 _ _ h3 (List.getElem?_eq_getElem (by omega))).oneCell
    have hrn : ∀ (i' j' : Nat) (r : List C) (c : C) (v : Value), new[i']? = some r → r[j']? = some c → (flat (P.cellsOf e) new.length vs)[i' * P.cellsOf e + j']? = some v → Rd P E.w E.S v c := by
      intro i' j' r c v h1 h2 h3
      have h4 : i' < new.length := (List.getElem?_eq_some_iff.1 h1).1
      have h5 : j' < P.cellsOf e := by rw [← rows_size hnd r (List.mem_of_getElem? h1)]; exact (List.getElem?_eq_some_iff.1 h2).1
      rw [flat_get _ _ _ _ _ h4 h5] at h3
      cases h3
      exact (hcell i' j' h4 h5).2 r c h1 h2
    have hmax63 : ((rows.length + new.length : Nat) : Int) ≤ 9223372036854775807 := by simp only [maxLen] at hmax; omega
    have grow : capa < rows.length + new.length → ∀ (ad : Addr) (olds : List Value), aa = some ad → olds.length = rows.length * P.cellsOf e →
        (∀ (j : Nat) (v : Value), olds[j]? = some v → E.w.cell? (ad.add j) = some v) →
        (∀ (i' j' : Nat) (r : List C) (c : C) (v : Value), rows[i']? = some r → r[j']? = some c → olds[i' * P.cellsOf e + j']? = some v → Rd P E.w E.S v c) →
        ∃ v' E', (Builtin.append_ #[ty, ty] tt #[.slice aa rows.length capa, .slice (some ⟨b, off, none⟩) new.length capb]).run P E.w = .ok v' E'.w ∧ E.le E' ∧
          WI P B X w0 S0 E' { s with p := s.p ||| 2 ^ d, xo := s.xo ||| maskO x, xn := s.xn ||| maskN x } ∧ VR P E' v' (.own true d e (rows ++ new)) := by
      intro hlt ad olds ha holen hoc hor
      subst ha
      have hrun := run_append_grow (P := P) E.w ty tt e i z hu hi hiz ad rows.length capa olds (by rw [holen, hsize]) hoc ⟨b, off, none⟩ new.length capb _ hnl hnc hlt hmax63
        (growslice_fits hlt (by rw [hbyt]; exact hbytes))
      obtain ⟨E', hw, hle, hwi, hv⟩ := grow_env (old := x.oid s.p) (s' := { s with p := s.p ||| 2 ^ d, xo := s.xo ||| maskO x, xn := s.xn ||| maskN x }) h
        (olds := olds) (news := flat (P.cellsOf e) new.length vs) (Z := (Builtin.zeroCells z.cells (grownCap E.w (rows.length + new.length) capa e - (rows.length + new.length))).toList) hszall holen (flat_length _ _ _)
        (grownCap_ge E.w _ _ _) (grownCap_le_maxLen _ _ _ _ hmax) (by rw [Array.length_toList, zeroCells_size, hzs]) hor hrn hd rfl hp hxn' hxo' holdp
      exact ⟨_, E', by rw [hw]; exact hrun, hle, hwi, hv⟩
    rcases hkind with ⟨a', n', hf⟩ | ⟨nw, k, hid, hreg⟩
    · -- full: a new array
      cases hf
      · cases aa with
        | none =>
          have hr0 : rows = [] := by
            by_cases h1 : rows = []
            · exact h1
            · obtain ⟨_, _, _, _, he, _⟩ := hrd.cells h1; cases he
          subst hr0
          have hrun := run_append_nil (P := P) E.w ty tt e i z hu hi hiz ⟨b, off, none⟩ new.length capb _ hnl hnc hm0 (by simpa using hmax63) (by rw [hbyt]; have := hbytes; simp only [List.length_nil, Nat.zero_add] at this; omega)
          obtain ⟨E', hw, hle, hwi, hv⟩ := grow_env (old := x.oid s.p) (s' := { s with p := s.p ||| 2 ^ d, xo := s.xo ||| maskO x, xn := s.xn ||| maskN x }) h
            (rows := []) (olds := []) (news := flat (P.cellsOf e) new.length vs) (Z := (Builtin.zeroCells z.cells (grownCap E.w new.length 0 e - new.length)).toList) (cap := grownCap E.w new.length 0 e) hszall (by simp) (flat_length _ _ _)
            (by simp [grownCap_ge]) (grownCap_le_maxLen _ _ _ _ (by simpa using hmax)) (by rw [Array.length_toList, zeroCells_size, hzs]; simp) (by simp) hrn hd rfl hp hxn' hxo' holdp
          refine ⟨_, E', ?_, hle, hwi, hv⟩
          rw [hw]
          have hrun' := hrun
          simp only [List.length_nil, Nat.zero_add] at hrun' ⊢
          rw [hrun']
          simp
        | some ad =>
          by_cases hr0 : rows = []
          · subst hr0
            exact grow (by simpa using hm0) ad [] rfl (by simp) (by simp) (by simp)
          · obtain ⟨b2, off2, cap3, vs2, he, _, _, hcell2⟩ := hrd.cells hr0
            cases he
            refine grow (by omega) ⟨b2, off2, none⟩ (flat (P.cellsOf e) rows.length vs2) rfl (flat_length _ _ _) ?_ ?_
            · intro j v hv
              obtain ⟨i', j', h1, h2, rfl, rfl⟩ := flat_inv _ _ _ _ _ hv
              rw [addr_add]
              exact (hcell2 i' j' h1 h2).1.1
            · intro i' j' r c v h1 h2 h3
              have h4 : i' < rows.length := (List.getElem?_eq_some_iff.1 h1).1
              have h5 : j' < P.cellsOf e := by rw [← rows_size hrd r (List.mem_of_getElem? h1)]; exact (List.getElem?_eq_some_iff.1 h2).1
              rw [flat_get _ _ _ _ _ h4 h5] at h3
              cases h3
              exact (hcell2 i' j' h4 h5).2 r c h1 h2
    · obtain ⟨⟨g, n', cap', cur, e2, hv', hB, hh, hcs, hnc', hmx', hfr⟩, hl⟩ := h.own _ _ _ _ hreg
      cases hv'
      by_cases hroom : rows.length + new.length ≤ capa
      · have hfit : rows.length * i.size + (flat (P.cellsOf e) new.length vs).length ≤ cur.size := by
          rw [hnl, hsize, ← Nat.add_mul]; exact Nat.le_trans (Nat.mul_le_mul_right _ hroom) hcs
        have hrun := run_append_room2 (P := P) E.w ty tt e e2 i hu hi g rows.length capa cur hh ⟨b, off, none⟩ new.length capb _ hnl hnc hn1 hroom hfit
        obtain ⟨E', hw, hle, hwi, hv⟩ := room_env (s' := { s with p := s.p ||| 2 ^ d, xo := s.xo ||| maskO x, xn := s.xn ||| maskN x }) h (news := flat (P.cellsOf e) new.length vs) hszall (flat_length _ _ _) hreg hh hroom hrd hrn hd rfl hp
          (fun i hi => hxn' i (hi.imp_right fun h1 => by rw [hid]; exact h1)) (fun i hi => hxo' i (hi.imp_right fun h1 => by rw [hid]; exact h1))
        refine ⟨_, E', ?_, hle, hwi, hv⟩
        rw [hw, hrun, hsize]
      · refine grow (by omega) ⟨g, 0, none⟩ (cur.toList.take (rows.length * P.cellsOf e)) rfl ?_ ?_ ?_
        · have h1 : capa * P.cellsOf e ≤ cur.toList.length := by simpa using hcs
          have h2 : rows.length * P.cellsOf e ≤ capa * P.cellsOf e := Nat.mul_le_mul_right _ hcapa
          rw [List.length_take]; omega
        · intro j v hv
          rw [List.getElem?_take] at hv
          split at hv
          · rw [addr_add, cell_of_row _ _ _ _ _ _ hh]; simpa using hv
          · cases hv
        · intro i' j' r c v h1 h2 h3
          have h4 : i' < rows.length := (List.getElem?_eq_some_iff.1 h1).1
          have h5 : j' < P.cellsOf e := by rw [← rows_size hrd r (List.mem_of_getElem? h1)]; exact (List.getElem?_eq_some_iff.1 h2).1
          obtain ⟨b2, off2, cap3, vs2, he, _, _, hcell2⟩ := hrd.cells (by intro hc; rw [hc] at h4; simp at h4)
          cases he
          have := hcell2 i' j' h4 h5
          rw [cell_of_row _ _ _ _ _ _ hh, Nat.zero_add] at this
          rw [List.getElem?_take] at h3
          split at h3
          · have h6 : cur[i' * P.cellsOf e + j']? = some v := by simpa using h3
            rw [h6] at this
            obtain ⟨⟨h7, _⟩, h8⟩ := this
            cases h7
            exact h8 r c h1 h2
          · cases h3
end

end Go.Rb
namespace Go.Rb

theorem fill_size {pl : Nat → Option (Nat × Nat)} : ∀ (vs : List (Nat × Value)) (cs cs' : Array Value), Instr.fill pl cs vs = some cs' → cs'.size = cs.size
  | [], cs, cs', h => by simp [Instr.fill] at h; rw [h]
  | (i, v) :: vs, cs, cs', h => by
    cases hp : pl i with
    | none => simp [Instr.fill, hp] at h
    | some p =>
      obtain ⟨off, size⟩ := p
      by_cases hc : v.cells.size = size ∧ off + v.cells.size ≤ cs.size
      · rw [fill_cons pl cs i v vs hp hc.1 hc.2] at h
        rw [fill_size vs _ cs' h, putCells_size]
      · rw [Instr.fill] at h
        simp only [hp] at h
        have : (decide (v.cells.size ≠ size) || decide (off + v.cells.size > cs.size)) = true := by
          simp only [ne_eq, Bool.or_eq_true, decide_eq_true_eq]; omega
        rw [this] at h
        simp at h

/-- Cells that read as rows. -/
theorem toCs_get (ty : Nat → TypeId) : ∀ (xs : List AV) (j : Nat) (cs : List C), toCs ty j xs = some cs → cs.length = xs.length ∧ ∀ (i : Nat) (c : C), cs[i]? = some c → ∃ x, xs[i]? = some x ∧ x.toC (ty (j + i)) = some c
  | [], j, cs, h => by simp [toCs] at h; subst h; simp
  | x :: xs, j, cs, h => by
    rw [toCs] at h
    split at h
    · rename_i c cs' hc hcs
      cases h
      obtain ⟨h1, h2⟩ := toCs_get ty xs (j + 1) cs' hcs
      refine ⟨by simp [h1], fun i c' hi => ?_⟩
      cases i with
      | zero => simp at hi; subst hi; exact ⟨x, rfl, hc⟩
      | succ i =>
        rw [List.getElem?_cons_succ] at hi
        obtain ⟨x', hx, hxc⟩ := h2 i c' hi
        exact ⟨x', by rw [List.getElem?_cons_succ]; exact hx, by rw [show j + (i + 1) = j + 1 + i from by omega]; exact hxc⟩
    · cases h

theorem toRows_get (ty : Nat → TypeId) (sz : Nat) : ∀ (n : Nat) (z : List AV) (rows : List (List C)), z.length = n * sz → toRows ty sz n z = some rows →
    rows.length = n ∧ (∀ r ∈ rows, r.length = sz) ∧ ∀ (i j : Nat) (r : List C) (c : C), rows[i]? = some r → r[j]? = some c → ∃ x, z[i * sz + j]? = some x ∧ x.toC (ty j) = some c
  | 0, z, rows, _, h => by simp [toRows] at h; subst h; simp
  | n + 1, z, rows, hl, h => by
    rw [toRows] at h
    rw [Nat.add_mul, Nat.one_mul] at hl
    split at h
    · rename_i r rs hr hrs
      cases h
      obtain ⟨h1, h2⟩ := toCs_get ty _ 0 r hr
      obtain ⟨h3, h4, h5⟩ := toRows_get ty sz n (z.drop sz) rs (by rw [List.length_drop]; omega) hrs
      have h6 : r.length = sz := by rw [h1, List.length_take]; omega
      refine ⟨by simp [h3], ?_, ?_⟩
      · intro r' hr'
        rcases List.mem_cons.1 hr' with rfl | h7
        · exact h6
        · exact h4 r' h7
      · intro i j r' c hi hj
        cases i with
        | zero =>
          simp at hi
          subst hi
          obtain ⟨x, hx, hxc⟩ := h2 j c hj
          rw [List.getElem?_take] at hx
          split at hx
          · exact ⟨x, by rw [Nat.zero_mul, Nat.zero_add]; exact hx, by rw [Nat.zero_add] at hxc; exact hxc⟩
          · cases hx
        | succ i =>
          rw [List.getElem?_cons_succ] at hi
          obtain ⟨x, hx, hxc⟩ := h5 i j r' c hi hj
          rw [List.getElem?_drop] at hx
          exact ⟨x, by rw [Nat.add_mul, Nat.one_mul, show i * sz + sz + j = sz + (i * sz + j) from by omega]; exact hx, hxc⟩
    · cases h

section
variable {P : Program} {B : Nat} {X : Nat → Prop} {w0 : World} {S0 : Nat → Nat → Prop} {E : Env} {s : RSt}

theorem buildSlice_sound (h : WI P B X w0 S0 E s) {t : TypeId} {n : Nat} {ps : List (Nat × AV)} {vs : Array (Nat × Value)} {rows : List (List C)} (hl : ps.length = vs.size)
    (hr : ∀ (i : Nat) (p : Nat × AV) (q : Nat × Value), ps[i]? = some p → vs[i]? = some q → p.1 = q.1 ∧ VR P E q.2 p.2) (hy : ybs P t n ps = some rows) :
    ∃ v' E', (Instr.buildSlice t n vs).run P E.w = .ok v' E'.w ∧ E.le E' ∧ WI P B X w0 S0 E' s ∧ VR P E' v' (.own false 0 (elemT P t) rows) := by
  unfold ybs at hy
  split at hy
  · rename_i e hu
    split at hy
    · rename_i hc
      obtain ⟨hz, hz0, hlim⟩ := hc
      obtain ⟨i, z, hi, hiz, hzs, hz1⟩ := zc_info hz
      have hsz : ∀ w, (sizeOf e).run P w = .ok (P.cellsOf e) w := run_sizeOf (by rw [hi]; rfl)
      split at hy
      · rename_i z' hf
        generalize hZ : (Array.range (n * P.cellsOf e)).map (z.cells[· % z.cells.size]!) = Z
        have hZs : Z.size = n * P.cellsOf e := by rw [← hZ]; simp
        have hZ1 : ∀ v ∈ Z, v.oneCell' = true := by
          rw [← hZ]
          intro v hv
          simp only [Array.mem_map, Array.mem_range] at hv
          obtain ⟨q, _, rfl⟩ := hv
          have : q % z.cells.size < z.cells.size := Nat.mod_lt _ (by omega)
          rw [getElem!_pos z.cells _ this]
          exact hz1 _ (Array.getElem_mem this)
        have hcr : CellsR P E Z (List.replicate (n * P.cellsOf e) .any) :=
          ⟨by simp [hZs], fun i v x hv hx => by
            rw [List.getElem?_replicate] at hx
            split at hx
            · cases hx; exact ⟨.any _, hZ1 v (Array.mem_of_getElem? hv)⟩
            · cases hx⟩
        obtain ⟨cs, hfill, hcs⟩ := yfill_sound ps vs.toList _ Z z' hcr (by simpa using hl) (fun i p q hp hq => hr i p q hp (by simpa using hq)) hf
        have hz'l : z'.length = n * P.cellsOf e := by
          rw [← hcs.1]
          rw [fill_size _ _ _ hfill, hZs]
        obtain ⟨h1, h2, h3⟩ := toRows_get _ _ n z' rows hz'l hy
        have hrun : (Instr.buildSlice t n vs).run P E.w = .ok (.slice (some ⟨E.w.heap.size, 0, none⟩) n n) (E.w.alloc (.cells cs e)) := by
          have hlim' : ¬ (n * P.cellsOf e > 2 ^ 24) := by omega
          by_cases h0 : n * P.cellsOf e = 0
          · have hZ0 : (Array.range (n * P.cellsOf e)).map ((#[] : Array Value)[· % (#[] : Array Value).size]!) = Z := by rw [← hZ, h0]; simp
            simp only [Instr.buildSlice, Sem.run_bind, run_underlying hu, Result.andThen_ok, hsz, hlim', if_false, if_pos h0, hZ0, hfill, newRow, newObj, Sem.run_pure]
            rfl
          · have hzero : (zeroValue e).run P E.w = .ok z E.w := by simp [zeroValue, typeInfo, hi, hiz]
            simp only [Instr.buildSlice, Sem.run_bind, run_underlying hu, Result.andThen_ok, hsz, hlim', if_false, if_neg h0, hzero, hZ, hfill, newRow, newObj, Sem.run_pure]
            rfl
        have hnew : (E.w.alloc (.cells cs e)).heap[E.w.heap.size]? = some (.cells cs e (0, 0)) := heap_alloc_new E.w _
        have hg : Grows E (E.w.alloc (.cells cs e)) none := ⟨rfl, rfl, rfl, by simp, fun k hk _ => heap_alloc_old E.w _ k hk, fun b o u hs hc => by
          rw [World.cell_of_block (heap_alloc_old E.w _ b (h.slt b o hs))]; exact hc⟩
        have hS1 : ∀ b o, E.S b o → (fun b o => E.S b o ∨ (b = E.w.heap.size ∧ o < n * P.cellsOf e)) b o := fun b o hs => .inl hs
        have hle := envApp_le (old := none) (id := none) (st := .none) h hg hS1 (fun d hd => by cases hd)
        refine ⟨_, envApp E (E.w.alloc (.cells cs e)) (fun b o => E.S b o ∨ (b = E.w.heap.size ∧ o < n * P.cellsOf e)) none none .none, hrun, hle, ?_, ?_⟩
        · refine wi_app h hg (fun g hg => by cases hg) hS1 ?_ ?_ (.inl rfl) (fun d hd => by cases hd) rfl (fun k hk => by rcases hk with hk | hk; exact hk; cases hk)
            (fun k hk => by rcases hk with hk | hk; exact hk; cases hk) (fun k hk => by rcases hk with hk | hk; exact hk; cases hk) (fun k hk => by cases hk)
          · intro b o hb
            rcases hb with hb | hb
            · exact .inl hb
            · exact .inr (.inl (by omega))
          · intro b o hb
            rcases hb with hb | hb
            · have := h.slt b o hb; simp; omega
            · simp; omega
        · have he : elemT P t = e := by simp [elemT, hu]
          rw [he]
          have hcsl : cs.size = n * P.cellsOf e := by rw [hcs.1, hz'l]
          refine .own _ _ _ _ _ (Rd.mk (L := cs.toList) h1.symm (Nat.le_refl _) h2 (by simpa using hcsl) ?_ ?_) (.inl ⟨_, _, rfl⟩)
          · intro q v hq
            have hlt := (List.getElem?_eq_some_iff.1 hq).1
            refine ⟨(cell_of_row _ _ q _ _ _ hnew).trans (by simpa using hq), .inr ⟨rfl, by simpa [hcsl] using hlt⟩⟩
          · intro i j r c v hi hj hv
            obtain ⟨x, hx, hxc⟩ := h3 i j r c hi hj
            exact ((hcs.2 _ v x (by simpa using hv) hx).1.mono hle).toC hxc
      · cases hy
    · cases hy
  · cases hy
end

end Go.Rb
namespace Go.Rb

section
variable {P : Program} {B : Nat} {X : Nat → Prop} {w0 : World} {S0 : Nat → Nat → Prop} {E : Env} {s : RSt}

/-- The state with a new local block. -/
def envNew (E : Env) (w' : World) (d n : Nat) : Env :=
  { E with w := w', β := fun l => if l = d then E.w.heap.size else E.β l, A := fun l => E.A l ∨ l = d, cp := fun l => if l = d then n else E.cp l }

theorem envNew_le (h : WI P B X w0 S0 E s) {d n : Nat} {o : Obj} (hd : s.m d = []) : E.le (envNew E (E.w.alloc o) d n) where
  cell b i u hs hc := (World.cell_of_block (heap_alloc_old E.w _ b (h.slt b i hs))).trans hc
  S _ _ hs := hs
  A l hl := by
    have hne : l ≠ d := by rintro rfl; exact (h.hA l).1 hl hd
    exact ⟨.inl hl, by simp [envNew, hne], by simp [envNew, hne]⟩
  ow _ _ _ _ hr := .inl hr
  dead _ _ hr := hr

theorem wi_new (h : WI P B X w0 S0 E s) {d : Nat} {e : TypeId} {cs : Array Value} {z : List AV} {s' : RSt} (hd : s.m d = []) (hz : z ≠ []) (hc : BlkR P E cs.size cs z)
    (hm : s'.m = setM s.m d z) (hp : s'.p = s.p) (hxo : s'.xo = s.xo) (hxn : s'.xn = s.xn) :
    WI P B X w0 S0 (envNew E (E.w.alloc (.cells cs e)) d cs.size) s' ∧ E.le (envNew E (E.w.alloc (.cells cs e)) d cs.size) ∧
      VR P (envNew E (E.w.alloc (.cells cs e)) d cs.size) (.pointer (some ⟨E.w.heap.size, 0, none⟩)) (.ptr d 0) := by
  have hle := envNew_le (n := cs.size) (o := .cells cs e) h hd
  have hnew : (E.w.alloc (.cells cs e)).heap[E.w.heap.size]? = some (.cells cs e (0, 0)) := heap_alloc_new E.w _
  have hold : ∀ k, k < E.w.heap.size → (E.w.alloc (.cells cs e)).heap[k]? = E.w.heap[k]? := fun k hk => heap_alloc_old E.w _ k hk
  have hlt : ∀ l, s.m l ≠ [] → E.β l < E.w.heap.size := by
    intro l hl
    obtain ⟨cs, e, hh, _⟩ := h.loc l hl
    exact (Array.getElem?_eq_some_iff.1 hh).1
  have hmem : ∀ l, s'.m l ≠ [] → (l = d) ∨ (l ≠ d ∧ s.m l ≠ []) := by
    intro l hl
    by_cases h1 : l = d
    · exact .inl h1
    · rw [hm] at hl; simp [setM, h1] at hl; exact .inr ⟨h1, hl⟩
  have hne : ∀ l, s.m l ≠ [] → l ≠ d := by rintro l hl rfl; exact hl hd
  refine ⟨⟨⟨h.fr.os, h.fr.tape, h.fr.output, Nat.le_trans h.fr.size (by simp [envNew]), fun k hk hX => (hold k (Nat.lt_of_lt_of_le hk h.hB)).trans (h.fr.block k hk hX)⟩, Nat.le_trans h.hB (by simp [envNew]), h.s0, h.sNew,
    fun b o hb => by have := h.slt b o hb; simp [envNew]; omega, ?_, ?_, ?_, ?_, h.ownne, fun k hk => by rw [hp]; exact h.new k hk, fun k hk => by rw [hxn]; exact h.deadn k hk, fun k hk => by rw [hxo]; exact h.deado k hk⟩, hle, ?_⟩
  · intro l
    rw [hm]
    simp only [envNew, setM]
    by_cases h1 : l = d
    · simp [h1, hz]
    · simp [h1, h.hA l]
  · intro l hl
    rcases hmem l hl with rfl | ⟨h1, h2⟩
    · refine ⟨cs, e, ?_, ?_, ?_, ?_⟩
      · simp only [envNew, if_true]; exact hnew
      · rw [hm]; simp only [setM, if_true, envNew]
        exact hc.mono hle
      · intro o ho
        simp only [envNew, if_true] at ho
        exact absurd (h.slt _ _ ho) (Nat.lt_irrefl _)
      · left; simp only [envNew, if_true]; exact h.hB
    · obtain ⟨cs', e', hh, hc', hs, hb⟩ := h.loc l h2
      refine ⟨cs', e', ?_, ?_, ?_, ?_⟩
      · simp only [envNew, if_neg h1]; exact (hold _ (hlt l h2)).trans hh
      · rw [hm]; simp only [setM, if_neg h1, envNew]
        exact hc'.mono hle
      · intro o ho; simp only [envNew, if_neg h1] at ho; exact hs o ho
      · simp only [envNew, if_neg h1]; exact hb
  · intro l l' hl hl' he
    rcases hmem l hl with rfl | ⟨h1, h2⟩ <;> rcases hmem l' hl' with rfl | ⟨h3, h4⟩
    · rfl
    · simp only [envNew, if_true, if_neg h3] at he; have := hlt l' h4; omega
    · simp only [envNew, if_true, if_neg h1] at he; have := hlt l h2; omega
    · simp only [envNew, if_neg h1, if_neg h3] at he; exact h.locne l l' h2 h4 he
  · intro nw k v e' hr
    obtain ⟨⟨g, n, cap, cur, e2, rfl, hB, hh, hsz, hn, hcap, hs⟩, hl⟩ := h.own nw k v e' hr
    have hg : g < E.w.heap.size := (Array.getElem?_eq_some_iff.1 hh).1
    refine ⟨⟨g, n, cap, cur, e2, rfl, hB, (hold g hg).trans hh, hsz, hn, hcap, hs⟩, fun l hl' => ?_⟩
    rcases hmem l hl' with rfl | ⟨h1, h2⟩
    · simp only [envNew, if_true, Value.ownBlock]; intro h3; cases h3; exact Nat.lt_irrefl _ hg
    · simp only [envNew, if_neg h1]; exact hl l h2
  · have := VR.ptr (P := P) (E := envNew E (E.w.alloc (.cells cs e)) d cs.size) d 0 (.inr rfl)
    simp only [envNew, if_true] at this
    exact this

theorem putCells_blk {P : Program} {E : Env} {n : Nat} {cs : Array Value} {z : List AV} {ws : Array Value} {ys : List AV} {off : Nat} (h : BlkR P E n cs z) (k : CellsR P E ws ys) (hf : off + ys.length ≤ z.length) :
    BlkR P E n (putCells cs off ws.toList 0) (place z off ys) := by
  have h1 := h.1
  have h2 := h.2.1
  refine ⟨by rw [putCells_size, h.1], by rw [place_length _ _ _ hf]; exact h.2.1, fun i v x hv hx => ?_⟩
  rw [place_get _ _ _ _ hf] at hx
  rw [putCells_get _ _ _ _ _ (by simp [k.1]; omega)] at hv
  simp only [Nat.add_zero, Array.length_toList, k.1] at hv
  split at hv
  · rename_i hc
    rw [if_pos hc] at hx
    exact k.2 _ _ _ (by simpa using hv) hx
  · rename_i hc
    rw [if_neg hc] at hx
    exact h.2.2 _ _ _ hv hx

/-- The state after a store into a local block. -/
theorem wi_store (h : WI P B X w0 S0 E s) {l off : Nat} {ws : Array Value} {ys : List AV} {s' : RSt} (hl : s.m l ≠ []) (hc : CellsR P E ws ys) (hf : off + ys.length ≤ (s.m l).length) {cs : Array Value} {e : TypeId}
    (hh : E.w.heap[E.β l]? = some (.cells cs e (0, 0))) (hcs : BlkR P E (E.cp l) cs (s.m l))
    (hm : s'.m = setM s.m l (place (s.m l) off ys)) (hp : s'.p = s.p) (hxo : s'.xo = s.xo) (hxn : s'.xn = s.xn) :
    WI P B X w0 S0 { E with w := E.w.setRow (E.β l) (putCells cs off ws.toList 0) } s' ∧ E.le { E with w := E.w.setRow (E.β l) (putCells cs off ws.toList 0) } := by
  obtain ⟨cs2, e2, hh2, hc2, hsl, hbl⟩ := h.loc l hl
  have hnew : (E.w.setRow (E.β l) (putCells cs off ws.toList 0)).heap[E.β l]? = some (.cells (putCells cs off ws.toList 0) e (0, 0)) := setRow_heap E.w _ cs _ e (0, 0) hh
  have hold : ∀ k, k ≠ E.β l → (E.w.setRow (E.β l) (putCells cs off ws.toList 0)).heap[k]? = E.w.heap[k]? := fun k hk => setRow_other E.w _ k _ hk
  have hsize : (E.w.setRow (E.β l) (putCells cs off ws.toList 0)).heap.size = E.w.heap.size := by simp [World.setRow]
  have hle : E.le { E with w := E.w.setRow (E.β l) (putCells cs off ws.toList 0) } :=
    ⟨fun b o u hs hcell => by
      have hb : b ≠ E.β l := by rintro rfl; exact hsl o hs
      show World.cell? _ _ = _
      rw [World.cell_of_block (hold b hb)]; exact hcell, fun _ _ hs => hs, fun _ ha => ⟨ha, rfl, rfl⟩, fun _ _ _ _ hr => .inl hr, fun _ _ hr => hr⟩
  have hpl : (place (s.m l) off ys) ≠ [] := by
    intro h1
    have := place_length _ _ _ hf
    rw [h1] at this
    exact hl (List.eq_nil_of_length_eq_zero this.symm)
  have hmem : ∀ l', s'.m l' ≠ [] ↔ s.m l' ≠ [] := by
    intro l'
    rw [hm]
    simp only [setM]
    by_cases h1 : l' = l
    · subst h1; simp [hpl, hl]
    · simp [h1]
  refine ⟨⟨⟨h.fr.os, h.fr.tape, h.fr.output, by rw [hsize]; exact h.fr.size, fun k hk hX => ?_⟩, by rw [hsize]; exact h.hB, h.s0, h.sNew, fun b o hb => by rw [hsize]; exact h.slt b o hb, fun l' => (h.hA l').trans (hmem l').symm, ?_, ?_, ?_, h.ownne,
    fun k hk => by rw [hp]; exact h.new k hk, fun k hk => by rw [hxn]; exact h.deadn k hk, fun k hk => by rw [hxo]; exact h.deado k hk⟩, hle⟩
  · have : k ≠ E.β l := by
      rintro rfl
      rcases hbl with h1 | h1
      · omega
      · exact hX h1
    exact (hold k this).trans (h.fr.block k hk hX)
  · intro l' hl'
    by_cases h1 : l' = l
    · subst h1
      refine ⟨_, e, hnew, ?_, hsl, hbl⟩
      rw [hm]
      simp only [setM, if_true]
      exact (putCells_blk hcs hc hf).mono hle
    · obtain ⟨cs', e', hh', hc', hs', hb'⟩ := h.loc l' ((hmem l').1 hl')
      have hne : E.β l' ≠ E.β l := fun he => h1 (h.locne l' l ((hmem l').1 hl') hl he)
      refine ⟨cs', e', (hold _ hne).trans hh', ?_, hs', hb'⟩
      rw [hm]
      simp only [setM, if_neg h1]
      exact hc'.mono hle
  · intro l1 l2 h1 h2 he
    exact h.locne l1 l2 ((hmem l1).1 h1) ((hmem l2).1 h2) he
  · intro nw k v e' hr
    obtain ⟨⟨g, n, cap, cur, e2, rfl, hB, hg, hsz, hn, hcap, hs⟩, hlx⟩ := h.own nw k v e' hr
    have hgne : g ≠ E.β l := fun he => hlx l hl (by simp [Value.ownBlock, he])
    exact ⟨⟨g, n, cap, cur, e2, rfl, hB, (hold g hgne).trans hg, hsz, hn, hcap, hs⟩, fun l' hl' => hlx l' ((hmem l').1 hl')⟩
end

/-! ### Calls -/

theorem vr_noOwn1 {P : Program} {E E' : Env} {v : Value} {x : AV} (hx : x.noOwn1 = true) (h : VR P E v x) (hw : E'.w = E.w) (hS : E'.S = E.S) (hA : ∀ l, E.A l → E'.A l ∧ E'.β l = E.β l ∧ E'.cp l = E.cp l) : VR P E' v x := by
  cases h with
  | c v x h => exact .c _ _ (by rw [hw, hS]; exact h)
  | nils => exact .nils
  | agg => simp [AV.noOwn1] at hx
  | tup => simp [AV.noOwn1] at hx
  | own => simp [AV.noOwn1] at hx
  | arr l off len cap c e h hc hl hs hm => rw [← (hA l h).2.1]; exact .arr _ _ _ _ _ _ (hA l h).1 hc hl (by rw [(hA l h).2.2]; exact hs) hm
  | arr0 l off a e => exact .arr0 _ _ _ _
  | ptr l off h => rw [← (hA l h).2.1]; exact .ptr _ _ (hA l h).1
  | el b o xs vs h => exact .el b o xs vs (by rw [hw, hS]; exact h)
  | fn f cs caps hn h =>
    simp [AV.noOwn1] at hx
    subst hx
    exact .fn f cs [] hn (by simp)
  | und => exact .und
  | any => exact .any _

theorem vr_noOwnA {P : Program} {E E' : Env} {v : Value} {x : AV} (hx : x.noOwnA = true) (h : VR P E v x) (hw : E'.w = E.w) (hS : E'.S = E.S) (hA : ∀ l, E.A l → E'.A l ∧ E'.β l = E.β l ∧ E'.cp l = E.cp l) : VR P E' v x := by
  unfold AV.noOwnA at hx
  split at hx
  · cases h with
    | agg vs xs hn h1 h =>
      simp only [List.all_eq_true] at hx
      exact .agg vs _ hn h1 fun i v x hv hx' => vr_noOwn1 (hx x (List.mem_of_getElem? hx')) (h i v x hv hx') hw hS hA
  · exact vr_noOwn1 hx h hw hS hA

theorem vr_noOwn {P : Program} {E E' : Env} {v : Value} {x : AV} (hx : x.noOwn = true) (h : VR P E v x) (hw : E'.w = E.w) (hS : E'.S = E.S) (hA : ∀ l, E.A l → E'.A l ∧ E'.β l = E.β l ∧ E'.cp l = E.cp l) : VR P E' v x := by
  unfold AV.noOwn at hx
  split at hx
  · cases h with
    | tup vs xs hn h =>
      simp only [List.all_eq_true] at hx
      exact .tup vs _ hn fun i v x hv hx' => vr_noOwnA (hx x (List.mem_of_getElem? hx')) (h i v x hv hx') hw hS hA
  · exact vr_noOwnA hx h hw hS hA

theorem noOwnA_set {x : AV} {d : Nat} (h : x.noOwnA = true) : x.setOwn1 d = x := by
  cases x <;> first | rfl | (simp [AV.noOwnA, AV.noOwn1] at h)

theorem vr_setOwn {P : Program} {E E' : Env} {v : Value} {x : AV} {d : Nat} (hx : x.ownTop = true) (h : VR P E v x) (hw : E'.w = E.w) (hS : E'.S = E.S) (hA : ∀ l, E.A l → E'.A l ∧ E'.β l = E.β l ∧ E'.cp l = E.cp l)
    (hd : ∀ nw k, E.ow nw k ≠ .dead) (hreg : ∀ nw k u ty, E.ow nw k = .reg u ty → E'.ow true d = .reg u ty) : VR P E' v (x.setOwn d) := by
  have own1 : ∀ (v : Value) (nw : Bool) (k : Nat) (e : TypeId) (rows : List (List C)), VR P E v (.own nw k e rows) → VR P E' v (.own true d e rows) := by
    intro v nw k e rows h
    cases h with
    | own _ _ _ _ _ h ho =>
      refine .own _ _ _ _ _ (by rw [hw, hS]; exact h) ?_
      rcases ho with ho | ho | ho
      · exact .inl ho
      · exact absurd ho (hd _ _)
      · exact .inr (.inr (hreg _ _ _ _ ho))
  unfold AV.ownTop at hx
  split at hx
  · exact own1 _ _ _ _ _ h
  · rename_i xs
    cases h with
    | tup vs _ hn h =>
      simp only [List.all_eq_true] at hx
      refine .tup vs _ (by simpa using hn) fun i v y hv hy => ?_
      rw [List.getElem?_map, Option.map_eq_some_iff] at hy
      obtain ⟨x, hx', rfl⟩ := hy
      have h1 := hx x (List.mem_of_getElem? hx')
      have h2 := h i v x hv hx'
      split at h1
      · exact own1 _ _ _ _ _ h2
      · rw [noOwnA_set h1]; exact vr_noOwnA h1 h2 hw hS hA
  · have : x.setOwn d = x := by
      cases x <;> first | rfl | (simp [AV.noOwnA, AV.noOwn1] at hx) | (rename_i h1 h2; exact absurd rfl (h1 _ _ _ _)) | (rename_i h1 h2; exact absurd rfl (h2 _))
    rw [this]; exact vr_noOwnA hx h hw hS hA

end Go.Rb
namespace Go.Rb

theorem memAll_map (m pm : Nat → List AV) : ∀ (L : List Nat) (l : Nat), memAll m (L.map fun l => (l, pm l)) l = if l ∈ L then pm l else m l
  | [], l => by simp [memAll]
  | x :: L, l => by
    simp only [List.map_cons, memAll, memAll_map _ pm L l, setM]
    by_cases h1 : l ∈ L
    · simp [h1]
    · by_cases h2 : l = x
      · subst h2; simp
      · simp [h1, h2]

theorem act_put {P : Program} {E E' : Env} {a : Act} {t : Nat → AV} {dst : Option Nat} {v : Value} {x : AV} (ht : ∀ i, VR P E (a.tmps.getD i undef) (t i)) (hle : E.le E') (hv : VR P E' v x)
    (hd : ∀ d, dst = some d → d < a.tmps.size) : ∀ i, VR P E' ((a.put dst v).tmps.getD i undef) (putT t dst x i) := by
  intro i
  cases dst with
  | none => exact (ht i).mono hle
  | some d =>
    simp only [Act.put, putT, setT]
    by_cases h1 : i = d
    · subst h1
      have := hd i rfl
      simp [Array.getD, this]
      exact hv
    · rw [if_neg h1]
      have h2 : (a.tmps.setIfInBounds d v).getD i undef = a.tmps.getD i undef := by
        simp only [Array.getD_eq_getD_getElem?, Array.getElem?_setIfInBounds_ne (Ne.symm h1)]
      rw [h2]
      exact (ht i).mono hle

section
variable {P : Program} {B : Nat} {X : Nat → Prop} {w0 : World} {S0 : Nat → Nat → Prop} {E : Env} {s : RSt}

/-- What a call leaves. -/
theorem wi_call (h : WI P B X w0 S0 E s) {L : List Nat} {pm' : Nat → List AV} {w' : World} {S' : Nat → Nat → Prop} {id : Option Nat} {st : OwnSt} {s' : RSt}
    (hFr : Fr E.w.heap.size (fun b => ∃ l, (l ∈ L ∧ s.m l ≠ []) ∧ E.β l = b) E.w w') (hS1 : ∀ b o, E.S b o → S' b o) (hS2 : ∀ b o, S' b o → E.S b o ∨ E.w.heap.size ≤ b) (hS3 : ∀ b o, S' b o → b < w'.heap.size)
    (hst : st = .none ∨ ∃ v e, st = .reg v e ∧ OwnBlk P w' S' E.w.heap.size v e) (hid : ∀ d, id = some d → s.p.testBit d = false)
    (hpm : ∀ l, l ∈ L → s.m l ≠ [] → pm' l ≠ [] ∧ ∃ cs e, w'.heap[E.β l]? = some (.cells cs e (0, 0)) ∧ BlkR P (envApp E w' S' none id st) (E.cp l) cs (pm' l)) (hL : ∀ l ∈ L, s.m l ≠ [])
    (hm : ∀ l, s'.m l = if l ∈ L then pm' l else s.m l) (hp : ∀ k, s.p.testBit k = true ∨ id = some k → s'.p.testBit k = true) (hxo : s'.xo = s.xo) (hxn : s'.xn = s.xn) :
    WI P B X w0 S0 (envApp E w' S' none id st) s' ∧ E.le (envApp E w' S' none id st) := by
  have hlt : ∀ l, s.m l ≠ [] → E.β l < E.w.heap.size := by
    intro l hl
    obtain ⟨cs, e, hh, _⟩ := h.loc l hl
    exact (Array.getElem?_eq_some_iff.1 hh).1
  have hcell : ∀ b o u, E.S b o → E.w.cell? ⟨b, o, none⟩ = some u → w'.cell? ⟨b, o, none⟩ = some u := by
    intro b o u hs hc
    rw [World.cell_of_block (hFr.block b (h.slt b o hs) ?_)]
    · exact hc
    · rintro ⟨l, ⟨_, hl⟩, rfl⟩
      obtain ⟨_, _, _, _, hns, _⟩ := h.loc l hl
      exact hns o hs
  have hle : E.le (envApp E w' S' none id st) := by
    refine ⟨hcell, hS1, fun l hl => ⟨hl, rfl, rfl⟩, fun nw k v e hr => ?_, fun nw k hr => ?_⟩
    · show (if nw = true ∧ id = some k then st else if (none : Option (Bool × Nat)) = some (nw, k) then OwnSt.dead else E.ow nw k) = _ ∨ (if nw = true ∧ id = some k then st else if (none : Option (Bool × Nat)) = some (nw, k) then OwnSt.dead else E.ow nw k) = _
      split
      · rename_i hc
        obtain ⟨rfl, hk⟩ := hc
        have h1 := h.new k (by rw [hr]; simp)
        rw [hid k hk] at h1
        cases h1
      · simp [hr]
    · show (if nw = true ∧ id = some k then st else if (none : Option (Bool × Nat)) = some (nw, k) then OwnSt.dead else E.ow nw k) = _
      split
      · rename_i hc
        obtain ⟨rfl, hk⟩ := hc
        have h1 := h.new k (by rw [hr]; simp)
        rw [hid k hk] at h1
        cases h1
      · simp [hr]
  have hmem : ∀ l, s'.m l ≠ [] ↔ s.m l ≠ [] := by
    intro l
    rw [hm]
    by_cases h1 : l ∈ L
    · rw [if_pos h1]; exact ⟨fun _ => hL l h1, fun h2 => (hpm l h1 h2).1⟩
    · rw [if_neg h1]
  have hreg : ∀ nw k v e, (envApp E w' S' none id st).ow nw k = .reg v e → (nw = true ∧ id = some k ∧ st = .reg v e) ∨ E.ow nw k = .reg v e := by
    intro nw k v e hr
    simp only [envApp] at hr
    split at hr
    · rename_i hc; exact .inl ⟨hc.1, hc.2, hr⟩
    · split at hr
      · cases hr
      · exact .inr hr
  refine ⟨⟨⟨hFr.os.trans h.fr.os, hFr.tape.trans h.fr.tape, hFr.output.trans h.fr.output, Nat.le_trans h.fr.size hFr.size, fun k hk hX => ?_⟩, Nat.le_trans h.hB hFr.size, fun b o hb => hS1 b o (h.s0 b o hb), ?_, hS3, fun l => (h.hA l).trans (hmem l).symm, ?_, ?_, ?_, ?_, ?_, ?_, ?_⟩, hle⟩
  · refine (hFr.block k (Nat.lt_of_lt_of_le hk h.hB) ?_).trans (h.fr.block k hk hX)
    rintro ⟨l, ⟨_, hl⟩, rfl⟩
    obtain ⟨_, _, _, _, _, hb⟩ := h.loc l hl
    rcases hb with hb | hb
    · omega
    · exact hX hb
  · intro b o hb
    rcases hS2 b o hb with h1 | h1
    · exact h.sNew b o h1
    · exact .inr (Nat.le_trans h.hB h1)
  · intro l hl
    have hl0 := (hmem l).1 hl
    obtain ⟨cs, e, hh, hc, hs, hb⟩ := h.loc l hl0
    have hns : ∀ o, ¬ S' (E.β l) o := by
      intro o ho
      rcases hS2 _ _ ho with h1 | h1
      · exact hs o h1
      · have := hlt l hl0; omega
    by_cases h1 : l ∈ L
    · obtain ⟨_, cs', e', hh', hc'⟩ := hpm l h1 hl0
      refine ⟨cs', e', hh', ?_, hns, hb⟩
      rw [hm, if_pos h1]; exact hc'
    · refine ⟨cs, e, ?_, ?_, hns, hb⟩
      · refine (hFr.block _ (hlt l hl0) ?_).trans hh
        rintro ⟨l', ⟨hl', hm'⟩, he⟩
        have := h.locne l' l hm' hl0 he
        subst this
        exact h1 hl'
      · rw [hm, if_neg h1]
        exact hc.mono hle
  · intro l l' hl hl' he
    exact h.locne l l' ((hmem l).1 hl) ((hmem l').1 hl') he
  · intro nw k v e hr
    rcases hreg nw k v e hr with ⟨_, _, hst'⟩ | hr'
    · rcases hst with h1 | ⟨v', e', h1, hown⟩
      · rw [h1] at hst'; cases hst'
      · rw [h1] at hst'
        cases hst'
        obtain ⟨g, n, cap, cur, e2, rfl, hB, rest⟩ := hown
        refine ⟨⟨g, n, cap, cur, e2, rfl, Nat.le_trans h.hB hB, rest⟩, fun l hl => ?_⟩
        intro hbl
        cases hbl
        have := hlt l ((hmem l).1 hl)
        exact absurd this (Nat.not_lt.2 hB)
    · obtain ⟨⟨g, n, cap, cur, e2, rfl, hB, hg, hsz, hn, hcap, hs⟩, hl⟩ := h.own nw k v e hr'
      have hglt : g < E.w.heap.size := (Array.getElem?_eq_some_iff.1 hg).1
      refine ⟨⟨g, n, cap, cur, e2, rfl, hB, (hFr.block g hglt ?_).trans hg, hsz, hn, hcap, ?_⟩, fun l hl' => hl l ((hmem l).1 hl')⟩
      · rintro ⟨l, ⟨_, hl'⟩, he⟩
        exact hl l hl' (by simp [Value.ownBlock, he])
      · intro o ho
        rcases hS2 _ _ ho with h1 | h1
        · exact hs o h1
        · omega
  · intro nw k v e nw' k' v' e' hr hr' hv
    have fresh : ∀ v e nw k v' e', st = .reg v e → E.ow nw k = .reg v' e' → v.ownBlock = v'.ownBlock → False := by
      intro v e nw k v' e' h1 h2 h3
      rcases hst with h4 | ⟨v1, e1, h4, hown⟩
      · rw [h4] at h1; cases h1
      · rw [h4] at h1
        cases h1
        obtain ⟨g, hg1, hg2, _⟩ := ownBlk_block hown
        obtain ⟨g', hg3, _, hg4⟩ := ownBlk_block (h.own nw k v' e' h2).1
        rw [hg1, hg3] at h3
        cases h3
        omega
    rcases hreg nw k v e hr with ⟨rfl, hk, hs1⟩ | hr1 <;> rcases hreg nw' k' v' e' hr' with ⟨rfl, hk', hs2⟩ | hr2
    · rw [hk] at hk'; cases hk'; exact ⟨rfl, rfl⟩
    · exact (fresh v e nw' k' v' e' hs1 hr2 hv).elim
    · exact (fresh v' e' nw k v e hs2 hr1 hv.symm).elim
    · exact h.ownne nw k v e nw' k' v' e' hr1 hr2 hv
  · intro k hk
    simp only [envApp] at hk
    split at hk
    · rename_i hc; exact hp k (.inr hc.2)
    · split at hk
      · rename_i ho; cases ho
      · exact hp k (.inl (h.new k hk))
  · intro k hk
    rw [hxn]
    simp only [envApp] at hk
    split at hk
    · rename_i hc
      rcases hst with h1 | ⟨v1, e1, h1, _⟩ <;> rw [h1] at hk <;> cases hk
    · split at hk
      · rename_i ho; cases ho
      · exact h.deadn k hk
  · intro k hk
    rw [hxo]
    simp only [envApp] at hk
    split at hk
    · rename_i hc; simp at hc
    · split at hk
      · rename_i ho; cases ho
      · exact h.deado k hk

theorem wkL_get {A : Nat → Prop} : ∀ {xs ys : List AV}, WkL P A xs ys → xs.length = ys.length ∧ ∀ (i : Nat) (x y : AV), xs[i]? = some x → ys[i]? = some y → Wk P A x y
  | _, _, .nil => ⟨rfl, fun i x y hx => by simp at hx⟩
  | _, _, .cons h t => by
    obtain ⟨h1, h2⟩ := wkL_get t
    refine ⟨by simp [h1], fun i x y hx hy => ?_⟩
    cases i with
    | zero => simp at hx hy; subst hx hy; exact h
    | succ i => exact h2 i x y (by simpa using hx) (by simpa using hy)

theorem run_callFunc {w : World} {f : FuncId} (h : HasBody P f) (args : Array Value) : (callFunc f args).run P w = .ok (.enter f args) w := by
  obtain ⟨fn, c, hf, hb, hn⟩ := h
  have hp : (program : Sem Program).run P w = .ok P w := rfl
  simp only [callFunc, Sem.run_bind, hp, Result.andThen_ok, hf, hn, hb, Bool.false_eq_true, if_false, Option.isNone_some, Sem.run_pure]

set_option maxHeartbeats 2000000 in
/-- **What the state says of an operation is so.** -/
theorem ay_sound (h : WI P B X w0 S0 E s) {a : Act} {o : Oper} {f : Eff} {dr : Bool} (ht : ∀ i, VR P E (a.tmps.getD i undef) (s.t i)) (hdst : ∀ d, o.dst = some d → d < a.tmps.size)
    (hay : AY P dr s.t s.m s.p s.xo s.xn o f) {K : Act → World → Prop} {Q : Exit → Act → World → Prop}
    (hK : ∀ (E' : Env) (v : Value), E.le E' → WI P B X w0 S0 E' (s.app o.dst f) → (∀ i, VR P E' ((a.put o.dst v).tmps.getD i undef) ((s.app o.dst f).t i)) → K (a.put o.dst v) E'.w) : o.wp P a E.w K Q := by
  have hev : ∀ x, VR P E (a.eval x) (evO s.t x) := by
    intro x
    cases x with
    | tmp i => exact ht i
    | const v => exact vr_cv P E v
    | func f => exact .fn f #[] [] rfl (by simp)
    | global g => exact .any _
  rcases hay with ⟨v, hv, rfl⟩ | hay
  · obtain ⟨u, hr, hu⟩ := yl_sound h.memOK (fun x _ => hev x) hv
    unfold Oper.wp
    rw [hr]
    refine hK E u (Env.le.refl E) ?_ (act_put ht (Env.le.refl E) hu hdst)
    simpa [RSt.app, memAll] using (show WI P B X w0 S0 E { s with t := putT s.t o.dst v } from ⟨h.fr, h.hB, h.s0, h.sNew, h.slt, h.hA, h.loc, h.locne, h.own, h.ownne, h.new, h.deadn, h.deado⟩)
  obtain ⟨dst, op, ty, pos, after, guard⟩ := o
  have wiT : ∀ {E' : Env} {s1 s2 : RSt}, WI P B X w0 S0 E' s1 → s2.m = s1.m → s2.p = s1.p → s2.xo = s1.xo → s2.xn = s1.xn → WI P B X w0 S0 E' s2 := by
    intro E' s1 s2 h1 e1 e2 e3 e4
    obtain ⟨t2, m2, p2, xo2, xn2⟩ := s2
    simp only at e1 e2 e3 e4
    subst e1 e2 e3 e4
    exact ⟨h1.fr, h1.hB, h1.s0, h1.sNew, h1.slt, h1.hA, h1.loc, h1.locne, h1.own, h1.ownne, h1.new, h1.deadn, h1.deado⟩
  unfold AYe at hay
  simp only at hay
  split at hay
  · -- structs of ints
    rename_i op' T x y yt
    obtain ⟨hop, xs, ys, hx, hy, heq, hlen, rfl⟩ := hay
    have ints : ∀ (z : Operand) (zs : List Int), (evO s.t z).ints = some zs → a.eval z = .agg (zs.map (Value.int .i64)).toArray := by
      intro z zs hz
      have hvz := hev z
      generalize evO s.t z = q at *
      generalize a.eval z = u at *
      unfold AV.ints at hz
      split at hz
      · rename_i qs
        cases hvz with
        | agg vs _ hn h1 hr =>
        have key : ∀ (qs : List AV) (zs : List Int), intsOf qs = some zs → qs = zs.map fun n => .c (.int .i64 n) := by
          intro qs
          induction qs with
          | nil => intro zs h; simp [intsOf] at h; subst h; rfl
          | cons q qs ih =>
            intro zs h
            unfold intsOf at h
            split at h
            · rename_i h0; cases h0
            · rename_i n r h0
              cases h0
              cases hr' : intsOf qs with
              | none => simp [hr'] at h
              | some zs' => simp [hr'] at h; subst h; simp [ih zs' hr']
            · cases h
        have hk := key qs zs hz
        congr 1
        apply Array.ext_getElem?
        intro i
        by_cases hi : i < vs.size
        · have h2 := Array.getElem?_eq_getElem hi
          have hi' : i < qs.length := by omega
          have h3 := List.getElem?_eq_getElem hi'
          have h4 := hr i _ _ h2 h3
          have h5 : i < zs.length := by rw [hk] at hi'; simpa using hi'
          have h6 : qs[i] = .c (.int .i64 zs[i]) := by
            have : qs[i]? = (zs.map fun n => AV.c (.int .i64 n))[i]? := by rw [hk]
            rw [h3, List.getElem?_map, List.getElem?_eq_getElem h5] at this
            simpa using this
          rw [h6] at h4
          rw [h2, vr_int h4]
          simp [h5]
        · have hi' : ¬ i < zs.length := by
            have : qs.length = zs.length := by rw [hk]; simp
            omega
          simp [Array.getElem?_eq_none (by omega : vs.size ≤ i), hi']
      · cases hz
    unfold Oper.wp
    have hr := heq op' xs ys x y E.w hop rfl hlen
    rw [← ints x xs hx, ← ints y ys hy] at hr
    rw [show (execOp a.eval { dst, op := .binOp op' T x y yt, type := ty, pos, after, guard }).run P E.w = _ from run_val hr]
    exact hK E _ (Env.le.refl E) (wiT h rfl (by simp [RSt.app]) (by simp [RSt.app]) (by simp [RSt.app])) (act_put ht (Env.le.refl E) (.c _ _ (.bool _)) hdst)
  · rename_i t n ps
    obtain ⟨rows, hrows, rfl⟩ := hay
    have hparts : ∀ (i : Nat) (p : Nat × AV) (q : Nat × Value), (ps.toList.map fun (i, x) => (i, evO s.t x))[i]? = some p → (ps.map fun (i, x) => (i, a.eval x))[i]? = some q → p.1 = q.1 ∧ VR P E q.2 p.2 := by
      intro i p q hp hq
      rw [List.getElem?_map, Option.map_eq_some_iff, Array.getElem?_toList] at hp
      rw [Array.getElem?_map, Option.map_eq_some_iff] at hq
      obtain ⟨r, hr, rfl⟩ := hp
      obtain ⟨r', hr', rfl⟩ := hq
      rw [hr] at hr'
      cases hr'
      exact ⟨rfl, hev _⟩
    obtain ⟨v', E', hr, hle, hwi, hv⟩ := buildSlice_sound h (vs := ps.map fun (i, x) => (i, a.eval x)) (by simp) hparts hrows
    unfold Oper.wp
    rw [show (execOp a.eval { dst, op := .buildSlice t n ps, type := ty, pos, after, guard }).run P E.w = .ok (.value v') E'.w by
      simp only [execOp, Sem.run_bind, hr, Result.andThen_ok, Sem.run_pure]]
    exact hK E' v' hle (wiT hwi rfl (by simp [RSt.app]) (by simp [RSt.app]) (by simp [RSt.app])) (act_put ht hle hv hdst)
  · rename_i e
    obtain ⟨d, z, hd, hz, hne, hm, rfl⟩ := hay
    obtain ⟨zv, hzr, hzc⟩ := run_zeroValue E hz
    obtain ⟨hwi, hle, hv⟩ := wi_new (e := e) (s' := s.app dst { v := .ptr d 0, mem := [(d, z)] }) h hm hne (hzc.1.symm ▸ hzc.blk) rfl (by simp [RSt.app]) (by simp [RSt.app]) (by simp [RSt.app])
    unfold Oper.wp
    rw [show (execOp a.eval { dst, op := .alloc e, type := ty, pos, after, guard }).run P E.w = .ok (.value (.pointer (some ⟨E.w.heap.size, 0, none⟩))) (E.w.alloc (.cells zv.cells e)) by
      simp only [execOp, Instr.alloc, Sem.run_bind, hzr, Result.andThen_ok, newVar, newRow, newObj, Sem.run_pure]; rfl]
    exact hK _ _ hle hwi (act_put ht hle hv hdst)
  · rename_i e x
    obtain ⟨d, z, hd, hz, hne, hm, rfl⟩ := hay
    obtain ⟨hwi, hle, hv⟩ := wi_new (e := e) (s' := s.app dst { v := .ptr d 0, mem := [(d, z)] }) h hm hne (((hev x).cells hz).1.symm ▸ ((hev x).cells hz).blk) rfl (by simp [RSt.app]) (by simp [RSt.app]) (by simp [RSt.app])
    unfold Oper.wp
    rw [show (execOp a.eval { dst, op := .box e x, type := ty, pos, after, guard }).run P E.w = .ok (.value (.pointer (some ⟨E.w.heap.size, 0, none⟩))) (E.w.alloc (.cells (a.eval x).cells e)) by
      simp only [execOp, Instr.box, Sem.run_bind, newVar, newRow, newObj, Sem.run_pure]; rfl]
    exact hK _ _ hle hwi (act_put ht hle hv hdst)
  · rename_i t ad x
    obtain ⟨l, off, cs, had, hcs, hlen, hne, hinf, hfit, rfl⟩ := hay
    have hva := hev ad
    rw [had] at hva
    have hml : s.m l ≠ [] := by
      intro h0
      rw [h0] at hfit
      simp at hfit
      exact hne hfit.2
    obtain ⟨cur, e, hh, hcr, _⟩ := h.loc l hml
    have hcx := (hev x).cells hcs
    obtain ⟨hwi, hle⟩ := wi_store (s' := s.app dst { v := .und, mem := [(l, place (s.m l) off cs)] }) h hml hcx hfit hh hcr rfl (by simp [RSt.app]) (by simp [RSt.app]) (by simp [RSt.app])
    have hcell1 : ∀ v ∈ (a.eval x).cells.toList, v.oneCell' = true := by
      intro v hv
      obtain ⟨i, hi⟩ := List.getElem?_of_mem hv
      have hi' : (a.eval x).cells[i]? = some v := by simpa using hi
      have h1 : i < cs.length := by rw [← hcx.1]; exact (Array.getElem?_eq_some_iff.1 hi').1
      exact (hcx.2 i v _ hi' (List.getElem?_eq_getElem h1)).2
    have hsize : (a.eval x).cells.size = P.cellsOf t := by rw [hcx.1, hlen]
    have hst := run_storeCells_at P (E.β l) off e (a.eval x).cells.toList 0 cur E.w hh (by have h1 := hcr.1; have h2 := hcr.2.1; simp [hcx.1]; omega) hcell1
    have hput : (cur.toList.take (off + 0) ++ (a.eval x).cells.toList ++ cur.toList.drop (off + 0 + (a.eval x).cells.toList.length)).toArray = putCells cur off (a.eval x).cells.toList 0 := by
      apply Array.ext_getElem?
      intro k
      rw [putCells_get _ _ _ _ _ (by have h1 := hcr.1; have h2 := hcr.2.1; simp [hcx.1]; omega)]
      have h1 : (cur.toList.take off).length = off := by have h1 := hcr.1; have h2 := hcr.2.1; simp; omega
      simp only [Nat.add_zero, List.getElem?_toArray, List.append_assoc]
      rw [List.getElem?_append, h1]
      by_cases h2 : k < off
      · rw [if_pos h2, if_neg (by omega), List.getElem?_take, if_pos h2]; simp
      · rw [if_neg h2, List.getElem?_append]
        by_cases h3 : k - off < (a.eval x).cells.toList.length
        · rw [if_pos h3, if_pos (by omega)]
        · rw [if_neg h3, if_neg (by omega), List.getElem?_drop]
          have : off + (a.eval x).cells.toList.length + (k - off - (a.eval x).cells.toList.length) = k := by omega
          rw [this]; simp
    unfold Oper.wp
    rw [show (execOp a.eval { dst, op := .store t ad x, type := ty, pos, after, guard }).run P E.w = .ok .skip (E.w.setRow (E.β l) (putCells cur off (a.eval x).cells.toList 0)) by
      generalize hq : a.eval ad = q at *
      cases hva
      simp only [execOp, hq, Instr.storeAt, Instr.sureAddr, Sem.run_bind, Sem.run_pure, Result.andThen_ok, storeVar, run_sizeOf hinf, hsize, ne_eq, not_true_eq_false, if_false, hst, hput]]
    exact hK _ undef hle hwi (act_put ht hle .und hdst)
  · -- calls
    rename_i c
    obtain ⟨callee, args, ts⟩ := c
    simp only at hay
    split at hay
    · obtain ⟨d, x, y, ty', e, rows, new, hd, hargs, hts, hu, hb, hxo, hxn, hp, hr, hbytes, hmax, hz, hz0, rfl⟩ := hay
      subst hargs hts hd
      obtain ⟨v', E', hrun, hle, hwi, hv⟩ := append_sound (tt := ty) h hu (hev x) hb hxo hxn hp (hev y) hr hbytes hmax hz hz0
      unfold Oper.wp
      rw [show (execOp a.eval { dst := some d, op := .call { callee := .builtin .append, args := #[x, y], argTypes := #[ty', ty'] }, type := ty, pos, after, guard }).run P E.w = .ok (.value v') E'.w by
        simp [execOp, resolve, invoke, builtin, hrun]]
      exact hK E' v' hle (wiT hwi rfl rfl rfl rfl) (act_put ht hle hv hdst)
    · rename_i g
      obtain ⟨fid, caps, hg, hcall⟩ := hay
      have hvg := hev g
      rw [hg] at hvg
      generalize hq : a.eval g = q at *
      cases hvg with
      | fn _ cs _ hcn hcr =>
      -- the arguments' values
      have hvals : ∀ (i : Nat) (v : Value) (z : AV), (args.map a.eval ++ cs)[i]? = some v → (args.toList.map (evO s.t) ++ caps)[i]? = some z → VR P E v z := by
        intro i v z hv hz
        rw [Array.getElem?_append] at hv
        rw [List.getElem?_append] at hz
        simp only [Array.size_map, List.length_map, Array.length_toList] at hv hz
        split at hv
        · rename_i hi
          rw [if_pos hi] at hz
          rw [Array.getElem?_map, Option.map_eq_some_iff] at hv
          rw [List.getElem?_map, Option.map_eq_some_iff, Array.getElem?_toList] at hz
          obtain ⟨r, hr, rfl⟩ := hv
          obtain ⟨r', hr', rfl⟩ := hz
          rw [hr] at hr'
          cases hr'
          exact hev r
        · rename_i hi
          rw [if_neg hi] at hz
          exact hcr _ v z hv hz
      have hsz : (args.map a.eval ++ cs).size = (args.toList.map (evO s.t) ++ caps).length := by simp [hcn]
      -- one lemma for both forms of a call
      have main : ∀ (L : List Nat) (cargs : List AV) (r : AV) (pm pm' : Nat → List AV), WkL P (fun l => l ∈ L) (args.toList.map (evO s.t) ++ caps) cargs →
          Fun P fid cargs pm r pm' → (∀ l ∈ L, s.m l ≠ [] ∧ WkL P (fun l => l ∈ L) (s.m l) (pm l) ∧ (pm' l).all AV.noOwn1 = true) → (∀ l, l ∉ L → pm l = []) → (∀ l, l ∉ L → pm' l = []) →
          (f = { v := r, mem := L.map fun l => (l, pm' l) } ∧ r.noOwn = true ∨ L = [] ∧ ∃ d, dst = some d ∧ r.ownTop = true ∧ s.p.testBit d = false ∧ f = { v := r.setOwn d, p := 2 ^ d }) →
          Oper.wp P { dst, op := .call { callee := .value g, args, argTypes := ts }, type := ty, pos, after, guard } a E.w K Q := by
        intro L cargs r pm pm' hwk hfun hL hL0 hL0' hf
        obtain ⟨hwl, hwi⟩ := wkL_get hwk
        obtain ⟨hbody, hF⟩ := hfun
        have hpml : ∀ l, l ∈ L ↔ pm l ≠ [] := by
          intro l
          constructor
          · intro h1 h2
            obtain ⟨h3, h4, _⟩ := hL l h1
            have := (wkL_get h4).1
            rw [h2] at this
            exact h3 (List.eq_nil_of_length_eq_zero this)
          · intro h1
            by_cases h2 : l ∈ L
            · exact h2
            · exact absurd (hL0 l h2) h1
        have hEA : ∀ l, l ∈ L → E.A l := fun l hl => (h.hA l).2 (hL l hl).1
        have hcalls := hF { E with A := fun l => l ∈ L, ow := fun _ _ => .none } (args.map a.eval ++ cs) (fun _ _ => rfl) hpml h.slt (by rw [hsz, hwl])
          (fun i v z hv hz => by
            have hi : i < (args.toList.map (evO s.t) ++ caps).length := by rw [hwl]; exact (List.getElem?_eq_some_iff.1 hz).1
            have h1 := List.getElem?_eq_getElem hi
            exact hwi i _ z h1 hz E v hEA (hvals i v _ hv h1))
          (fun l hl => by
            have hl' := (hpml l).2 hl
            obtain ⟨h3, h4, _⟩ := hL l hl'
            obtain ⟨cs', e', hh, hc, hs, _⟩ := h.loc l h3
            obtain ⟨h5, h6⟩ := wkL_get h4
            refine ⟨cs', e', hh, ⟨hc.1, by rw [← h5]; exact hc.2.1, fun i v x hv hx => ?_⟩, hs⟩
            have hi : i < (s.m l).length := by rw [h5]; exact (List.getElem?_eq_some_iff.1 hx).1
            have h7 := List.getElem?_eq_getElem hi
            exact ⟨h6 i _ x h7 hx E v hEA (hc.2.2 i v _ hv h7).1, (hc.2.2 i v _ hv h7).2⟩)
          (fun l l' hl hl' he => h.locne l l' (hL l ((hpml l).2 hl)).1 (hL l' ((hpml l').2 hl')).1 he)
        unfold Oper.wp
        rw [show (execOp a.eval { dst, op := .call { callee := .value g, args, argTypes := ts }, type := ty, pos, after, guard }).run P E.w = .ok (.enter fid (args.map a.eval ++ cs)) E.w by
          simp only [execOp, resolve, hq, Deferred.ofValue, Sem.run_bind, Sem.run_pure, Result.andThen_ok, invoke, Array.empty_append]
          exact run_callFunc hbody _]
        refine hcalls.mono ?_
        rintro e w' ⟨v, E', rfl, rfl, hβ, hA, hFr, hS1, hS2, hS3, hv, hpm', _, hdead, hown⟩
        simp only at hβ hFr hS1 hS2 hown
        have hA2 : ∀ l, E'.A l → E.A l ∧ E.β l = E'.β l ∧ E.cp l = E'.cp l := by
          intro l hl
          have h1 := (hA l).1 hl
          have h2 : l ∈ L := by
            by_cases h3 : l ∈ L
            · exact h3
            · exact absurd (hL0' l h3) h1
          obtain ⟨_, h4, h5⟩ := hβ l ((hpml l).1 h2)
          exact ⟨hEA l h2, h4.symm, h5.symm⟩
        have hFr' : Fr E.w.heap.size (fun b => ∃ l, (l ∈ L ∧ s.m l ≠ []) ∧ E.β l = b) E.w E'.w := by
          refine ⟨hFr.os, hFr.tape, hFr.output, hFr.size, fun k hk hX => hFr.block k hk ?_⟩
          rintro ⟨l, hl, he⟩
          exact hX ⟨l, ⟨(hpml l).2 hl, (hL l ((hpml l).2 hl)).1⟩, he⟩
        rcases hf with ⟨rfl, hno⟩ | ⟨rfl, d, hd, htop, hp, rfl⟩
        · obtain ⟨hwi, hle⟩ := wi_call (id := none) (st := .none) (s' := s.app dst { v := r, mem := L.map fun l => (l, pm' l) }) h hFr' hS1 hS2 hS3 (.inl rfl) (fun d hd => by cases hd)
            (fun l hl _ => by
              obtain ⟨h1, hb1, hb2⟩ := hβ l ((hpml l).1 hl)
              obtain ⟨cs', e', hh, hc, _⟩ := hpm' l h1
              rw [hb1] at hh
              rw [hb2] at hc
              refine ⟨h1, cs', e', hh, hc.1, hc.2.1, fun i v x hv hx => ⟨?_, (hc.2.2 i v x hv hx).2⟩⟩
              have hno1 := List.all_eq_true.1 (hL l hl).2.2 x (List.mem_of_getElem? hx)
              exact vr_noOwn1 hno1 (hc.2.2 i v x hv hx).1 rfl rfl hA2)
            (fun l hl => (hL l hl).1) (fun l => memAll_map _ _ _ _) (fun k hk => by rcases hk with hk | hk; exact (by simpa [RSt.app] using hk); cases hk) (by simp [RSt.app]) (by simp [RSt.app])
          exact hK (envApp E E'.w E'.S none none .none) v hle hwi (act_put ht hle (vr_noOwn hno hv rfl rfl hA2) hdst)
        · subst hd
          have hst : ∃ st, (st = OwnSt.none ∨ ∃ v e, st = .reg v e ∧ OwnBlk P E'.w E'.S E.w.heap.size v e) ∧ ∀ nw k u ty, E'.ow nw k = .reg u ty → st = .reg u ty := by
            refine ⟨E'.ow false 0, ?_, fun nw k u ty hr => ?_⟩
            · cases h1 : E'.ow false 0 with
              | none => exact .inl rfl
              | dead => exact absurd h1 (hdead _ _)
              | reg u ty => exact .inr ⟨u, ty, rfl, (hown _ _ _ _ h1).2.2.1⟩
            · obtain ⟨rfl, rfl, _⟩ := hown _ _ _ _ hr
              exact hr
          obtain ⟨st, hst1, hst2⟩ := hst
          obtain ⟨hwi, hle⟩ := wi_call (L := []) (pm' := pm') (id := some d) (st := st) (s' := s.app (some d) { v := r.setOwn d, p := 2 ^ d }) h hFr' hS1 hS2 hS3 hst1 (fun d' hd => by cases hd; exact hp)
            (fun l hl _ => by simp at hl) (fun l hl => by simp at hl) (fun l => by simp [RSt.app, memAll])
            (fun k hk => by
              rcases hk with hk | hk
              · exact testBit_or_left hk
              · cases hk; exact testBit_or_right Nat.testBit_two_pow_self) (by simp [RSt.app]) (by simp [RSt.app])
          refine hK (envApp E E'.w E'.S none (some d) st) v hle hwi (act_put ht hle (vr_setOwn htop hv rfl rfl hA2 hdead ?_) hdst)
          intro nw k u ty hr
          simp [envApp, hst2 nw k u ty hr]
      rcases hcall with ⟨cargs, r, hwk, hfun, _, hf⟩ | ⟨_, cargs, r, L, pm, pm', hwk, hfun, hno, hL, hL0, hL0', rfl⟩
      · refine main [] cargs r nomem nomem ?_ hfun (fun l hl => by simp at hl) (fun _ _ => rfl) (fun _ _ => rfl) ?_
        · have : (fun l => l ∈ ([] : List Nat)) = fun _ => False := by funext l; simp
          rw [this]; exact hwk
        · rcases hf with ⟨hno, rfl⟩ | hf
          · exact .inl ⟨rfl, hno⟩
          · exact .inr ⟨rfl, hf⟩
      · exact main L cargs r pm pm' hwk hfun hL hL0 hL0' (.inl ⟨rfl, hno⟩)
    · exact hay.elim
  · exact hay.elim
end

end Go.Rb
