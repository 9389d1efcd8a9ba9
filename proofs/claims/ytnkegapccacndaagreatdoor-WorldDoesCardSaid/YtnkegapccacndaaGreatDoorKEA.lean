/-
  What is proved, part by part: values of the model read as plain data (immutable rows of cells), and every operation that only reads gives, on values that read as data, a value that reads as what a plain function on data says. an operation that only reads hands back a value that reads as a plain function on data says. an operation that only reads hands back a value that reads as a plain function on data says. an operation that only reads hands back a value that reads as a plain function on data says. an operation that only reads hands back a value that reads as a plain function on data says. two structs of ints are held against each other, field by field. What is stated: plain operations under names of their own. What is stated: typed data, values of an activation with typed data in them, states of an activation. What is stated: programs that look at a state key by key, what they come to, and which keys they look at. What is stated: what operations do that only look. What is stated: what operations do that make or change blocks, and calls. What is stated: what a code comes to: regions, branches, loops, functions. What is stated: what a function comes to, of arguments to results. What is stated: what package-level variables of Go's library hold: it depends on the first blocks alone. worlds and what is known of their blocks: new blocks, blocks that are written, forgotten, frozen. what is known of values while blocks change. rows in blocks; blocks are frozen. operations that only look hand back what is said of them. Conditions: none.
-/
import Derived.Orders
import Derived.Laws.AppendOwn
import Derived.WideLaws
import Derived.Laws.StructEq
import Derived.Lib.AtoiAll
import Derived.Lib.ParseIntB
import Derived.Lib.Split
import Derived.Lib.ItoaNum
import Derived.Lib.Join
import Derived.Lib.Strings
import Derived.Lib.LaidTab
set_option linter.unusedVariables false
set_option linter.unusedSimpArgs false
set_option linter.unnecessarySimpa false
set_option maxRecDepth 4000
namespace Go.Rb
inductive C where
 | int (k : IntKind) (n : Int)
 | bool (b : Bool)
 | str (s : ByteArray)
 | sl (e : TypeId) (rows : List (List C))
instance : Inhabited C := ⟨.bool false⟩
inductive Rd (P : Program) (w : World) (S : Nat → Nat → Prop) : Value → C → Prop where
 | int (k : IntKind) (n : Int) : Rd P w S (.int k n) (.int k n)
 | bool (b : Bool) : Rd P w S (.bool b) (.bool b)
 | str (s : ByteArray) : Rd P w S (.string s) (.str s)
 | emp (e : TypeId) (a : Option Addr) (cap : Nat) : Rd P w S (.slice a 0 cap) (.sl e [])
 | sl (e b off n cap : Nat) (rows : List (List C)) (vs : Nat → Nat → Value) (hn : n = rows.length) (hcap : n ≤ cap)
   (hsz : ∀ (i : Nat) (r : List C), rows[i]? = some r → r.length = P.cellsOf e)
   (hcell : ∀ (i j : Nat) (r : List C) (c : C), rows[i]? = some r → r[j]? = some c →
    w.cell? ⟨b, off + (i * P.cellsOf e + j), none⟩ = some (vs i j) ∧ S b (off + (i * P.cellsOf e + j)))
   (hrd : ∀ (i j : Nat) (r : List C) (c : C), rows[i]? = some r → r[j]? = some c → Rd P w S (vs i j) c) :
   Rd P w S (.slice (some ⟨b, off, none⟩) n cap) (.sl e rows)
theorem Rd.mono {P : Program} {w w' : World} {S S' : Nat → Nat → Prop} {v : Value} {x : C}
  (hc : ∀ b o u, S b o → w.cell? ⟨b, o, none⟩ = some u → w'.cell? ⟨b, o, none⟩ = some u) (hS : ∀ b o, S b o → S' b o)
  (h : Rd P w S v x) : Rd P w' S' v x := by
 induction h with
 | int k n => exact .int k n
 | bool b => exact .bool b
 | str s => exact .str s
 | emp e a cap => exact .emp e a cap
 | sl e b off n cap rows vs hn hcap hsz hcell hrd ih =>
  exact .sl e b off n cap rows vs hn hcap hsz
   (fun i j r c hi hj => ⟨hc _ _ _ (hcell i j r c hi hj).2 (hcell i j r c hi hj).1, hS _ _ (hcell i j r c hi hj).2⟩)
   (fun i j r c hi hj => ih i j r c hi hj)
theorem Rd.oneCell {P : Program} {w : World} {S : Nat → Nat → Prop} {v : Value} {x : C} (h : Rd P w S v x) : v.oneCell' = true := by
 cases h <;> rfl
inductive AV where
 | c (x : C)
 | nils
 | agg (xs : List AV)
 | tup (xs : List AV)
 | own (nw : Bool) (id : Nat) (e : TypeId) (rows : List (List C))
 | arr (l off len cap : Nat) (e : TypeId)
 | arx (l off len cap : Nat) (e : TypeId)
 | ptr (l off : Nat)
 | el (xs : List C)
 | fn (f : FuncId) (caps : List AV)
 | ifc (b : Bool)
 | und
 | any
instance : Inhabited AV := ⟨.any⟩
inductive OwnSt where
 | none
 | dead
 | reg (v : Value) (e : TypeId)
structure Env where
 w : World
 S : Nat → Nat → Prop
 β : Nat → Nat
 ow : Bool → Nat → OwnSt
 A : Nat → Prop
 cp : Nat → Nat := fun _ => 0
def Full (v : Value) : Prop := ∃ a n, v = .slice a n n
inductive VR (P : Program) (E : Env) : Value → AV → Prop where
 | c (v : Value) (x : C) (h : Rd P E.w E.S v x) : VR P E v (.c x)
 | nils : VR P E (.slice none 0 0) .nils
 | agg (vs : Array Value) (xs : List AV) (hn : vs.size = xs.length) (h1 : ∀ (i : Nat) (v : Value), vs[i]? = some v → v.oneCell' = true)
   (h : ∀ (i : Nat) (v : Value) (x : AV), vs[i]? = some v → xs[i]? = some x → VR P E v x) : VR P E (.agg vs) (.agg xs)
 | tup (vs : Array Value) (xs : List AV) (hn : vs.size = xs.length)
   (h : ∀ (i : Nat) (v : Value) (x : AV), vs[i]? = some v → xs[i]? = some x → VR P E v x) : VR P E (.tuple vs) (.tup xs)
 | own (v : Value) (nw : Bool) (id : Nat) (e : TypeId) (rows : List (List C)) (h : Rd P E.w E.S v (.sl e rows))
   (ho : Full v ∨ E.ow nw id = .dead ∨ E.ow nw id = .reg v e) : VR P E v (.own nw id e rows)
 | arr (l off len cap c : Nat) (e : TypeId) (h : E.A l) (hc : cap ≤ c) (hl : len ≤ c) (hs : off + c * P.cellsOf e ≤ E.cp l) (hm : c ≤ maxLen) : VR P E (.slice (some ⟨E.β l, off, none⟩) len c) (.arr l off len cap e)
 | arr0 (l off : Nat) (a : Option Addr) (e : TypeId) : VR P E (.slice a 0 0) (.arr l off 0 0 e)
 | arx (l off len c : Nat) (e : TypeId) (h : E.A l) (hl : len ≤ c) (hs : off + c * P.cellsOf e ≤ E.cp l) (hm : c ≤ maxLen) : VR P E (.slice (some ⟨E.β l, off, none⟩) len c) (.arx l off len c e)
 | arx0 (l off : Nat) (a : Option Addr) (e : TypeId) : VR P E (.slice a 0 0) (.arx l off 0 0 e)
 | ptr (l off : Nat) (h : E.A l) : VR P E (.pointer (some ⟨E.β l, off, none⟩)) (.ptr l off)
 | el (b o : Nat) (xs : List C) (vs : Nat → Value)
   (h : ∀ (j : Nat) (x : C), xs[j]? = some x → (E.w.cell? ⟨b, o + j, none⟩ = some (vs j) ∧ E.S b (o + j)) ∧ Rd P E.w E.S (vs j) x) :
   VR P E (.pointer (some ⟨b, o, none⟩)) (.el xs)
 | fn (f : FuncId) (cs : Array Value) (caps : List AV) (hn : cs.size = caps.length)
   (h : ∀ (i : Nat) (v : Value) (x : AV), cs[i]? = some v → caps[i]? = some x → VR P E v x) : VR P E (.func (.func f) #[] cs) (.fn f caps)
 | ifn : VR P E .nilIface (.ifc false)
 | ifs (t : TypeId) (v : Value) : VR P E (.iface t v) (.ifc true)
 | und : VR P E undef .und
 | any (v : Value) : VR P E v .any
structure Env.le (E E' : Env) : Prop where
 cell : ∀ b o u, E.S b o → E.w.cell? ⟨b, o, none⟩ = some u → E'.w.cell? ⟨b, o, none⟩ = some u
 S : ∀ b o, E.S b o → E'.S b o
 A : ∀ l, E.A l → E'.A l ∧ E'.β l = E.β l ∧ E'.cp l = E.cp l
 ow : ∀ nw k v e, E.ow nw k = .reg v e → E'.ow nw k = .reg v e ∨ E'.ow nw k = .dead
 dead : ∀ nw k, E.ow nw k = .dead → E'.ow nw k = .dead
theorem Env.le.refl (E : Env) : E.le E :=
 ⟨fun _ _ _ _ h => h, fun _ _ h => h, fun _ h => ⟨h, rfl, rfl⟩, fun _ _ _ _ h => .inl h, fun _ _ h => h⟩
theorem Env.le.trans {E E' E'' : Env} (h : E.le E') (k : E'.le E'') : E.le E'' where
 cell b o u hs hc := k.cell b o u (h.S b o hs) (h.cell b o u hs hc)
 S b o hs := k.S b o (h.S b o hs)
 A l hl := ⟨(k.A l (h.A l hl).1).1, (k.A l (h.A l hl).1).2.1.trans (h.A l hl).2.1, (k.A l (h.A l hl).1).2.2.trans (h.A l hl).2.2⟩
 ow nw i v e hr := by
  rcases h.ow nw i v e hr with h1 | h1
  ·exact k.ow nw i v e h1
  ·exact .inr (k.dead nw i h1)
 dead nw i hd := k.dead nw i (h.dead nw i hd)
theorem VR.mono {P : Program} {E E' : Env} {v : Value} {x : AV} (hl : E.le E') (h : VR P E v x) : VR P E' v x := by
 induction h with
 | c v x h => exact .c v x (h.mono hl.cell hl.S)
 | nils => exact .nils
 | agg vs xs hn h1 h ih => exact .agg vs xs hn h1 ih
 | tup vs xs hn h ih => exact .tup vs xs hn ih
 | own v nw id e rows h ho =>
  refine .own v nw id e rows (h.mono hl.cell hl.S) ?_
  rcases ho with ho | ho | ho
  ·exact .inl ho
  ·exact .inr (.inl (hl.dead _ _ ho))
  ·rcases hl.ow _ _ _ _ ho with h1 | h1
   ·exact .inr (.inr h1)
   ·exact .inr (.inl h1)
 | arr l off len cap c e h hc hn hs hm => rw [← (hl.A l h).2.1]; exact .arr l off len cap c e (hl.A l h).1 hc hn (by rw [(hl.A l h).2.2]; exact hs) hm
 | arr0 l off a e => exact .arr0 l off a e
 | arx l off len c e h hn hs hm => rw [← (hl.A l h).2.1]; exact .arx l off len c e (hl.A l h).1 hn (by rw [(hl.A l h).2.2]; exact hs) hm
 | arx0 l off a e => exact .arx0 l off a e
 | ptr l off h => rw [← (hl.A l h).2.1]; exact .ptr l off (hl.A l h).1
 | el b o xs vs h => exact .el b o xs vs fun j x hj => ⟨⟨hl.cell _ _ _ (h j x hj).1.2 (h j x hj).1.1, hl.S _ _ (h j x hj).1.2⟩, (h j x hj).2.mono hl.cell hl.S⟩
 | fn f cs caps hn h ih => exact .fn f cs caps hn ih
 | ifn => exact .ifn
 | ifs t v => exact .ifs t v
 | und => exact .und
 | any v => exact .any v
/-! ### Constants -/
def cv1 : Value → AV
 | .int k n => .c (.int k n)
 | .bool b => .c (.bool b)
 | .string s => .c (.str s)
 | .slice none 0 0 => .nils
 | .nilIface => .ifc false
 | _ => .any
theorem zuM (P : Program) (E : Env) (v : Value) : VR P E v (cv1 v) := by
 unfold cv1
 split
 ·exact .c _ _ (.int _ _)
 ·exact .c _ _ (.bool _)
 ·exact .c _ _ (.str _)
 ·exact .nils
 ·exact .ifn
 ·exact .any _
theorem zqt (P : Program) (E : Env) (vs : Array Value) (i : Nat) (v : Value) (x : AV) (hv : vs[i]? = some v) (hx : (vs.toList.map cv1)[i]? = some x) : VR P E v x := by
 rw [List.getElem?_map] at hx
 have : vs.toList[i]? = some v := by simpa using hv
 rw [this] at hx
 simp at hx
 subst hx
 exact zuM P E v
/-! ### Views: a value as plain data -/
def YW (P : Program) (t : TypeId) : Option Bool := match P.underlying t with
 | some (.struct _) | some (.array _ _) => some true
 | some _ => some false
 | none => none
def AV.rows : AV → TypeId → Option (List (List C))
 | .c (.sl e' rows), e => if e = e' then some rows else none
 | .nils, _ => some []
 | .own _ _ e' rows, e => if e = e' then some rows else none
 | _, _ => none
theorem VR.rows {P : Program} {E : Env} {v : Value} {x : AV} {e : TypeId} {rows : List (List C)} (h : VR P E v x) (hx : x.rows e = some rows) :
  Rd P E.w E.S v (.sl e rows) := by
 cases h with
 | c v y h =>
  cases h <;> simp [AV.rows] at hx
  ·obtain ⟨rfl, rfl⟩ := hx; exact .emp _ _ _
  ·obtain ⟨rfl, rfl⟩ := hx; exact .sl _ _ _ _ _ _ _ ‹_› ‹_› ‹_› ‹_› ‹_›
 | nils => simp [AV.rows] at hx; subst hx; exact .emp _ _ _
 | own v nw id e' rows' h ho => simp [AV.rows] at hx; obtain ⟨rfl, rfl⟩ := hx; exact h
 | _ => simp [AV.rows] at hx
theorem Rd.slice {P : Program} {w : World} {S : Nat → Nat → Prop} {v : Value} {e : TypeId} {rows : List (List C)} (h : Rd P w S v (.sl e rows)) :
  ∃ a cap, v = .slice a rows.length cap ∧ rows.length ≤ cap := by
 generalize hx : C.sl e rows = x at h
 cases h with
 | emp e' a cap => cases hx; exact ⟨_, _, rfl, by simp⟩
 | sl e' b off n cap rows' vs hn hcap hsz hcell hrd => cases hx; subst hn; exact ⟨_, _, rfl, hcap⟩
 | _ => cases hx
theorem Rd.row {P : Program} {w : World} {S : Nat → Nat → Prop} {v : Value} {e : TypeId} {rows : List (List C)} (h : Rd P w S v (.sl e rows)) {i : Nat} {r : List C}
  (hi : rows[i]? = some r) : ∃ (b off cap : Nat) (vs : Nat → Value), v = .slice (some ⟨b, off, none⟩) rows.length cap ∧ r.length = P.cellsOf e ∧
   ∀ (j : Nat) (x : C), r[j]? = some x → (w.cell? ⟨b, off + i * P.cellsOf e + j, none⟩ = some (vs j) ∧ S b (off + i * P.cellsOf e + j)) ∧ Rd P w S (vs j) x := by
 generalize hx : C.sl e rows = x at h
 cases h with
 | emp e' a cap => cases hx; simp at hi
 | sl e' b off n cap rows' vs hn hcap hsz hcell hrd =>
  cases hx; subst hn
  refine ⟨b, off, cap, vs i, rfl, hsz i r hi, fun j x hj => ⟨?_, hrd i j r x hi hj⟩⟩
  have := hcell i j r x hi hj
  rw [Nat.add_assoc]
  exact this
 | _ => cases hx
end Go.Rb
namespace Go.Rb
/-! ### Arithmetic -/
def iop (op : BinOp) (k : IntKind) (a b : Int) : Option C :=
 match op with
 | .add => some (.int k (k.wrap (a + b)))
 | .sub => some (.int k (k.wrap (a - b)))
 | .mul => some (.int k (k.wrap (a * b)))
 | .quo => if b = 0 then none else some (.int k (k.wrap (a.tdiv b)))
 | .rem => if b = 0 then none else some (.int k (a.tmod b))
 | .and => some (.int k (k.wrap (BitVec.ofInt k.bits a &&& BitVec.ofInt k.bits b).toNat))
 | .eql => some (.bool (a == b))
 | .neq => some (.bool (a != b))
 | .lss => some (.bool (decide (a < b)))
 | .leq => some (.bool (decide (a ≤ b)))
 | .gtr => some (.bool (decide (a > b)))
 | .geq => some (.bool (decide (a ≥ b)))
 | .shl => if b < 0 then none else some (.int k (k.wrap (a * 2 ^ min b.toNat k.bits)))
 | .shr => if b < 0 then none else some (.int k (a.fdiv (2 ^ min b.toNat k.bits)))
 | _ => none
def z8y (op : BinOp) : Bool := match op with | .shl | .shr => true | _ => false
def ybin (P : Program) (op : BinOp) (T : TypeId) : AV → AV → Option AV
 | .c (.int k a), .c (.int k' b) => if z8y op = true ∨ k = k' then (iop op k a b).map .c else none
 | .c (.bool a), .c (.bool b) =>
  match P.underlying T, op with
  | some .bool, .eql => some (.c (.bool (a == b)))
  | some .bool, .neq => some (.c (.bool (!(a == b))))
  | _, _ => none
 | .c (.str a), .c (.str b) =>
  match op with
  | .add => if (a.size : Int) + b.size ≤ 9223372036854775807 then some (.c (.str (a ++ b))) else none
  | .eql => some (.c (.bool (a.toList == b.toList)))
  | .neq => some (.c (.bool (!(a.toList == b.toList))))
  | _ => none
 | _, _ => none
def yifc (P : Program) (op : BinOp) (T : TypeId) : AV → Option AV
 | .ifc a => match P.underlying T with
  | some (.interface _) => match op with
   | .eql => some (.c (.bool (!a)))
   | .neq => some (.c (.bool a))
   | _ => none
  | _ => none
 | _ => none
def Operand.isNilI : Operand → Bool
 | .const .nilIface => true
 | _ => false
def yun : UnOp → AV → Option AV
 | .not, .c (.bool b) => some (.c (.bool (!b)))
 | .neg, .c (.int k n) => some (.c (.int k (k.wrap (0 - n))))
 | _, _ => none
def z3A (P : Program) (t : TypeId) (m : Nat → List AV) : AV → Option AV
 | .ptr l off =>
  match YW P t with
  | some true => if off + P.cellsOf t ≤ (m l).length ∧ (P.info? t).isSome then some (.agg (((m l).drop off).take (P.cellsOf t))) else none
  | some false => (m l)[off]?
  | none => none
 | .el xs =>
  match YW P t with
  | some true => if P.cellsOf t ≤ xs.length ∧ (P.info? t).isSome then some (.agg ((xs.take (P.cellsOf t)).map .c)) else none
  | some false => xs[0]?.map .c
  | none => none
 | _ => none
def zb6 (P : Program) (s : TypeId) (f : Nat) (x : AV) : Option AV :=
 match P.underlying s with
 | some (.struct fs) =>
  match fs[f]? with
  | some fd =>
   if P.cellsOf fd.type ≠ 0 then
    match x with
    | .ptr l off => some (.ptr l (off + fd.offset))
    | .el xs => some (.el (xs.drop fd.offset))
    | _ => none
   else none
  | none => none
 | _ => none
def AV.int? : AV → Option Int
 | .c (.int _ n) => some n
 | _ => none
def z0l (P : Program) (t : TypeId) (x i : AV) : Option AV :=
 match P.underlying t, i.int? with
 | some (.slice e), some n =>
  match x with
  | .arr l off len _ e' => if 0 ≤ n ∧ n < len ∧ e' = e ∧ (P.info? e).isSome then some (.ptr l (off + n.toNat * P.cellsOf e)) else none
  | x =>
   match x.rows e with
   | some rows => if 0 ≤ n ∧ n < rows.length ∧ (P.info? e).isSome then some (.el (rows.getD n.toNat [])) else none
   | none => none
 | _, _ => none
def Yn (dflt : Nat) : Option AV → Option Nat
 | none => some dflt
 | some x => match x.int? with | some n => if 0 ≤ n then some n.toNat else none | none => none
def z8z (P : Program) (t : TypeId) (x : AV) (lo hi mx : Option AV) : Option AV :=
 match P.underlying t with
 | some (.slice e) =>
  match x.rows e with
  | some rows =>
   match Yn 0 lo, Yn rows.length hi with
   | some l, some h =>
    if l ≤ h ∧ h ≤ rows.length ∧ (P.info? e).isSome then
     match mx, hi with
     | none, _ => some (.c (.sl e ((rows.take h).drop l)))
     | some mm, some _ => if mm.int? = some (h : Int) then some (.own false 0 e ((rows.take h).drop l)) else none
     | some _, none => none
    else none
   | _, _ => none
  | none => none
 | some .string =>
  match x, mx with
  | .c (.str s), none =>
   match Yn 0 lo, Yn s.size hi with
   | some l, some h => if l ≤ h ∧ h ≤ s.size then some (.c (.str (s.extract l h))) else none
   | _, _ => none
  | _, _ => none
 | _ => none
def z8A (P : Program) (t : TypeId) (l off len cap : Nat) (e : TypeId) (lo hi mx : Option AV) : Option AV :=
 match P.underlying t with
 | some (.slice e') =>
  if e' = e ∧ (P.info? e).isSome then
   match Yn 0 lo, Yn len hi with
   | some a, some h =>
    match mx, hi with
    | none, _ => if a ≤ h ∧ (h ≤ len ∨ h ≤ cap) then some (.arr l (off + a * P.cellsOf e) (h - a) (cap - a) e) else none
    | some mm, some _ =>
     match Yn 0 (some mm) with
     | some m => if a ≤ h ∧ h ≤ m ∧ (m ≤ len ∨ m ≤ cap) then some (.arx l (off + a * P.cellsOf e) (h - a) (m - a) e) else none
     | none => none
    | some _, none => none
   | _, _ => none
  else none
 | _ => none
def YB (P : Program) (t : TypeId) (x : AV) (lo hi mx : Option AV) : Option AV :=
 match x with
 | .arr l off len cap e => z8A P t l off len cap e lo hi mx
 | x => z8z P t x lo hi mx
def ycap (P : Program) (t : TypeId) : AV → Option AV
 | .nils => match P.underlying t with | some (.slice _) => some (.c (.int .i64 0)) | _ => none
 | _ => none
def ylen (P : Program) (t : TypeId) (x : AV) : Option AV :=
 match P.underlying t with
 | some (.slice e) =>
  match x with
  | .arr _ _ len _ _ => some (.c (.int .i64 len))
  | x => match x.rows e with | some rows => some (.c (.int .i64 rows.length)) | none => none
 | some .string => match x with | .c (.str s) => some (.c (.int .i64 s.size)) | _ => none
 | _ => none
def ymm (mn : Bool) : AV → AV → Option AV
 | .c (.int k x), .c (.int _ y) => some (.c (.int k (if mn then (if y < x then y else x) else (if y > x then y else x))))
 | _, _ => none
def ymm3 : AV → AV → AV → Option AV
 | .c (.int k x), .c (.int _ y), .c (.int _ z) => some (.c (.int k (if z < (if y < x then y else x) then z else (if y < x then y else x))))
 | _, _, _ => none
def AV.cells : AV → Option (List AV)
 | .agg xs => some xs
 | .tup _ => none
 | .und => none
 | .any => none
 | x => some [x]
def z4V (z : List AV) (off : Nat) (cs : List AV) : List AV := z.take off ++ cs ++ z.drop (off + cs.length)
def z74 (pl : Nat → Option (Nat × Nat)) : List AV → List (Nat × AV) → Option (List AV)
 | z, [] => some z
 | z, (i, x) :: rest =>
  match pl i, x.cells with
  | some (off, size), some cs => if cs.length = size ∧ off + cs.length ≤ z.length then z74 pl (z4V z off cs) rest else none
  | _, _ => none
def zc (P : Program) (t : TypeId) : Option (List AV) :=
 match P.info? t with
 | some i => match i.zero with
  | some z => if z.cells.all (·.oneCell') then some (z.cells.toList.map cv1) else none
  | none => none
 | none => none
def zb7 (P : Program) (t : TypeId) (ps : List (Nat × AV)) : Option AV :=
 match P.underlying t with
 | some (.struct fs) =>
  if fs.all (fun f => (P.info? f.type).isSome) then
   match zc P t with
   | some z => (z74 (fun i => (fs[i]?).map fun f => (f.offset, P.cellsOf f.type)) z ps).map .agg
   | none => none
  else none
 | _ => none
def zdx (P : Program) (ev : Operand → AV) (c : Call) : Option AV :=
 match c.callee with
 | .builtin .len => match c.args.toList, c.argTypes.toList with | [x], [t] => ylen P t (ev x) | _, _ => none
 | .builtin .cap => match c.args.toList, c.argTypes.toList with | [x], [t] => ycap P t (ev x) | _, _ => none
 | .builtin .min => match c.args.toList with | [x, y] => ymm true (ev x) (ev y) | [x, y, z] => ymm3 (ev x) (ev y) (ev z) | _ => none
 | .builtin .max => match c.args.toList with | [x, y] => ymm false (ev x) (ev y) | _ => none
 | _ => none
def zhI (P : Program) (t : TypeId) (x i : AV) : Option AV :=
 match x, i with
 | .c (.str s), .c (.int _ n) => match P.underlying t with
  | some .string => (if 0 ≤ n then s[n.toNat]? else none).map fun b => .c (.int .u8 b.toNat)
  | _ => none
 | _, _ => none
def yl (P : Program) (ev : Operand → AV) (m : Nat → List AV) : Op → Option AV
 | .move x => some (ev x)
 | .assign x => some (ev x)
 | .pick c a b => match ev c with | .c (.bool t) => some (if t then ev a else ev b) | _ => none
 | .binOp op T x y _ => if Operand.isNilI y = true then yifc P op T (ev x) else ybin P op T (ev x) (ev y)
 | .unOp op _ x => yun op (ev x)
 | .convert src dst x =>
  match P.underlying src, P.underlying dst, ev x with
  | some (.int _), some (.int k), .c (.int _ n) => some (.c (.int k (k.wrap n)))
  | _, _, _ => none
 | .load t a => z3A P t m (ev a)
 | .fieldAddr s x f => zb6 P s f (ev x)
 | .indexAddr t x i => z0l P t (ev x) (ev i)
 | .nilCheck x => match ev x with | .ptr l o => some (.ptr l o) | .el xs => some (.el xs) | _ => none
 | .extract t i => match ev t with | .tup xs => xs[i]? | _ => none
 | .build t ps => zb7 P t (ps.toList.map fun (i, x) => (i, ev x))
 | .slice t x lo hi mx => YB P t (ev x) (lo.map ev) (hi.map ev) (mx.map ev)
 | .call c => zdx P ev c
 | .makeFunc (.func f) first caps => if first.isEmpty then some (.fn f (caps.toList.map ev)) else none
 | .index t x i => zhI P t (ev x) (ev i)
 | _ => none
end Go.Rb
namespace Go.Rb
def zpj (P : Program) (E : Env) (m : Nat → List AV) : Prop :=
 ∀ l, m l ≠ [] → ∃ cs e fz, E.w.heap[E.β l]? = some (.cells cs e fz) ∧ (m l).length ≤ cs.size ∧
  ∀ (i : Nat) (v : Value) (x : AV), cs[i]? = some v → (m l)[i]? = some x → VR P E v x ∧ v.oneCell' = true
theorem jy {P : Program} {E : Env} {v : Value} {x : C} (h : VR P E v (.c x)) : Rd P E.w E.S v x := by cases h; assumption
theorem yE {P : Program} {E : Env} {v : Value} {k : IntKind} {n : Int} (h : VR P E v (.c (.int k n))) : v = .int k n := by
 have := jy h; cases this; rfl
theorem z34 {P : Program} {E : Env} {v : Value} {b : Bool} (h : VR P E v (.c (.bool b))) : v = .bool b := by
 have := jy h; cases this; rfl
theorem YO {P : Program} {E : Env} {v : Value} {s : ByteArray} (h : VR P E v (.c (.str s))) : v = .string s := by
 have := jy h; cases this; rfl
theorem zos {P : Program} {E : Env} {v : Value} {x : AV} {n : Int} (h : VR P E v x) (hn : x.int? = some n) : ∃ k, v = .int k n := by
 unfold AV.int? at hn
 split at hn
 ·simp at hn; subst hn; exact ⟨_, yE h⟩
 ·cases hn
theorem ztS {P : Program} {w : World} {op : BinOp} {T : TypeId} {k k' : IntKind} {a b : Int} {x : C} (hk : z8y op = true ∨ k = k') (h : iop op k a b = some x) :
  ∃ u, (binOp op T (.int k a) (.int k' b)).run P w = .ok u w ∧ Rd P w (fun _ _ => False) u x := by
 cases op <;> simp only [z8y, Bool.false_eq_true, false_or, true_or] at hk <;> simp only [iop] at h
 case quo =>
  subst hk
  split at h
  ·cases h
  ·rename_i hb
   cases h
   exact ⟨_, by simp [binOp, Op.intDiv, hb], .int _ _⟩
 case rem =>
  subst hk
  split at h
  ·cases h
  ·rename_i hb
   cases h
   exact ⟨_, by simp [binOp, Op.intDiv, hb], .int _ _⟩
 case shl =>
  split at h
  ·cases h
  ·rename_i hb
   cases h
   exact ⟨_, by simp [binOp, Op.shift, hb], .int _ _⟩
 case shr =>
  split at h
  ·cases h
  ·rename_i hb
   cases h
   exact ⟨_, by simp [binOp, Op.shift, hb], .int _ _⟩
 all_goals first
  | (cases h; done)
  | (subst hk; cases h; exact ⟨_, by simp [binOp, Op.intArith, Op.intBits, Op.intCmp]; rfl, by first | exact .int _ _ | exact .bool _⟩)
theorem Rd.any {P : Program} {w : World} {S : Nat → Nat → Prop} {v : Value} {x : C} (h : Rd P w (fun _ _ => False) v x) : Rd P w S v x :=
 h.mono (fun _ _ _ hf _ => hf.elim) (fun _ _ hf => hf.elim)
theorem zfJ {P : Program} {T : TypeId} (h : P.underlying T = some .bool) (a b : Bool) (w : World) : (Op.equal T (.bool a) (.bool b)).run P w = .ok (a == b) w := by
 unfold Op.equal Op.maxDepth
 rw [show (10000 : Nat) = 9999 + 1 from rfl]
 generalize 9999 = d
 simp only [Op.equalIn, Sem.run_bind, run_underlying h, Result.andThen_ok, Sem.run_pure]
theorem zpk {P : Program} {E : Env} {op : BinOp} {T : TypeId} {x y v : AV} {xo yo : Operand} {a b : Value} (hx : VR P E a x) (hy : VR P E b y) (h : ybin P op T x y = some v) :
  ∃ u, (do eqGuard op T xo yo a b; binOp op T a b : Sem Value).run P E.w = .ok u E.w ∧ VR P E u v := by
 unfold ybin at h
 split at h
 ·rename_i k m k' n
  have ha := yE hx
  have hb := yE hy
  subst ha hb
  split at h
  ·rename_i hk
   cases hi : iop op k m n with
   | none => simp [hi] at h
   | some c =>
    simp [hi] at h
    subst h
    obtain ⟨u, hr, hd⟩ := ztS (P := P) (w := E.w) (T := T) hk hi
    refine ⟨u, ?_, .c _ _ hd.any⟩
    have hg : (eqGuard op T xo yo (.int k m) (.int k' n)).run P E.w = .ok () E.w := by
     cases op <;> simp [eqGuard]
    simp only [Sem.run_bind, hg, Result.andThen_ok, hr]
  ·cases h
 ·rename_i p q
  have ha := z34 hx
  have hb := z34 hy
  subst ha hb
  split at h
  ·rename_i hT
   cases h
   exact ⟨.bool (p == q), by simp [eqGuard, binOp, zfJ hT], .c _ _ (.bool _)⟩
  ·rename_i hT
   cases h
   exact ⟨.bool (!(p == q)), by simp [eqGuard, binOp, zfJ hT], .c _ _ (.bool _)⟩
  ·cases h
 ·rename_i p q
  have ha := YO hx
  have hb := YO hy
  subst ha hb
  split at h
  ·split at h
   ·rename_i hs
    cases h
    exact ⟨.string (p ++ q), by simp [eqGuard, binOp, Op.stringOp, hs], .c _ _ (.str _)⟩
   ·cases h
  ·cases h
   exact ⟨.bool (p.toList == q.toList), by simp [eqGuard, binOp, Op.stringOp], .c _ _ (.bool _)⟩
  ·cases h
   exact ⟨.bool (!(p.toList == q.toList)), by simp [eqGuard, binOp, Op.stringOp], .c _ _ (.bool _)⟩
  ·cases h
 ·cases h
theorem zpl {P : Program} {E : Env} {op : BinOp} {T : TypeId} {x v : AV} {xo yo : Operand} {a b : Value} (hy : Operand.isNilI yo = true) (hb : b = .nilIface) (hx : VR P E a x) (h : yifc P op T x = some v) :
  ∃ u, (do eqGuard op T xo yo a b; binOp op T a b : Sem Value).run P E.w = .ok u E.w ∧ VR P E u v := by
 subst hb
 obtain ⟨z, rfl⟩ : ∃ z, yo = .const z := by cases yo <;> first | exact ⟨_, rfl⟩ | cases hy
 unfold yifc at h
 split at h
 ·split at h
  ·rename_i ms hu
   have hm : P.underlying T = some (.interface (P.methodsAt T)) := by rw [hu]; unfold Program.methodsAt; rw [hu]
   split at h
   ·cases h
    cases hx with
    | ifn => exact ⟨.bool true, by simp [eqGuard, run_eql_nil_nil E.w T hm], .c _ _ (.bool _)⟩
    | ifs t q => exact ⟨.bool false, by simp [eqGuard, run_eql_held_nil E.w T t q hm], .c _ _ (.bool _)⟩
   ·cases h
    cases hx with
    | ifn => exact ⟨.bool false, by simp [eqGuard, run_neq_nil_nil E.w T hm], .c _ _ (.bool _)⟩
    | ifs t q => exact ⟨.bool true, by simp [eqGuard, run_neq_held_nil E.w T t q hm], .c _ _ (.bool _)⟩
   ·cases h
  ·cases h
 ·cases h
theorem zqu {P : Program} {E : Env} {op : UnOp} {x v : AV} {a : Value} (hx : VR P E a x) (h : yun op x = some v) :
  ∃ u, (Op.unary op a).run P E.w = .ok u E.w ∧ VR P E u v := by
 unfold yun at h
 split at h
 ·have ha := z34 hx
  subst ha
  cases h
  exact ⟨.bool _, by simp [Op.unary], .c _ _ (.bool _)⟩
 ·have ha := yE hx
  subst ha
  cases h
  exact ⟨.int _ _, by simp [Op.unary, Op.intArith], .c _ _ (.int _ _)⟩
 ·cases h
theorem ziu {P : Program} {t : TypeId} {b : Bool} (h : YW P t = some b) (w : World) : (isAgg t).run P w = .ok b w := by
 unfold YW at h
 split at h
 ·rename_i hu; cases h; simp [isAgg, underlying, hu]
 ·rename_i hu; cases h; simp [isAgg, underlying, hu]
 ·rename_i hu; cases h
  rename_i d _ h1 h2
  cases d <;> first | (exfalso; exact h1 _ rfl) | (exfalso; exact h2 _ _ rfl) | simp [isAgg, underlying, hu]
 ·cases h
theorem z1R {P : Program} {t : TypeId} {i : TypeInfo} (h : P.info? t = some i) : i.size = P.cellsOf t := by simp [Program.cellsOf, h]
theorem yQ {P : Program} {t : TypeId} (h : (P.info? t).isSome) (w : World) : (sizeOf t).run P w = .ok (P.cellsOf t) w := by
 cases hi : P.info? t with
 | none => simp [hi] at h
 | some i => simp [sizeOf, typeInfo, hi, Program.cellsOf]
theorem Ye (b o n : Nat) : (⟨b, o, none⟩ : Addr).add n = ⟨b, o + n, none⟩ := by
 unfold Addr.add; split <;> simp_all
theorem zk4 {P : Program} {w : World} {a : Addr} {v : Value} (h : w.cell? a = some v) : (load a).run P w = .ok v w := by
 simp [load, Sem.run, h]
theorem z1S {P : Program} {w : World} {t : TypeId} {b o : Nat} {cs : List Value} (ht : YW P t = some true) (hi : (P.info? t).isSome) (hn : cs.length = P.cellsOf t)
  (h : ∀ (j : Nat) (v : Value), cs[j]? = some v → w.cell? ⟨b, o + j, none⟩ = some v) : (loadVar t ⟨b, o, none⟩).run P w = .ok (.agg cs.toArray) w := by
 have hl := run_loadCells_list (P := P) w ⟨b, o, none⟩ cs (fun j v hv => by rw [Ye]; exact h j v hv)
 rw [hn] at hl
 simp only [loadVar, Sem.run_bind, ziu ht, Result.andThen_ok, if_true, yQ hi, hl, Sem.run_pure]
theorem z77 {P : Program} {w : World} {t : TypeId} {a : Addr} {v : Value} (ht : YW P t = some false) (h : w.cell? a = some v) : (loadVar t a).run P w = .ok v w := by
 simp only [loadVar, Sem.run_bind, ziu ht, Result.andThen_ok, Bool.false_eq_true, if_false, zk4 h]
theorem z7W {P : Program} {E : Env} {m : Nat → List AV} (hm : zpj P E m) {t : TypeId} {x v : AV} {a : Value} (hx : VR P E a x) (h : z3A P t m x = some v) :
  ∃ u, (Instr.loadAt t a).run P E.w = .ok u E.w ∧ VR P E u v := by
 unfold z3A at h
 split at h
 ·rename_i l off
  cases hx
  simp only [Instr.loadAt, Instr.sureAddr, Sem.run_bind, Sem.run_pure, Result.andThen_ok]
  split at h
  ·rename_i ht
   split at h
   ·rename_i hc
    cases h
    by_cases hz : m l = []
    ·simp only [hz, List.length_nil] at hc
     have h0 : P.cellsOf t = 0 := by omega
     refine ⟨_, z1S (cs := []) ht hc.2 (by simp [h0]) (by simp), ?_⟩
     rw [hz, h0]
     exact .agg _ _ rfl (by simp) (by simp)
    ·obtain ⟨cs, e, fz, hh, hn, hr⟩ := hm l hz
     have hlen : ((cs.toList.drop off).take (P.cellsOf t)).length = P.cellsOf t := by simp; omega
     have hget : ∀ j v, ((cs.toList.drop off).take (P.cellsOf t))[j]? = some v → cs[off + j]? = some v := by
      intro j v hv
      rw [List.getElem?_take] at hv
      split at hv
      ·rw [List.getElem?_drop] at hv; simpa using hv
      ·cases hv
     refine ⟨_, z1S (cs := (cs.toList.drop off).take (P.cellsOf t)) ht hc.2 hlen ?_, ?_⟩
     ·intro j v hv
      rw [cell_of_row _ _ _ _ _ _ hh]
      exact hget j v hv
     ·refine .agg _ _ (by simp; omega) ?_ ?_
      ·intro i v hv
       simp only [List.getElem?_toArray] at hv
       have h1 := hget i v hv
       have hi0 : i < P.cellsOf t := by have := (List.getElem?_eq_some_iff.1 hv).1; omega
       have hi : off + i < (m l).length := by omega
       exact (hr _ _ _ h1 (List.getElem?_eq_getElem hi)).2
      ·intro i v x hv hx
       simp only [List.getElem?_toArray] at hv
       have h1 := hget i v hv
       have h2 : (m l)[off + i]? = some x := by
        rw [List.getElem?_take] at hx
        split at hx
        ·rw [List.getElem?_drop] at hx; exact hx
        ·cases hx
       exact (hr _ _ _ h1 h2).1
   ·cases h
  ·rename_i ht
   have hz : m l ≠ [] := by intro hz; rw [hz] at h; simp at h
   obtain ⟨cs, e, fz, hh, hn, hr⟩ := hm l hz
   have hi : off < cs.size := Nat.lt_of_lt_of_le (List.getElem?_eq_some_iff.1 h).1 hn
   have hc : cs[off]? = some cs[off] := Array.getElem?_eq_getElem hi
   exact ⟨_, z77 ht (by rw [cell_of_row _ _ _ _ _ _ hh]; exact hc), (hr _ _ _ hc h).1⟩
  ·cases h
 ·rename_i xs
  cases hx with
  | el b o _ vs hr =>
  simp only [Instr.loadAt, Instr.sureAddr, Sem.run_bind, Sem.run_pure, Result.andThen_ok]
  split at h
  ·rename_i ht
   split at h
   ·rename_i hc
    cases h
    have hlen : ((List.range (P.cellsOf t)).map vs).length = P.cellsOf t := by simp
    have hget : ∀ j v, ((List.range (P.cellsOf t)).map vs)[j]? = some v → j < P.cellsOf t ∧ vs j = v := by
     intro j v hv
     simp only [List.getElem?_map, Option.map_eq_some_iff] at hv
     obtain ⟨a, ha, rfl⟩ := hv
     have := List.getElem?_eq_some_iff.1 ha
     obtain ⟨h1, h2⟩ := this
     simp at h1 h2
     subst h2
     exact ⟨h1, rfl⟩
    refine ⟨_, z1S (cs := (List.range (P.cellsOf t)).map vs) ht hc.2 hlen ?_, ?_⟩
    ·intro j v hv
     obtain ⟨hj, rfl⟩ := hget j v hv
     have hj' : j < xs.length := by omega
     exact (hr j _ (List.getElem?_eq_getElem hj')).1.1
    ·refine .agg _ _ (by simp; omega) ?_ ?_
     ·intro i v hv
      simp only [List.getElem?_toArray] at hv
      obtain ⟨hj, rfl⟩ := hget i v hv
      have hj' : i < xs.length := by omega
      exact (hr i _ (List.getElem?_eq_getElem hj')).2.oneCell
     ·intro i v x hv hx
      simp only [List.getElem?_toArray] at hv
      obtain ⟨hj, rfl⟩ := hget i v hv
      simp only [List.getElem?_map, Option.map_eq_some_iff] at hx
      obtain ⟨y, hy, rfl⟩ := hx
      rw [List.getElem?_take, if_pos hj] at hy
      exact .c _ _ (hr i y hy).2
   ·cases h
  ·rename_i ht
   cases hx0 : xs[0]? with
   | none => simp [hx0] at h
   | some y =>
    simp [hx0] at h
    subst h
    have := hr 0 y hx0
    exact ⟨_, z77 ht (by simpa using this.1.1), .c _ _ this.2⟩
  ·cases h
 ·cases h
end Go.Rb
namespace Go.Rb
theorem zb8 {P : Program} {E : Env} {s : TypeId} {f : Nat} {x v : AV} {a : Value} (hx : VR P E a x) (h : zb6 P s f x = some v) :
  ∃ u, (Instr.fieldAt s a f).run P E.w = .ok u E.w ∧ VR P E u v := by
 unfold zb6 at h
 split at h
 ·rename_i fs hu
  split at h
  ·rename_i fd hf
   split at h
   ·rename_i hz
    have hi : (P.info? fd.type).isSome := by
     cases hq : P.info? fd.type with
     | none => simp [Program.cellsOf, hq] at hz
     | some i => rfl
    have hp : ∀ (b o : Nat), (fieldPlace ⟨b, o, none⟩ fd).run P E.w = .ok ⟨b, o + fd.offset, none⟩ E.w := by
     intro b o
     simp only [fieldPlace, Sem.run_bind, yQ hi, Result.andThen_ok, hz, if_false, Sem.run_pure, Ye]
    split at h
    ·cases h
     cases hx
     rename_i hA
     refine ⟨_, ?_, .ptr _ _ hA⟩
     simp only [Instr.fieldAt, Sem.run_bind, run_underlying hu, Result.andThen_ok, hf, Instr.sureAddr, Sem.run_pure, hp]
    ·cases h
     cases hx with
     | el b o _ vs hr =>
     refine ⟨.pointer (some ⟨b, o + fd.offset, none⟩), ?_, .el _ _ _ (fun j => vs (fd.offset + j)) ?_⟩
     ·simp only [Instr.fieldAt, Sem.run_bind, run_underlying hu, Result.andThen_ok, hf, Instr.sureAddr, Sem.run_pure, hp]
     ·intro j x hj
      rw [List.getElem?_drop] at hj
      have := hr _ _ hj
      rw [Nat.add_assoc]
      exact this
    ·cases h
   ·cases h
  ·cases h
 ·cases h
theorem j8 {P : Program} {w : World} (k : IntKind) (n : Int) : (asIntOf (.int k n)).run P w = .ok (k, n) w := rfl
theorem zkJ {P : Program} {E : Env} {t : TypeId} {x i v : AV} {a b : Value} (hx : VR P E a x) (hi : VR P E b i) (h : z0l P t x i = some v) :
  ∃ u, (Instr.indexAt t a b).run P E.w = .ok u E.w ∧ VR P E u v := by
 unfold z0l at h
 split at h
 ·rename_i e n hu hn
  obtain ⟨k, rfl⟩ := zos hi hn
  split at h
  ·rename_i l off len cap e'
   split at h
   ·rename_i hc
    obtain ⟨h0, h1, rfl, hs⟩ := hc
    cases h
    cases hx
    case arr0 => omega
    rename_i hA _ _ _
    refine ⟨_, ?_, .ptr _ _ hA⟩
    simp only [Instr.indexAt, Sem.run_bind, j8, Result.andThen_ok, run_underlying hu, Sem.run_pure, Bool.and_false, h0, h1, and_self, if_true, yQ hs, Ye]
   ·cases h
  ·split at h
   ·rename_i rows hr
    split at h
    ·rename_i hc
     obtain ⟨h0, h1, hs⟩ := hc
     cases h
     have hd := hx.rows hr
     have hlt : n.toNat < rows.length := by omega
     obtain ⟨b, off, cap, vs, rfl, hlen, hcell⟩ := hd.row (List.getElem?_eq_getElem hlt)
     have hg : rows.getD n.toNat [] = rows[n.toNat] := by simp [List.getD, List.getElem?_eq_getElem hlt]
     rw [hg]
     refine ⟨_, ?_, .el b (off + n.toNat * P.cellsOf e) _ vs hcell⟩
     simp only [Instr.indexAt, Sem.run_bind, j8, Result.andThen_ok, run_underlying hu, Sem.run_pure, Bool.and_false, h0, h1, and_self, if_true, yQ hs, Ye]
    ·cases h
   ·cases h
 ·cases h
theorem zqv {P : Program} {E : Env} {y : Nat} {code : BoundsCode} {x : AV} {a : Value} {d l : Nat} (hx : VR P E a x) (h : Yn d (some x) = some l) (hl : l ≤ y) :
  (Instr.sliceBound a y code).run P E.w = .ok l E.w := by
 simp only [Yn] at h
 split at h
 ·rename_i n hn
  obtain ⟨k, rfl⟩ := zos hx hn
  split at h
  ·rename_i h0
   cases h
   have : 0 ≤ n ∧ n ≤ (y : Int) := ⟨h0, by omega⟩
   simp only [Instr.sliceBound, Sem.run_bind, j8, Result.andThen_ok, this, and_self, if_true, Sem.run_pure]
  ·cases h
 ·cases h
def vU (P : Program) (w : World) (d l : Nat) (v : Option Value) : Prop :=
 (v = none ∧ l = d) ∨ ∃ u, v = some u ∧ ∀ (y : Nat) (code : BoundsCode), l ≤ y → (Instr.sliceBound u y code).run P w = .ok l w
theorem Jk {P : Program} {E : Env} {d l : Nat} {lo : Option AV} {vlo : Option Value} (hlo : ∀ y, lo = some y → ∃ u, vlo = some u ∧ VR P E u y) (hlo' : lo = none → vlo = none)
  (hl : Yn d lo = some l) : vU P E.w d l vlo := by
 cases lo with
 | none => simp only [Yn, Option.some.injEq] at hl; exact .inl ⟨hlo' rfl, hl.symm⟩
 | some x => obtain ⟨u, h, hv⟩ := hlo _ rfl; exact .inr ⟨u, h, fun y code hy => zqv hv hl hy⟩
theorem je {P : Program} {w : World} (q : Bool) {len cap l k : Nat} {vlo vhi : Option Value} (hl : vU P w 0 l vlo) (hk : vU P w len k vhi) (hlk : l ≤ k) (hkc : k ≤ cap) :
  (Instr.sliceBounds q len cap vlo vhi none).run P w = .ok (l, k, cap) w := by
 rcases hl with ⟨rfl, rfl⟩ | ⟨u, rfl, hu⟩ <;> rcases hk with ⟨rfl, rfl⟩ | ⟨u', rfl, hu'⟩
 ·simp only [Instr.sliceBounds, Sem.run_bind, Sem.run_pure, Result.andThen_ok]
 ·simp only [Instr.sliceBounds, Sem.run_bind, Sem.run_pure, Result.andThen_ok, hu' _ _ hkc]
 ·simp only [Instr.sliceBounds, Sem.run_bind, Sem.run_pure, Result.andThen_ok, hu _ _ hlk]
 ·simp only [Instr.sliceBounds, Sem.run_bind, Sem.run_pure, Result.andThen_ok, hu _ _ hlk, hu' _ _ hkc]
theorem z5y {P : Program} {w : World} (q : Bool) {len cap l k m : Nat} {vlo : Option Value} {uhi umx : Value} (hl : vU P w 0 l vlo) (hk : vU P w len k (some uhi))
  (hm : vU P w len m (some umx)) (hlk : l ≤ k) (hkm : k ≤ m) (hmc : m ≤ cap) :
  (Instr.sliceBounds q len cap vlo (some uhi) (some umx)).run P w = .ok (l, k, m) w := by
 rcases hk with ⟨h, _⟩ | ⟨u', h', hu'⟩
 ·cases h
 rcases hm with ⟨h, _⟩ | ⟨u2, h2, hu2⟩
 ·cases h
 cases h'
 cases h2
 rcases hl with ⟨rfl, rfl⟩ | ⟨u, rfl, hu⟩
 ·simp only [Instr.sliceBounds, Sem.run_bind, Sem.run_pure, Result.andThen_ok, hu' _ _ hkm, hu2 _ _ hmc]
 ·simp only [Instr.sliceBounds, Sem.run_bind, Sem.run_pure, Result.andThen_ok, hu' _ _ hkm, hu2 _ _ hmc, hu _ _ hlk]
theorem Rd.part {P : Program} {w : World} {S : Nat → Nat → Prop} {a : Option Addr} {n cap : Nat} {e : TypeId} {rows : List (List C)} (h : Rd P w S (.slice a n cap) (.sl e rows)) (l k c : Nat)
  (hl : l ≤ k) (hk : k ≤ rows.length) (hc : k - l ≤ c) (q : Bool) (hq : q = true → k = l) :
  Rd P w S (.slice (if q = true then a else a.map (·.add (l * P.cellsOf e))) (k - l) c) (.sl e ((rows.take k).drop l)) := by
 by_cases hkl : k = l
 ·subst hkl
  rw [Nat.sub_self, List.drop_of_length_le (by simp; omega)]
  exact .emp _ _ _
 ·have hq' : q = false := by cases q <;> simp_all
  subst hq'
  simp only [Bool.false_eq_true, if_false]
  generalize hx : C.sl e rows = x at h
  generalize hv : Value.slice a n cap = v at h
  cases h with
  | emp e' a cap => cases hx; simp at hk; omega
  | sl e' b off n' cap' rows' vs hn hcap hsz hcell hrd =>
   cases hx; cases hv
   simp only [Option.map_some, Ye]
   have hget : ∀ (i : Nat) (r : List C), ((rows.take k).drop l)[i]? = some r → rows[l + i]? = some r := by
    intro i r hi
    rw [List.getElem?_drop, List.getElem?_take] at hi
    split at hi
    ·exact hi
    ·cases hi
   refine .sl e b _ _ _ _ (fun i j => vs (l + i) j) (by simp; omega) hc ?_ ?_ ?_
   ·intro i r hi; exact hsz _ _ (hget i r hi)
   ·intro i j r c hi hj
    have := hcell _ j r c (hget i r hi) hj
    rw [Nat.add_mul, Nat.add_assoc] at this
    rw [Nat.add_assoc]
    exact this
   ·intro i j r c hi hj; exact hrd _ _ _ _ (hget i r hi) hj
  | _ => cases hx
theorem zkK {P : Program} {E : Env} {t : TypeId} {x v : AV} {lo hi mx : Option AV} {a : Value} {vlo vhi vmx : Option Value} (hx : VR P E a x)
  (hlo : ∀ y, lo = some y → ∃ u, vlo = some u ∧ VR P E u y) (hlo' : lo = none → vlo = none)
  (hhi : ∀ y, hi = some y → ∃ u, vhi = some u ∧ VR P E u y) (hhi' : hi = none → vhi = none)
  (hmx : ∀ y, mx = some y → ∃ u, vmx = some u ∧ VR P E u y) (hmx' : mx = none → vmx = none)
  (h : z8z P t x lo hi mx = some v) : ∃ u, (Instr.sliceAt t a vlo vhi vmx).run P E.w = .ok u E.w ∧ VR P E u v := by
 unfold z8z at h
 split at h
 ·rename_i e hu
  split at h
  ·rename_i rows hr
   split at h
   ·rename_i l k hl hk
    split at h
    ·rename_i hc
     obtain ⟨hlk, hkn, hs⟩ := hc
     have hd := hx.rows hr
     obtain ⟨ad, cap, rfl, hcap⟩ := hd.slice
     have hlB := Jk hlo hlo' hl
     have hkB := Jk hhi hhi' hk
     split at h
     ·cases h
      obtain rfl := hmx' rfl
      refine ⟨_, ?_, .c _ _ (hd.part l k (cap - l) hlk hkn (by omega) (decide (cap = l)) (by simp; omega))⟩
      simp only [Instr.sliceAt, Sem.run_bind, run_underlying hu, Result.andThen_ok, Instr.slice, Sem.run_pure, je true hlB hkB hlk (Nat.le_trans hkn hcap), yQ hs, decide_eq_true_eq]
     ·rename_i mm hh
      split at h
      ·rename_i hmm
       cases h
       obtain ⟨u, rfl, hvu⟩ := hhi _ rfl
       obtain ⟨u2, rfl, hvu2⟩ := hmx _ rfl
       have hmB : vU P E.w rows.length k (some u2) := Jk (lo := some mm) (fun y hy => by cases hy; exact ⟨_, rfl, hvu2⟩) (fun h => by cases h) (by simp [Yn, hmm])
       refine ⟨_, ?_, .own _ _ _ _ _ (hd.part l k (k - l) hlk hkn (by omega) (decide (k = l)) (by simp)) (.inl ⟨_, _, rfl⟩)⟩
       simp only [Instr.sliceAt, Sem.run_bind, run_underlying hu, Result.andThen_ok, Instr.slice, Sem.run_pure, z5y true hlB hkB hmB hlk (Nat.le_refl _) (Nat.le_trans hkn hcap), yQ hs, decide_eq_true_eq]
      ·cases h
     ·cases h
    ·cases h
   ·cases h
  ·cases h
 ·rename_i hu
  split at h
  ·rename_i s
   have ha := YO hx
   subst ha
   split at h
   ·rename_i l k hl hk
    split at h
    ·rename_i hc
     obtain ⟨hlk, hkn⟩ := hc
     cases h
     obtain rfl := hmx' rfl
     have hlB := Jk hlo hlo' hl
     have hkB := Jk hhi hhi' hk
     refine ⟨_, ?_, .c _ _ (.str _)⟩
     simp only [Instr.sliceAt, Sem.run_bind, run_underlying hu, Result.andThen_ok, Instr.slice, Sem.run_pure, je false hlB hkB hlk hkn, Option.isSome_none, Bool.false_eq_true, if_false]
    ·cases h
   ·cases h
  ·cases h
 ·cases h
theorem zk5 {P : Program} {E : Env} {t e : TypeId} {l off len cap : Nat} {v : AV} {lo hi mx : Option AV} {a : Value} {vlo vhi vmx : Option Value} (hx : VR P E a (.arr l off len cap e))
  (hlo : ∀ y, lo = some y → ∃ u, vlo = some u ∧ VR P E u y) (hlo' : lo = none → vlo = none)
  (hhi : ∀ y, hi = some y → ∃ u, vhi = some u ∧ VR P E u y) (hhi' : hi = none → vhi = none)
  (hmx : ∀ y, mx = some y → ∃ u, vmx = some u ∧ VR P E u y) (hmx' : mx = none → vmx = none)
  (h : z8A P t l off len cap e lo hi mx = some v) : ∃ u, (Instr.sliceAt t a vlo vhi vmx).run P E.w = .ok u E.w ∧ VR P E u v := by
 unfold z8A at h
 split at h
 ·rename_i e' hu
  split at h
  ·rename_i hc
   obtain ⟨rfl, hs⟩ := hc
   split at h
   ·rename_i x k hl hk
    have hlB := Jk hlo hlo' hl
    have hkB := Jk hhi hhi' hk
    -- what the value is
    obtain ⟨ad, c, rfl, hcl, hcc, hval⟩ : ∃ ad c, a = .slice ad len c ∧ len ≤ c ∧ cap ≤ c ∧ ∀ (x k m : Nat), x ≤ k → k ≤ m → m ≤ c →
      (∀ capb, capb ≤ m - x → VR P E (.slice (if decide (m = x) = true then ad else ad.map (·.add (x * P.cellsOf e'))) (k - x) (m - x)) (.arr l (off + x * P.cellsOf e') (k - x) capb e')) ∧ VR P E (.slice (if decide (m = x) = true then ad else ad.map (·.add (x * P.cellsOf e'))) (k - x) (m - x)) (.arx l (off + x * P.cellsOf e') (k - x) (m - x) e') := by
     cases hx with
     | arr _ _ _ _ c _ hA hc hl hsz hm =>
      refine ⟨_, c, rfl, hl, hc, fun x k m h1 h2 h3 => ⟨fun capb hb => ?_, ?_⟩⟩
      case refine_2 =>
       by_cases hmx : m = x
       ·subst hmx
        have e1 : k - m = 0 := by omega
        rw [e1, Nat.sub_self]
        exact .arx0 _ _ _ _
       ·rw [if_neg (by simp [hmx])]
        simp only [Option.map_some, Ye]
        refine .arx _ _ _ _ _ hA (by omega) ?_ (by omega)
        have : x * P.cellsOf e' + (m - x) * P.cellsOf e' = m * P.cellsOf e' := by rw [← Nat.add_mul]; congr 1; omega
        have h4 : m * P.cellsOf e' ≤ c * P.cellsOf e' := Nat.mul_le_mul_right _ h3
        omega
      by_cases hmx : m = x
      ·subst hmx
       have e1 : k - m = 0 := by omega
       have e2 : capb = 0 := by omega
       rw [e1, e2, Nat.sub_self]
       exact .arr0 _ _ _ _
      ·rw [if_neg (by simp [hmx])]
       simp only [Option.map_some, Ye]
       refine .arr _ _ _ _ _ _ hA hb (by omega) ?_ (by omega)
       have : x * P.cellsOf e' + (m - x) * P.cellsOf e' = m * P.cellsOf e' := by rw [← Nat.add_mul]; congr 1; omega
       have h4 : m * P.cellsOf e' ≤ c * P.cellsOf e' := Nat.mul_le_mul_right _ h3
       omega
     | arr0 _ _ ad _ =>
      refine ⟨ad, 0, rfl, Nat.le_refl _, Nat.le_refl _, fun x k m h1 h2 h3 => ⟨fun capb hb => ?_, ?_⟩⟩
      case refine_2 =>
       have e1 : k - x = 0 := by omega
       have e3 : m - x = 0 := by omega
       rw [e1, e3]
       exact .arx0 _ _ _ _
      have e1 : k - x = 0 := by omega
      have e2 : capb = 0 := by omega
      have e3 : m - x = 0 := by omega
      rw [e1, e2, e3]
      exact .arr0 _ _ _ _
    split at h
    ·split at h
     ·rename_i hb
      cases h
      obtain rfl := hmx' rfl
      refine ⟨_, ?_, (hval x k c hb.1 (by omega) (Nat.le_refl _)).1 (cap - x) (by omega)⟩
      simp only [Instr.sliceAt, Sem.run_bind, run_underlying hu, Result.andThen_ok, Instr.slice, Sem.run_pure, je true hlB hkB hb.1 (show k ≤ c by omega), yQ hs, decide_eq_true_eq]
     ·cases h
    ·rename_i mm hh
     split at h
     ·rename_i m hm
      split at h
      ·rename_i hb
       cases h
       obtain ⟨u, rfl, hvu⟩ := hhi _ rfl
       obtain ⟨u2, rfl, hvu2⟩ := hmx _ rfl
       have hmB : vU P E.w len m (some u2) := Jk (lo := some mm) (fun y hy => by cases hy; exact ⟨_, rfl, hvu2⟩) (fun h => by cases h) (by simpa [Yn] using hm)
       refine ⟨_, ?_, (hval x k m hb.1 hb.2.1 (by omega)).2⟩
       simp only [Instr.sliceAt, Sem.run_bind, run_underlying hu, Result.andThen_ok, Instr.slice, Sem.run_pure, z5y true hlB hkB hmB hb.1 hb.2.1 (show m ≤ c by omega), yQ hs, decide_eq_true_eq]
      ·cases h
     ·cases h
    ·cases h
   ·cases h
  ·cases h
 ·cases h
theorem zk6 {P : Program} {E : Env} {t : TypeId} {x v : AV} {lo hi mx : Option AV} {a : Value} {vlo vhi vmx : Option Value} (hx : VR P E a x)
  (hlo : ∀ y, lo = some y → ∃ u, vlo = some u ∧ VR P E u y) (hlo' : lo = none → vlo = none)
  (hhi : ∀ y, hi = some y → ∃ u, vhi = some u ∧ VR P E u y) (hhi' : hi = none → vhi = none)
  (hmx : ∀ y, mx = some y → ∃ u, vmx = some u ∧ VR P E u y) (hmx' : mx = none → vmx = none)
  (h : YB P t x lo hi mx = some v) : ∃ u, (Instr.sliceAt t a vlo vhi vmx).run P E.w = .ok u E.w ∧ VR P E u v := by
 unfold YB at h
 split at h
 ·exact zk5 hx hlo hlo' hhi hhi' hmx hmx' h
 ·exact zkK hx hlo hlo' hhi hhi' hmx hmx' h
theorem zpm {P : Program} {E : Env} {t ty : TypeId} {x v : AV} {a : Value} (hx : VR P E a x) (h : ycap P t x = some v) :
  ∃ u, (Builtin.cap_ #[t] ty #[a]).run P E.w = .ok u E.w ∧ VR P E u v := by
 unfold ycap at h
 split at h
 ·split at h
  ·rename_i e hu
   cases h
   cases hx
   exact ⟨_, by simp only [Builtin.cap_, List.getElem?_toArray, List.getElem?_cons_zero, Sem.run_bind, run_underlying hu, Result.andThen_ok, goInt, Sem.run_pure]; rfl, .c _ _ (.int _ _)⟩
  ·cases h
 ·cases h
theorem zpn {P : Program} {E : Env} {t ty : TypeId} {x v : AV} {a : Value} (hx : VR P E a x) (h : ylen P t x = some v) :
  ∃ u, (Builtin.len_ #[t] ty #[a]).run P E.w = .ok u E.w ∧ VR P E u v := by
 unfold ylen at h
 split at h
 ·rename_i e hu
  split at h
  ·cases h
   cases hx <;> exact ⟨_, by simp only [Builtin.len_, List.getElem?_toArray, List.getElem?_cons_zero, Sem.run_bind, run_underlying hu, Result.andThen_ok, goInt, Sem.run_pure], .c _ _ (.int _ _)⟩
  ·split at h
   ·rename_i rows hr
    cases h
    obtain ⟨ad, cap, rfl, _⟩ := (hx.rows hr).slice
    exact ⟨_, by simp only [Builtin.len_, List.getElem?_toArray, List.getElem?_cons_zero, Sem.run_bind, run_underlying hu, Result.andThen_ok, goInt, Sem.run_pure], .c _ _ (.int _ _)⟩
   ·cases h
 ·rename_i hu
  split at h
  ·cases h
   have ha := YO hx
   subst ha
   exact ⟨_, by simp only [Builtin.len_, List.getElem?_toArray, List.getElem?_cons_zero, Sem.run_bind, run_underlying hu, Result.andThen_ok, goInt, Sem.run_pure], .c _ _ (.int _ _)⟩
  ·cases h
 ·cases h
end Go.Rb
namespace Go.Rb
theorem ziv {P : Program} {E : Env} {mn : Bool} {ts : Array TypeId} {ty : TypeId} {x y v : AV} {a b : Value} (hx : VR P E a x) (hy : VR P E b y) (h : ymm mn x y = some v) :
  ∃ u, (if mn = true then Builtin.min_ ts ty #[a, b] else Builtin.max_ ts ty #[a, b]).run P E.w = .ok u E.w ∧ VR P E u v := by
 unfold ymm at h
 split at h
 ·have ha := yE hx
  have hb := yE hy
  subst ha hb
  cases h
  cases mn
  ·exact ⟨.int _ _, by simp [Builtin.max_, Builtin.max2], .c _ _ (.int _ _)⟩
  ·exact ⟨.int _ _, by simp [Builtin.min_, Builtin.min2], .c _ _ (.int _ _)⟩
 ·cases h
def CellsR (P : Program) (E : Env) (cs : Array Value) (xs : List AV) : Prop :=
 cs.size = xs.length ∧ ∀ (i : Nat) (v : Value) (x : AV), cs[i]? = some v → xs[i]? = some x → VR P E v x ∧ v.oneCell' = true
theorem VR.cells {P : Program} {E : Env} {v : Value} {x : AV} {xs : List AV} (h : VR P E v x) (hx : x.cells = some xs) : CellsR P E v.cells xs := by
 have one : ∀ (v : Value) (x : AV), VR P E v x → v.oneCell' = true → CellsR P E v.cells [x] := by
  intro v x hv h1
  have hc : v.cells = #[v] := by cases v <;> first | rfl | (simp [Value.oneCell'] at h1)
  rw [hc]
  refine ⟨rfl, fun i u y hu hy => ?_⟩
  cases i with
  | zero => simp at hu hy; subst hu hy; exact ⟨hv, h1⟩
  | succ i => simp at hy
 cases h with
 | agg vs xs' hn h1 h => simp [AV.cells] at hx; subst hx; exact ⟨hn, fun i v x hv hx => ⟨h i v x hv hx, h1 i v hv⟩⟩
 | tup => simp [AV.cells] at hx
 | und => simp [AV.cells] at hx
 | any => simp [AV.cells] at hx
 | c v x h => simp [AV.cells] at hx; subst hx; exact one _ _ (.c _ _ h) h.oneCell
 | nils => simp [AV.cells] at hx; subst hx; exact one _ _ .nils rfl
 | own v nw id e rows h ho => simp [AV.cells] at hx; subst hx; exact one _ _ (.own _ _ _ _ _ h ho) h.oneCell
 | arr l off len cap c e h hc hl hs hm => simp [AV.cells] at hx; subst hx; exact one _ _ (.arr _ _ _ _ _ _ h hc hl hs hm) rfl
 | arr0 l off a e => simp [AV.cells] at hx; subst hx; exact one _ _ (.arr0 _ _ _ _) rfl
 | arx l off len c e h hl hs hm => simp [AV.cells] at hx; subst hx; exact one _ _ (.arx _ _ _ _ _ h hl hs hm) rfl
 | arx0 l off a e => simp [AV.cells] at hx; subst hx; exact one _ _ (.arx0 _ _ _ _) rfl
 | ptr l off h => simp [AV.cells] at hx; subst hx; exact one _ _ (.ptr _ _ h) rfl
 | el b o xs' vs h => simp [AV.cells] at hx; subst hx; exact one _ _ (.el _ _ _ _ h) rfl
 | fn f cs caps hn h => simp [AV.cells] at hx; subst hx; exact one _ _ (.fn _ _ _ hn h) rfl
 | ifn => simp [AV.cells] at hx; subst hx; exact one _ _ .ifn rfl
 | ifs t v => simp [AV.cells] at hx; subst hx; exact one _ _ (.ifs t v) rfl
theorem CellsR.agg {P : Program} {E : Env} {cs : Array Value} {xs : List AV} (h : CellsR P E cs xs) : VR P E (.agg cs) (.agg xs) := by
 refine .agg _ _ h.1 (fun i v hv => ?_) (fun i v x hv hx => (h.2 i v x hv hx).1)
 have hi : i < xs.length := by rw [← h.1]; exact (Array.getElem?_eq_some_iff.1 hv).1
 exact (h.2 i v _ hv (List.getElem?_eq_getElem hi)).2
def ym (cs : Array Value) (off : Nat) : List Value → Nat → Array Value
 | [], _ => cs
 | v :: rest, j => ym (cs.setIfInBounds (off + j) v) off rest (j + 1)
theorem z0T (off : Nat) : ∀ (l : List Value) (j : Nat) (cs : Array Value), (ym cs off l j).size = cs.size
 | [], _, _ => rfl
 | v :: rest, j, cs => by simp [ym, z0T off rest]
theorem jz (off : Nat) : ∀ (l : List Value) (j : Nat) (cs : Array Value) (k : Nat), off + j + l.length ≤ cs.size →
  (ym cs off l j)[k]? = if off + j ≤ k ∧ k < off + j + l.length then l[k - (off + j)]? else cs[k]?
 | [], j, cs, k, _ => by simp [ym]; omega
 | v :: rest, j, cs, k, h => by
  simp only [List.length_cons] at h
  rw [ym, jz off rest (j + 1) _ k (by simp; omega)]
  simp only [List.length_cons]
  by_cases h1 : off + (j + 1) ≤ k ∧ k < off + (j + 1) + rest.length
  ·rw [if_pos h1, if_pos (by omega), show k - (off + j) = (k - (off + (j + 1))) + 1 from by omega, List.getElem?_cons_succ]
  ·rw [if_neg h1]
   by_cases h2 : k = off + j
   ·subst h2
    rw [if_pos (by omega), Nat.sub_self, Array.getElem?_setIfInBounds_self_of_lt (by omega)]
    rfl
   ·rw [if_neg (by omega), Array.getElem?_setIfInBounds_ne (by omega)]
theorem ziw (off : Nat) : ∀ (l : List Value) (j : Nat) (cs : Array Value), (l.zipIdx j).foldl (fun cs (p : Value × Nat) => cs.setIfInBounds (off + p.2) p.1) cs = ym cs off l j
 | [], _, _ => rfl
 | v :: rest, j, cs => by simp only [List.zipIdx_cons, List.foldl_cons, ziw off rest, ym]
theorem zix (pl : Nat → Option (Nat × Nat)) (cs : Array Value) (i : Nat) (v : Value) (rest : List (Nat × Value)) {off size : Nat} (hp : pl i = some (off, size)) (hs : v.cells.size = size)
  (hf : off + v.cells.size ≤ cs.size) : Instr.fill pl cs ((i, v) :: rest) = Instr.fill pl (ym cs off v.cells.toList 0) rest := by
 rw [Instr.fill]
 simp only [hp]
 have hc : (decide (v.cells.size ≠ size) || decide (off + v.cells.size > cs.size)) = false := by
  simp only [hs, ne_eq, not_true_eq_false, decide_false, Bool.false_or, decide_eq_false_iff_not]; omega
 rw [hc]
 simp only [Bool.false_eq_true, if_false]
 rw [← Array.foldl_toList, Array.toList_zipIdx]
 congr 1
 exact ziw off v.cells.toList 0 cs
theorem zqw (z cs : List AV) (off k : Nat) (h : off + cs.length ≤ z.length) : (z4V z off cs)[k]? = if off ≤ k ∧ k < off + cs.length then cs[k - off]? else z[k]? := by
 unfold z4V
 have hl : (z.take off).length = off := by simp; omega
 rw [List.append_assoc, List.getElem?_append, hl]
 by_cases h1 : k < off
 ·rw [if_pos h1, if_neg (by omega), List.getElem?_take, if_pos h1]
 ·rw [if_neg h1, List.getElem?_append]
  by_cases h2 : k - off < cs.length
  ·rw [if_pos h2, if_pos (by omega)]
  ·rw [if_neg h2, if_neg (by omega), List.getElem?_drop]
   congr 1
   omega
theorem zkL (z cs : List AV) (off : Nat) (h : off + cs.length ≤ z.length) : (z4V z off cs).length = z.length := by
 simp [z4V]; omega
theorem zb9 {P : Program} {E : Env} {cs : Array Value} {z : List AV} {ws : Array Value} {ys : List AV} {off : Nat} (h : CellsR P E cs z) (k : CellsR P E ws ys) (hf : off + ys.length ≤ z.length) :
  CellsR P E (ym cs off ws.toList 0) (z4V z off ys) := by
 refine ⟨by rw [z0T, zkL _ _ _ hf, h.1], fun i v x hv hx => ?_⟩
 rw [zqw _ _ _ _ hf] at hx
 rw [jz _ _ _ _ _ (by simp [k.1, h.1]; omega)] at hv
 simp only [Nat.add_zero, Array.length_toList, k.1] at hv
 split at hv
 ·rename_i hc
  rw [if_pos hc] at hx
  exact k.2 _ _ _ (by simpa using hv) hx
 ·rename_i hc
  rw [if_neg hc] at hx
  exact h.2 _ _ _ hv hx
theorem zdX {P : Program} {E : Env} {pl : Nat → Option (Nat × Nat)} : ∀ (ps : List (Nat × AV)) (vs : List (Nat × Value)) (z : List AV) (cs : Array Value) (z' : List AV),
  CellsR P E cs z → ps.length = vs.length → (∀ (i : Nat) (p : Nat × AV) (q : Nat × Value), ps[i]? = some p → vs[i]? = some q → p.1 = q.1 ∧ VR P E q.2 p.2) → z74 pl z ps = some z' →
  ∃ cs', Instr.fill pl cs vs = some cs' ∧ CellsR P E cs' z'
 | [], [], z, cs, z', h, _, _, hy => by simp [z74] at hy; subst hy; exact ⟨cs, rfl, h⟩
 | (i, x) :: ps, (i', v) :: vs, z, cs, z', h, hl, hr, hy => by
  obtain ⟨hi, hv⟩ := hr 0 _ _ rfl rfl
  simp only at hi hv
  subst hi
  rw [z74] at hy
  split at hy
  ·rename_i off size xs hp hx
   split at hy
   ·rename_i hc
    have hcs := hv.cells hx
    rw [zix pl cs i v vs hp (by rw [hcs.1]; exact hc.1) (by rw [hcs.1, h.1]; exact hc.2)]
    exact zdX ps vs _ _ z' (zb9 h hcs hc.2) (by simpa using hl) (fun j p q hp hq => hr (j + 1) p q hp hq) hy
   ·cases hy
  ·cases hy
 | [], _ :: _, _, _, _, _, hl, _, _ => by simp at hl
 | _ :: _, [], _, _, _, _, hl, _, _ => by simp at hl
theorem VM {P : Program} {t : TypeId} {z : List AV} (E : Env) (h : zc P t = some z) : ∃ v, (zeroValue t).run P E.w = .ok v E.w ∧ CellsR P E v.cells z := by
 unfold zc at h
 split at h
 ·rename_i i hi
  split at h
  ·rename_i v hv
   split at h
   ·rename_i ha
    cases h
    simp only [Array.all_eq_true_iff_forall_mem] at ha
    refine ⟨v, by simp [zeroValue, typeInfo, hi, hv], by simp, fun j u x hu hx => ⟨zqt P E _ j u x hu hx, ha u (Array.mem_of_getElem? hu)⟩⟩
   ·cases h
  ·cases h
 ·cases h
theorem zfK {P : Program} (w : World) : ∀ (fs : List Field), fs.all (fun f => (P.info? f.type).isSome) = true →
  (fs.mapM (fun (f : Field) => (do pure (f.offset, ← sizeOf f.type) : Sem (Nat × Nat)))).run P w = .ok (fs.map fun f => (f.offset, P.cellsOf f.type)) w
 | [], _ => rfl
 | f :: fs, h => by
  simp only [List.all_cons, Bool.and_eq_true] at h
  simp only [List.mapM_cons, Sem.run_bind, yQ h.1, Result.andThen_ok, Sem.run_pure, zfK w fs h.2, List.map_cons]
theorem zkM {P : Program} {E : Env} {t : TypeId} {ps : List (Nat × AV)} {vs : Array (Nat × Value)} {v : AV} (hl : ps.length = vs.size)
  (hr : ∀ (i : Nat) (p : Nat × AV) (q : Nat × Value), ps[i]? = some p → vs[i]? = some q → p.1 = q.1 ∧ VR P E q.2 p.2) (h : zb7 P t ps = some v) :
  ∃ u, (Instr.build t vs).run P E.w = .ok u E.w ∧ VR P E u v := by
 unfold zb7 at h
 split at h
 ·rename_i fs hu
  split at h
  ·rename_i hall
   split at h
   ·rename_i z hz
    cases hy : z74 (fun i => (fs[i]?).map fun f => (f.offset, P.cellsOf f.type)) z ps with
    | none => simp [hy] at h
    | some z' =>
     simp [hy] at h
     subst h
     obtain ⟨zv, hzr, hzc⟩ := VM E hz
     obtain ⟨cs', hf, hc⟩ := zdX ps vs.toList z zv.cells z' hzc (by simpa using hl) (fun i p q hp hq => hr i p q hp (by simpa using hq)) hy
     refine ⟨.agg cs', ?_, hc.agg⟩
     have hpl := zfK (P := P) E.w fs.toList (by simpa using hall)
     have hpl' : (fs.mapM (fun (f : Field) => (do pure (f.offset, ← sizeOf f.type) : Sem (Nat × Nat)))).run P E.w = .ok (fs.toList.map fun f => (f.offset, P.cellsOf f.type)).toArray E.w := by
      rw [Array.mapM_eq_mapM_toList]
      rw [Sem.run_map, hpl, Result.andThen_ok]
     have hfun : (fun (i : Nat) => ((fs.toList.map fun (f : Field) => (f.offset, P.cellsOf f.type)).toArray)[i]?) = (fun (i : Nat) => (fs[i]?).map fun (f : Field) => (f.offset, P.cellsOf f.type)) := by
      funext i; simp
     simp only [Instr.build, Sem.run_bind, hzr, Result.andThen_ok, run_underlying hu, hpl', hfun, hf, Sem.run_pure]
   ·cases h
  ·cases h
 ·cases h
theorem zkN {P : Program} {E : Env} {a : Act} {ev : Operand → AV} (o : Option Operand) (h : ∀ x ∈ o.toArray, VR P E (a.eval x) (ev x)) :
  (∀ y, o.map ev = some y → ∃ u, o.map a.eval = some u ∧ VR P E u y) ∧ (o.map ev = none → o.map a.eval = none) := by
 cases o with
 | none => exact ⟨fun y hy => by simp at hy, fun _ => rfl⟩
 | some x => exact ⟨fun y hy => by simp at hy; subst hy; exact ⟨_, rfl, h x (by simp)⟩, fun h => by simp at h⟩
theorem z35 {P : Program} {w : World} {s : Sem Value} {u : Value} (h : s.run P w = .ok u w) : (do pure (Next.value (← s)) : Sem Next).run P w = .ok (.value u) w := by
 simp only [Sem.run_bind, h, Result.andThen_ok, Sem.run_pure]
theorem z5o {α : Type} {a : Array α} {x : α} (h : a.toList = [x]) : a = #[x] := by cases a; simp at h; simp [h]
theorem ztT {α : Type} {a : Array α} {x y z : α} (h : a.toList = [x, y, z]) : a = #[x, y, z] := by cases a; simp at h; simp [h]
theorem z5p {α : Type} {a : Array α} {x y : α} (h : a.toList = [x, y]) : a = #[x, y] := by cases a; simp at h; simp [h]
set_option maxHeartbeats 1000000 in
theorem zsg {P : Program} {E : Env} {m : Nat → List AV} (hm : zpj P E m) {a : Act} {ev : Operand → AV} {o : Oper} {v : AV} (hev : ∀ x ∈ o.op.operands, VR P E (a.eval x) (ev x))
  (h : yl P ev m o.op = some v) : ∃ u, (execOp a.eval o).run P E.w = .ok (.value u) E.w ∧ VR P E u v := by
 obtain ⟨dst, op, ty, pos, after, guard⟩ := o
 simp only at hev h
 have one : ∀ {s : Sem Value}, (∃ u, s.run P E.w = .ok u E.w ∧ VR P E u v) → ∃ u, (do pure (Next.value (← s)) : Sem Next).run P E.w = .ok (.value u) E.w ∧ VR P E u v :=
  fun ⟨u, hr, hv⟩ => ⟨u, z35 hr, hv⟩
 unfold yl at h
 split at h
 case h_1 x => simp at h; subst h; exact ⟨_, rfl, hev x (by simp [Op.operands])⟩
 case h_2 x => simp at h; subst h; exact ⟨_, rfl, hev x (by simp [Op.operands])⟩
 case h_3 c x y =>
  split at h
  ·rename_i t ht
   have hc := hev c (by simp [Op.operands])
   rw [ht] at hc
   have hc' := z34 hc
   cases h
   refine ⟨if t = true then a.eval x else a.eval y, ?_, ?_⟩
   ·simp only [execOp, Sem.run_bind, hc', asBool, Sem.run_pure, Result.andThen_ok]
   ·cases t
    ·exact hev y (by simp [Op.operands])
    ·exact hev x (by simp [Op.operands])
  ·cases h
 case h_4 op T x y yt =>
  split at h
  ·rename_i hy
   refine one (zpl hy ?_ (hev x (by simp [Op.operands])) h)
   cases y with
   | const z => cases z <;> first | rfl | (cases hy)
   | _ => cases hy
  ·exact one (zpk (hev x (by simp [Op.operands])) (hev y (by simp [Op.operands])) h)
 case h_5 op T x => exact one (zqu (hev x (by simp [Op.operands])) h)
 case h_6 src dst x =>
  split at h
  ·rename_i k k' n hs hd hx
   have hc := hev x (by simp [Op.operands])
   rw [hx] at hc
   have hc' := yE hc
   cases h
   refine one ⟨_, ?_, .c _ _ (.int _ _)⟩
   simp only [convert, Sem.run_bind, run_underlying hs, run_underlying hd, Result.andThen_ok, hc', Conv.intToInt, Sem.run_pure]
  ·cases h
 case h_7 t x => exact one (z7W hm (hev x (by simp [Op.operands])) h)
 case h_8 s x f => exact one (zb8 (hev x (by simp [Op.operands])) h)
 case h_9 t x i => exact one (zkJ (hev x (by simp [Op.operands])) (hev i (by simp [Op.operands])) h)
 case h_10 x =>
  have hx := hev x (by simp [Op.operands])
  split at h
  ·rename_i l off he
   cases h
   rw [he] at hx
   refine ⟨a.eval x, ?_, hx⟩
   generalize hq : a.eval x = q at *
   cases hx
   simp only [execOp, hq, Sem.run_pure]
  ·rename_i xs he
   cases h
   rw [he] at hx
   refine ⟨a.eval x, ?_, hx⟩
   generalize hq : a.eval x = q at *
   cases hx
   simp only [execOp, hq, Sem.run_pure]
  ·cases h
 case h_11 t i =>
  have hx := hev t (by simp [Op.operands])
  split at h
  ·rename_i xs he
   rw [he] at hx
   generalize hq : a.eval t = q at *
   cases hx with
   | tup vs _ hn hr =>
   have hi : i < vs.size := by rw [hn]; exact (List.getElem?_eq_some_iff.1 h).1
   refine one ⟨vs[i], ?_, hr i _ _ (Array.getElem?_eq_getElem hi) h⟩
   simp only [hq, Instr.extract, Array.getElem?_eq_getElem hi, Sem.run_pure]
  ·cases h
 case h_12 t ps =>
  refine one (zkM (by simp) ?_ h)
  intro i p q hp hq
  simp only [List.getElem?_map, Array.getElem?_map, Array.getElem?_toList, Option.map_eq_some_iff] at hp hq
  obtain ⟨r, hr, rfl⟩ := hp
  obtain ⟨r', hr', rfl⟩ := hq
  rw [hr] at hr'
  cases hr'
  exact ⟨rfl, hev _ (by simp only [Op.operands, List.mem_toArray, List.mem_map]; exact ⟨r, by simpa using Array.mem_of_getElem? hr, rfl⟩)⟩
 case h_13 t x lo hi mx =>
  have h1 := zkN (P := P) (E := E) (a := a) (ev := ev) lo (fun y hy => hev y (by simp only [Op.operands, Array.mem_append]; exact .inl (.inl (.inr hy))))
  have h2 := zkN (P := P) (E := E) (a := a) (ev := ev) hi (fun y hy => hev y (by simp only [Op.operands, Array.mem_append]; exact .inl (.inr hy)))
  have h3 := zkN (P := P) (E := E) (a := a) (ev := ev) mx (fun y hy => hev y (by simp only [Op.operands, Array.mem_append]; exact .inr hy))
  exact one (zk6 (hev x (by simp [Op.operands])) h1.1 h1.2 h2.1 h2.2 h3.1 h3.2 h)
 case h_14 c =>
  obtain ⟨callee, args, ts⟩ := c
  unfold zdx at h
  simp only at h
  split at h
  ·split at h
   ·rename_i x t hx ht
    have ha := z5o hx
    have hb := z5o ht
    subst ha hb
    obtain ⟨u, hr, hv⟩ := zpn (ty := ty) (hev x (by simp [Op.operands, Call.operands])) h
    exact ⟨u, by simp [execOp, resolve, invoke, builtin, hr], hv⟩
   ·cases h
  ·split at h
   ·rename_i x t hx ht
    have ha := z5o hx
    have hb := z5o ht
    subst ha hb
    obtain ⟨u, hr, hv⟩ := zpm (ty := ty) (hev x (by simp [Op.operands, Call.operands])) h
    exact ⟨u, by simp [execOp, resolve, invoke, builtin, hr], hv⟩
   ·cases h
  ·split at h
   ·rename_i x y hx
    have ha := z5p hx
    subst ha
    obtain ⟨u, hr, hv⟩ := ziv (ts := ts) (ty := ty) (hev x (by simp [Op.operands, Call.operands])) (hev y (by simp [Op.operands, Call.operands])) h
    simp only [if_true] at hr
    exact ⟨u, by simp [execOp, resolve, invoke, builtin, hr], hv⟩
   ·rename_i x y z hx
    have ha := ztT hx
    subst ha
    have h1 := hev x (by simp [Op.operands, Call.operands])
    have h2 := hev y (by simp [Op.operands, Call.operands])
    have h3 := hev z (by simp [Op.operands, Call.operands])
    unfold ymm3 at h
    split at h
    ·rename_i e1 e2 e3
     rw [e1] at h1
     rw [e2] at h2
     rw [e3] at h3
     have g1 := yE h1
     have g2 := yE h2
     have g3 := yE h3
     cases h
     exact ⟨_, by simp [execOp, resolve, invoke, builtin, Builtin.min_, Builtin.min2, g1, g2, g3], .c _ _ (.int _ _)⟩
    ·cases h
   ·cases h
  ·split at h
   ·rename_i x y hx
    have ha := z5p hx
    subst ha
    obtain ⟨u, hr, hv⟩ := ziv (ts := ts) (ty := ty) (hev x (by simp [Op.operands, Call.operands])) (hev y (by simp [Op.operands, Call.operands])) h
    simp only [Bool.false_eq_true, if_false] at hr
    exact ⟨u, by simp [execOp, resolve, invoke, builtin, hr], hv⟩
   ·cases h
  ·cases h
 case h_15 f first caps =>
  split at h
  ·rename_i hf
   cases h
   have hf' : first = #[] := by simpa using hf
   subst hf'
   refine one ⟨.func (.func f) #[] (caps.map a.eval), by simp [Instr.makeFunc], .fn _ _ _ (by simp) ?_⟩
   intro i v x hv hx
   have hv' : (caps.map a.eval)[i]? = some v := hv
   clear hv
   have hv := hv'
   rw [Array.getElem?_map, Option.map_eq_some_iff] at hv
   rw [List.getElem?_map, Option.map_eq_some_iff, Array.getElem?_toList] at hx
   obtain ⟨r, hr, rfl⟩ := hv
   obtain ⟨r', hr', rfl⟩ := hx
   rw [hr] at hr'
   cases hr'
   exact hev r (by simp only [Op.operands, Array.mem_append]; exact .inr (Array.mem_of_getElem? hr))
  ·cases h
 case h_16 t x i =>
  have h1 := hev x (by simp [Op.operands])
  have h2 := hev i (by simp [Op.operands])
  unfold zhI at h
  split at h
  ·rename_i s k n hx hi
   rw [hx] at h1
   rw [hi] at h2
   split at h
   ·rename_i hu
    rw [Option.map_eq_some_iff] at h
    obtain ⟨b, hb, rfl⟩ := h
    refine one ⟨.int .u8 b.toNat, ?_, .c _ _ (.int _ _)⟩
    have g1 : a.eval x = .string s := by
     generalize a.eval x = q at *
     cases h1 with
     | c _ _ h => cases h; rfl
    have g2 := yE h2
    simp only [Instr.index, g1, g2, Sem.run_bind, j8, Result.andThen_ok, run_underlying hu, hb, Sem.run_pure]
   ·cases h
  ·cases h
 case h_17 => cases h
end Go.Rb
namespace Go.Rb
def zkO (P : Program) (T n : Nat) : Prop :=
 ∀ (op : BinOp) (xs ys : List Int) (xo yo : Operand) (w : World), (op = .eql ∨ op = .neq) → xs.length = n → ys.length = n →
  (do eqGuard op T xo yo (.agg (xs.map (Value.int .i64)).toArray) (.agg (ys.map (Value.int .i64)).toArray)
      binOp op T (.agg (xs.map (Value.int .i64)).toArray) (.agg (ys.map (Value.int .i64)).toArray) : Sem Value).run P w = .ok (.bool (if op = .eql then decide (xs = ys) else !decide (xs = ys))) w
def z9v (P : Program) : Nat → List Field → Bool
 | _, [] => true
 | i, f :: fs => (f.offset == i) && (f.name != "_") && (match P.underlying f.type with | some (.int .i64) => true | _ => false) && z9v P (i + 1) fs
theorem zba {P : Program} {w : World} {e : TypeId} (hu : P.underlying e = some (.int .i64)) {xs : Array Value} {off : Nat} {v : Value} (hx : xs[off]? = some v) : (part e xs off).run P w = .ok v w := by
 simp [part, isAgg, run_underlying hu, hx]
theorem z4J {P : Program} {d : Nat} {w : World} (xs ys : List Int) : ∀ (fs : List Field) (i : Nat), z9v P i fs = true → i + fs.length = xs.length → i + fs.length = ys.length →
  (Op.eqFields (d + 1) (xs.map (Value.int .i64)).toArray (ys.map (Value.int .i64)).toArray fs).run P w = .ok (decide (xs.drop i = ys.drop i)) w
 | [], i, _, hx, hy => by
  simp only [List.length_nil, Nat.add_zero] at hx hy
  rw [List.drop_of_length_le (by omega), List.drop_of_length_le (by omega)]
  simp [Op.eqFields]
 | f :: fs, i, h, hx, hy => by
  simp only [z9v, Bool.and_eq_true, beq_iff_eq, bne_iff_ne] at h
  obtain ⟨⟨⟨h1, h2⟩, h3⟩, h4⟩ := h
  have hu : P.underlying f.type = some (.int .i64) := by
   split at h3
   ·assumption
   ·cases h3
  simp only [List.length_cons] at hx hy
  have hix : i < xs.length := by omega
  have hiy : i < ys.length := by omega
  have ex : (xs.map (Value.int .i64)).toArray[f.offset]? = some (.int .i64 xs[i]) := by
   rw [h1]; simp [List.getElem?_eq_getElem hix]
  have ey : (ys.map (Value.int .i64)).toArray[f.offset]? = some (.int .i64 ys[i]) := by
   rw [h1]; simp [List.getElem?_eq_getElem hiy]
  have ih := z4J (P := P) (d := d) (w := w) xs ys fs (i + 1) h4 (by omega) (by omega)
  rw [List.drop_eq_getElem_cons hix, List.drop_eq_getElem_cons hiy]
  simp only [Op.eqFields, ne_eq, h2, not_false_iff, if_true, Sem.run_bind, zba hu ex, zba hu ey, Result.andThen_ok, run_equalIn_int w d f.type .i64 .i64 xs[i] ys[i] hu]
  by_cases he : xs[i] = ys[i]
  ·simp only [he, beq_self_eq_true, Bool.not_true, Bool.false_eq_true, if_false, List.cons.injEq, true_and]
   exact ih
  ·have hb : (xs[i] == ys[i]) = false := by simpa using he
   simp only [hb, Bool.not_false, if_true, Sem.run_pure, List.cons.injEq, he, false_and, decide_false]
theorem zdY {P : Program} {T n : Nat} {fs : Array Field} (hu : P.underlying T = some (.struct fs)) (hn : fs.size = n) (hf : z9v P 0 fs.toList = true) (hp : P.stoodInHeld T = false) (hm : P.eqGuardType P.depth T = false) : zkO P T n := by
 intro op xs ys xo yo w hop hx hy
 have hfo : P.fieldsOf T = fs := by simp [Program.fieldsOf, hu]
 have he : (Op.equalIn 10000 T (.agg (xs.map (Value.int .i64)).toArray) (.agg (ys.map (Value.int .i64)).toArray)).run P w = .ok (decide (xs = ys)) w := by
  rw [run_equalIn_struct w 9999 T _ _ (by rw [hfo]; exact hu) hp, hfo]
  have := z4J (P := P) (d := 9998) (w := w) xs ys fs.toList 0 hf (by simp; omega) (by simp; omega)
  simpa using this
 rcases hop with rfl | rfl
 ·simp only [Sem.run_bind, run_eqGuard_agg w _ T xo yo _ _ hm, Result.andThen_ok, run_eql_struct, he, if_true]
 ·simp only [Sem.run_bind, run_eqGuard_agg w _ T xo yo _ _ hm, Result.andThen_ok, run_neq_struct, he, reduceCtorEq, if_false]
end Go.Rb
namespace Go.Kx
open Go.Rb
def endO (r : Lib.NumEnd Int) (sat : Int) : Int × Bool := match r with
 | .ok v => (v, false)
 | .range => (sat, true)
 | _ => (0, true)
def wadd (k : IntKind) (a b : Int) : Int := k.wrap (a + b)
def wsub (k : IntKind) (a b : Int) : Int := k.wrap (a - b)
def wmul (k : IntKind) (a b : Int) : Int := k.wrap (a * b)
def wquo (k : IntKind) (a b : Int) : Int := k.wrap (a.tdiv b)
def wrem (a b : Int) : Int := a.tmod b
def wand (k : IntKind) (a b : Int) : Int := k.wrap (BitVec.ofInt k.bits a &&& BitVec.ofInt k.bits b).toNat
def wshl (k : IntKind) (a b : Int) : Int := k.wrap (a * 2 ^ min b.toNat k.bits)
def wshr (k : IntKind) (a b : Int) : Int := a.fdiv (2 ^ min b.toNat k.bits)
def wneg (k : IntKind) (a : Int) : Int := k.wrap (0 - a)
def zvw (k : IntKind) (a : Int) : Int := k.wrap a
def minI (a b : Int) : Int := min a b
def maxI (a b : Int) : Int := max a b
def eqI (a b : Int) : Bool := a == b
def neI (a b : Int) : Bool := a != b
def ltI (a b : Int) : Bool := decide (a < b)
def leI (a b : Int) : Bool := decide (a ≤ b)
def gtI (a b : Int) : Bool := decide (a > b)
def geI (a b : Int) : Bool := decide (a ≥ b)
def eqB (a b : Bool) : Bool := a == b
def notB (b : Bool) : Bool := !b
def eqL (a b : List Int) : Bool := decide (a = b)
def eqS (a b : List UInt8) : Bool := a == b
def catS (a b : List UInt8) : List UInt8 := a ++ b
def Jl (a b : List UInt8) : Bool := decide ((a.length : Int) + b.length ≤ 9223372036854775807)
def lenI {α : Type} (l : List α) : Int := l.length
def atI {α : Type} (l : List α) (n : Int) : Option α := if 0 ≤ n then l[n.toNat]? else none
def atS (s : List UInt8) (n : Int) : Option Int := if 0 ≤ n then (s[n.toNat]?).map fun b => (b.toNat : Int) else none
def atN {α : Type} (l : List α) (n : Nat) : Option α := l[n]?
def setN {α : Type} (l : List α) (n : Nat) (a : α) : List α := l.set n a
def addN (a b : Nat) : Nat := a + b
def natI (a : Int) : Nat := a.toNat
def yF {α : Type} (l : List α) (a : Int) : List α := l.drop a.toNat
def YE {α : Type} (l : List α) (b : Int) : List α := l.take b.toNat
def sliI {α : Type} (l : List α) (a b : Int) : List α := (l.take b.toNat).drop a.toNat
def subN {α : Type} (l : List α) (off len : Nat) : List α := (l.drop off).take len
def cat {α : Type} (a b : List α) : List α := a ++ b
def one {α : Type} (a : α) : List α := [a]
def zK {α : Type} (l : List α) (n : Nat) (new : List α) : List α := l.take n ++ new ++ l.drop (n + new.length)
def inN {α : Type} (l : List α) (off len : Nat) : Bool := decide (off + len ≤ l.length)
def in1 {α : Type} (l : List α) (a : Int) : Bool := decide (0 ≤ a) && decide (a ≤ l.length)
def in2 {α : Type} (l : List α) (a b : Int) : Bool := decide (0 ≤ a) && (decide (a ≤ b) && decide (b ≤ l.length))
def ltL {α : Type} (n : Int) (l : List α) : Bool := decide (0 ≤ n) && decide (n < l.length)
def ltN (n : Int) (c : Nat) : Bool := decide (0 ≤ n) && decide (n < c)
def in1N (c : Nat) (a : Int) : Bool := decide (0 ≤ a) && decide (a ≤ c)
def in2N (c : Nat) (a b : Int) : Bool := decide (0 ≤ a) && (decide (a ≤ b) && decide (b ≤ c))
def intN (a : Nat) : Int := a
def subI (a b : Int) : Nat := b.toNat - a.toNat
def Zh (a : Nat) (b : Int) : Nat := a - b.toNat
def lenN {α : Type} (l : List α) : Nat := l.length
def zh {α : Type} (bytes : Nat) (a b : List α) : Bool := decide ((a.length + b.length + (a.length + b.length) / 4 + 192) * bytes ≤ 281474976710656) && decide (a.length + b.length ≤ 9223372036854775807)
def z3B (bytes : Nat) (n : Int) : Bool := decide (0 ≤ n) && (decide (n * bytes ≤ 140737488355328) && decide (n ≤ 9223372036854775807))
def z1T (bytes : Nat) (n : Int) : Bool := decide (1 ≤ n) && (decide (n * bytes ≤ 140737488355328) && decide (n ≤ 9223372036854775807))
def repI {α : Type} (n : Int) (a : α) : List α := List.replicate n.toNat a
/-! ### Go's library -/
def Yo (n : Int) : Option (List UInt8) := if -9223372036854775808 ≤ n ∧ n ≤ 9223372036854775807 then some (Lib.itoa n) else none
def fmtO (n b : Int) : Option (List UInt8) := if b = 10 ∧ (-9223372036854775808 ≤ n ∧ n ≤ 9223372036854775807) then some (Lib.itoa n) else none
def z9w (s : List UInt8) : Option (Int × Bool) := if s.length ≤ 281474976710656 then some (endO (Lib.atoiAll s) (Lib.atoiSat s)) else none
def z1U (s : List UInt8) (b z : Int) : Option (Int × Bool) := if s.length ≤ 281474976710656 ∧ (b = 10 ∧ z = 64) then some (endO (Lib.parseIntB 64 s) (Lib.intSat 64 s)) else none
def cutO (s sep : List UInt8) : Option (List UInt8 × List UInt8 × Bool) := if s.length < 4294967281 then some (Lib.cut s sep) else none
def z5z (s sep : List UInt8) : Option (List (List UInt8)) := if s.length < 4294967281 ∧ 1 ≤ sep.length then some (Lib.split s sep) else none
def z5q (s sep : List UInt8) (sv n : Int) : Option (List (List UInt8)) := if (s.length < 4294967281 ∧ 1 ≤ sep.length) ∧ (n = -1 ∧ (0 ≤ sv ∧ sv ≤ sep.length)) then some (Lib.splitK sep sv.toNat (Lib.count s sep) s) else none
def sufO (s p : List UInt8) : Option Bool := if s.length ≤ 9223372036854775807 then some (Lib.hasSuffix s p) else none
def z3C (xs : List (List UInt8)) (sep : List UInt8) : Option (List UInt8) := if xs.length ≤ 140737488355328 ∧ (Lib.join xs sep).length ≤ 140737488355328 then some (Lib.join xs sep) else none
def strB (l : List Int) : List UInt8 := l.map fun n => UInt8.ofNat n.toNat
def bytB (s : List UInt8) : List Int := s.map fun b => (b.toNat : Int)
def isE {α : Type} (l : List α) : Bool := l.isEmpty
def in1C (len cap : Nat) (b : Int) : Bool := decide (0 ≤ b) && decide (b ≤ (max len cap : Nat))
def in2C (len cap : Nat) (a b : Int) : Bool := decide (0 ≤ a) && (decide (a ≤ b) && decide (b ≤ (max len cap : Nat)))
def capN (n off : Nat) : Nat := n - off
def fits {α : Type} (len : Nat) (new : List α) (cap : Nat) : Bool := new.isEmpty || decide (len + new.length ≤ cap)
def repN {α : Type} (n : Nat) (a : α) : List α := List.replicate n a
def four {α : Type} (l : List α) : Option (α × α × α × α) :=
 match l with
 | [a, b, c, d] => some (a, b, c, d)
 | _ => none
open Classical in
noncomputable def ambO {α : Type} (a b : Option α) : Option α := if a = b then a else none
def ifB {α : Type} (b : Bool) (x y : α) : α := bif b then x else y
def z6 {α β : Type} (o : Option α) (f : α → Option β) : Option β := Option.bind o f
def mapO {α β : Type} (f : α → β) (o : Option α) : Option β := Option.map f o
def zpo (α β : Type) : Nat → (β → Option (Sum β α)) → β → Option α
 | 0, _, _ => none
 | n + 1, f, x => match f x with
  | none => none
  | some (.inl y) => zpo α β n f y
  | some (.inr a) => some a
theorem zhJ : ∃ g : (α β : Type) → Nat → (β → Option (Sum β α)) → β → Option α, g = zpo := ⟨zpo, rfl⟩
noncomputable def zk {α β : Type} (n : Nat) (f : β → Option (Sum β α)) (x : β) : Option α := Classical.choose zhJ α β n f x
theorem zpp {α β : Type} (f : β → Option (Sum β α)) (x : β) : zk 0 f x = none := by
 unfold zk; rw [Classical.choose_spec zhJ]; rfl
theorem Jm {α β : Type} (n : Nat) (f : β → Option (Sum β α)) (x : β) : zk (n + 1) f x = (match f x with
  | none => none
  | some (.inl y) => zk n f y
  | some (.inr a) => some a) := by
 unfold zk; rw [Classical.choose_spec zhJ]; rfl
def maxR : Nat := 9223372036854775808
end Go.Kx
namespace Go.Kx
open Go.Rb
mutual
inductive CT where
 | int (k : IntKind)
 | bool
 | str
 | sl (e : TypeId) (r : RT)
inductive RT where
 | one (c : CT)
 | cons (c : CT) (r : RT)
end
mutual
def Den : CT → Type
 | .int _ => Int
 | .bool => Bool
 | .str => List UInt8
 | .sl _ r => List (DenR r)
def DenR : RT → Type
 | .one c => Den c
 | .cons c r => Den c × DenR r
end
mutual
def enc : (c : CT) → Den c → C
 | .int k, n => .int k n
 | .bool, b => .bool b
 | .str, s => .str ⟨List.toArray s⟩
 | .sl e r, xs => .sl e (List.map (encR r) xs)
def encR : (r : RT) → DenR r → List C
 | .one c, x => [enc c x]
 | .cons c r, x => enc c (Prod.fst x) :: encR r (Prod.snd x)
end
def RT.size : RT → Nat
 | .one _ => 1
 | .cons _ r => r.size + 1
mutual
def CT.dec : (a b : CT) → Decidable (a = b)
 | .int k, .int k' => if h : k = k' then .isTrue (by rw [h]) else .isFalse (by intro q; cases q; exact h rfl)
 | .bool, .bool => .isTrue rfl
 | .str, .str => .isTrue rfl
 | .sl e r, .sl e' r' => match Nat.decEq e e', RT.dec r r' with
  | .isTrue h, .isTrue h' => .isTrue (by rw [h, h'])
  | .isFalse h, _ => .isFalse (by intro q; cases q; exact h rfl)
  | _, .isFalse h => .isFalse (by intro q; cases q; exact h rfl)
 | .int _, .bool => .isFalse (by intro q; cases q)
 | .int _, .str => .isFalse (by intro q; cases q)
 | .int _, .sl _ _ => .isFalse (by intro q; cases q)
 | .bool, .int _ => .isFalse (by intro q; cases q)
 | .bool, .str => .isFalse (by intro q; cases q)
 | .bool, .sl _ _ => .isFalse (by intro q; cases q)
 | .str, .int _ => .isFalse (by intro q; cases q)
 | .str, .bool => .isFalse (by intro q; cases q)
 | .str, .sl _ _ => .isFalse (by intro q; cases q)
 | .sl _ _, .int _ => .isFalse (by intro q; cases q)
 | .sl _ _, .bool => .isFalse (by intro q; cases q)
 | .sl _ _, .str => .isFalse (by intro q; cases q)
def RT.dec : (a b : RT) → Decidable (a = b)
 | .one c, .one c' => match CT.dec c c' with
  | .isTrue h => .isTrue (by rw [h])
  | .isFalse h => .isFalse (by intro q; cases q; exact h rfl)
 | .cons c r, .cons c' r' => match CT.dec c c', RT.dec r r' with
  | .isTrue h, .isTrue h' => .isTrue (by rw [h, h'])
  | .isFalse h, _ => .isFalse (by intro q; cases q; exact h rfl)
  | _, .isFalse h => .isFalse (by intro q; cases q; exact h rfl)
 | .one _, .cons _ _ => .isFalse (by intro q; cases q)
 | .cons _ _, .one _ => .isFalse (by intro q; cases q)
end
theorem ZW : ∀ (r : RT) (x : DenR r), (encR r x).length = r.size
 | .one _, _ => rfl
 | .cons _ r, x => by show (encR r (Prod.snd x)).length + 1 = _; rw [ZW r]; rfl
inductive RV where
 | d (c : CT) (x : Den c)
 | nils
 | ag (xs : List RV)
 | tup (xs : List RV)
 | arw (l g : Nat) (e : TypeId)
 | ars (l g : Nat) (e : TypeId) (off len : Nat)
 | ptr (l g off : Nat)
 | pel (l g : Nat) (e : TypeId) (i k : Nat)
 | arx (l g : Nat) (e : TypeId) (off len cap : Nat)
 | el (r : RT) (x : DenR r) (o : Nat)
 | fn (f : FuncId) (caps : List RV)
 | ifc (b : Bool)
 | und
 | any
instance : Inhabited RV := ⟨.any⟩
inductive Hd where
 | no (g : Nat)
 | cells (g n cnt : Nat) (e : TypeId)
 | flat (g : Nat) (fr : Bool) (e : TypeId) (r : RT) (rows : List (DenR r))
def Hd.gen : Hd → Nat
 | .no g => g
 | .cells g _ _ _ => g
 | .flat g _ _ _ _ => g
structure KS where
 T : Nat → RV
 H : Nat → Hd
 C : Nat → Nat → RV
def noH : Nat → Hd := fun _ => .no 0
def avW (H : Nat → Hd) (l g : Nat) (e : TypeId) : AV :=
 match H l with
 | .no _ => .any
 | .cells g' n cnt e' => if g = g' ∧ e = e' ∧ cnt ≠ 0 then .arr l 0 cnt cnt e else .any
 | .flat g' fr e' r rows => if g = g' ∧ e = e' then (if fr = true then .c (.sl e (rows.map (encR r))) else .arr l 0 rows.length rows.length e) else .any
def avS (H : Nat → Hd) (l g : Nat) (e : TypeId) (off len : Nat) : AV :=
 match H l with
 | .no _ => .any
 | .cells _ _ _ _ => .any
 | .flat g' fr e' r rows => if g = g' ∧ e = e' then (if fr = true then (if off + len ≤ rows.length then .c (.sl e (((rows.drop off).take len).map (encR r))) else .any) else .arr l (off * r.size) len (rows.length - off) e) else .any
def avP (H : Nat → Hd) (l g off : Nat) : AV :=
 match H l with
 | .cells g' _ _ _ => if g = g' then .ptr l off else .any
 | _ => .any
def avE (H : Nat → Hd) (l g : Nat) (e : TypeId) (i k : Nat) : AV :=
 match H l with
 | .flat g' fr e' r _ => if g = g' ∧ e = e' ∧ fr = false then .ptr l (i * r.size + k) else .any
 | _ => .any
def avX (H : Nat → Hd) (l g : Nat) (e : TypeId) (off len cap : Nat) : AV :=
 match H l with
 | .flat g' fr e' r _ => if g = g' ∧ e = e' ∧ fr = false then .arx l (off * r.size) len cap e else .any
 | _ => .any
def av0 (H : Nat → Hd) : RV → AV
 | .d c x => .c (enc c x)
 | .nils => .nils
 | .arw l g e => avW H l g e
 | .ars l g e off len => avS H l g e off len
 | .ptr l g off => avP H l g off
 | .pel l g e i k => avE H l g e i k
 | .arx l g e off len cap => avX H l g e off len cap
 | .el r x o => .el ((encR r x).drop o)
 | .ifc b => .ifc b
 | .und => .und
 | _ => .any
def AV.isAny : AV → Bool
 | .any => true
 | _ => false
def av1 (H : Nat → Hd) : RV → AV
 | .fn f caps => if (caps.map (av0 H)).any AV.isAny then .any else .fn f (caps.map (av0 H))
 | x => av0 H x
def av2 (H : Nat → Hd) : RV → AV
 | .ag xs => .agg (xs.map (av1 H))
 | x => av1 H x
def av3 (H : Nat → Hd) : RV → AV
 | .tup xs => .tup (xs.map (av2 H))
 | x => av2 H x
def KS.m (σ : KS) (l : Nat) : List AV :=
 match σ.H l with
 | .no _ => []
 | .cells _ n _ _ => (List.range n).map fun j => av1 σ.H (σ.C l j)
 | .flat _ fr _ r rows => if fr = true then [] else (rows.map (encR r)).flatten.map .c
end Go.Kx
namespace Go.Kx
open Go.Rb
inductive Key where
 | T (i : Nat)
 | H (l : Nat)
 | C (l j : Nat)
def Key.beq : Key → Key → Bool
 | .T i, .T j => Nat.beq i j
 | .H i, .H j => Nat.beq i j
 | .C i k, .C j m => Nat.beq i j && Nat.beq k m
 | _, _ => false
theorem Key.beq_iff (a b : Key) : a.beq b = true ↔ a = b := by
 cases a <;> cases b <;> simp [Key.beq]
inductive Sl where
 | rv (x : RV)
 | hd (h : Hd)
def KS.lk (σ : KS) : Key → Sl
 | .T i => .rv (σ.T i)
 | .H l => .hd (σ.H l)
 | .C l j => .rv (σ.C l j)
def Sl.rv! : Sl → RV
 | .rv x => x
 | .hd _ => .any
def Sl.hd! : Sl → Hd
 | .rv _ => .no 0
 | .hd h => h
def KS.put (σ : KS) (k : Key) (s : Sl) : KS :=
 match k with
 | .T i => { σ with T := fun j => bif Nat.beq j i then s.rv! else σ.T j }
 | .H l => { σ with H := fun j => bif Nat.beq j l then s.hd! else σ.H j }
 | .C l j => { σ with C := fun a b => bif Nat.beq a l && Nat.beq b j then s.rv! else σ.C a b }
def KS.puts (σ : KS) : List (Key × Sl) → KS
 | [] => σ
 | (k, s) :: ws => (σ.put k s).puts ws
inductive Rdr (α : Type) : Type 1 where
 | ret (a : α)
 | fail
 | get (k : Key) (f : Sl → Rdr α)
 | test (b : Bool) (p q : Rdr α)
 | ask {β : Type} (o : Option β) (f : β → Rdr α)
namespace Rdr
variable {α β : Type}
def bind : Rdr α → (α → Rdr β) → Rdr β
 | .ret a, g => g a
 | .fail, _ => .fail
 | .get k f, g => .get k fun s => bind (f s) g
 | .test b p q, g => .test b (bind p g) (bind q g)
 | .ask o f, g => .ask o fun y => bind (f y) g
def run (σ : KS) : Rdr α → Option α
 | .ret a => some a
 | .fail => none
 | .get k f => run σ (f (σ.lk k))
 | .test b p q => bif b then run σ p else run σ q
 | .ask o f => match o with | some y => run σ (f y) | none => none
def keys (σ : KS) : Rdr α → List Key
 | .ret _ => []
 | .fail => []
 | .get k f => k :: keys σ (f (σ.lk k))
 | .test b p q => bif b then keys σ p else keys σ q
 | .ask o f => match o with | some y => keys σ (f y) | none => []
def runK {γ : Type} (σ : KS) : Rdr α → (α → Option γ) → Option γ
 | .ret a, K => K a
 | .fail, _ => none
 | .get k f, K => runK σ (f (σ.lk k)) K
 | .test b p q, K => ifB b (runK σ p K) (runK σ q K)
 | .ask o f, K => z6 o fun y => runK σ (f y) K
def runT {γ : Type} (σ : KS) : Rdr α → List Key → (α → List Key → Option γ) → Option γ
 | .ret a, acc, K => K a acc
 | .fail, _, _ => none
 | .get k f, acc, K => runT σ (f (σ.lk k)) (k :: acc) K
 | .test b p q, acc, K => ifB b (runT σ p acc K) (runT σ q acc K)
 | .ask o f, acc, K => z6 o fun y => runT σ (f y) acc K
theorem run_bind (σ : KS) (g : α → Rdr β) : ∀ p : Rdr α, run σ (bind p g) = Option.bind (run σ p) fun a => run σ (g a)
 | .ret a => rfl
 | .fail => rfl
 | .get k f => run_bind σ g (f _)
 | .test b p q => by cases b <;> simp only [bind, run, cond] <;> exact run_bind σ g _
 | .ask o f => by cases o <;> simp only [bind, run] ; rfl; exact run_bind σ g _
theorem runK_eq {γ : Type} (σ : KS) (K : α → Option γ) : ∀ p : Rdr α, runK σ p K = Option.bind (run σ p) K
 | .ret a => rfl
 | .fail => rfl
 | .get k f => runK_eq σ K (f _)
 | .test b p q => by cases b <;> simp only [runK, run, ifB, cond] <;> exact runK_eq σ K _
 | .ask o f => by cases o <;> simp only [runK, run, z6] ; rfl; exact runK_eq σ K _
theorem runT_eq {γ : Type} (σ : KS) (K : α → List Key → Option γ) : ∀ (p : Rdr α) (acc : List Key), runT σ p acc K = Option.bind (run σ p) fun a => K a ((keys σ p).reverse ++ acc)
 | .ret a, acc => rfl
 | .fail, acc => rfl
 | .get k f, acc => by simp only [runT, run, keys, List.reverse_cons, List.append_assoc, List.singleton_append]; exact runT_eq σ K (f _) _
 | .test b p q, acc => by cases b <;> simp only [runT, run, keys, ifB, cond] <;> exact runT_eq σ K _ _
 | .ask o f, acc => by cases o <;> simp only [runT, run, keys, z6] ; rfl; exact runT_eq σ K _ _
theorem run_congr {σ σ' : KS} : ∀ p : Rdr α, (∀ k ∈ keys σ p, σ'.lk k = σ.lk k) → run σ' p = run σ p ∧ keys σ' p = keys σ p
 | .ret a, _ => ⟨rfl, rfl⟩
 | .fail, _ => ⟨rfl, rfl⟩
 | .get k f, h => by
  simp only [run, keys] at h ⊢
  have h0 := h k List.mem_cons_self
  rw [h0]
  obtain ⟨h1, h2⟩ := run_congr (f (σ.lk k)) fun k' hk => h k' (List.mem_cons_of_mem _ hk)
  exact ⟨h1, by rw [h2]⟩
 | .test b p q, h => by
  cases b
  ·exact run_congr q h
  ·exact run_congr p h
 | .ask o f, h => by
  cases o with
  | none => exact ⟨rfl, rfl⟩
  | some y => exact run_congr (f y) h
end Rdr
theorem zdy (σ : KS) (i j : Nat) (s : Sl) : (σ.put (.T i) s).T j = if j = i then s.rv! else σ.T j := by
 show (bif Nat.beq j i then _ else _) = _
 by_cases h : j = i
 ·subst h; simp
 ·have : Nat.beq j i = false := by cases hb : Nat.beq j i; rfl; exact absurd (Nat.eq_of_beq_eq_true hb) h
  rw [this, if_neg h]; rfl
def Key.hd : Key → Bool
 | .H _ => true
 | _ => false
theorem nbeq (j i : Nat) : Nat.beq j i = decide (j = i) := by
 by_cases h : j = i
 ·subst h; simp
 ·cases hb : Nat.beq j i
  ·simp [h]
  ·exact absurd (Nat.eq_of_beq_eq_true hb) h
end Go.Kx
namespace Go.Kx
open Go.Rb
/-! ### What is known of types -/
inductive TK where
 | int (k : IntKind)
 | bool
 | str
 | sl (e : TypeId)
 | st (fs : List (Nat × Nat))
 | ifc
 | mp
 | other
structure TD where
 k : TK
 cells : Nat
 bytes : Nat
 rt : Option RT
abbrev TT := Nat → Option TD
/-! ### Operands -/
def cvR1 : Value → RV
 | .int k n => .d (.int k) n
 | .bool b => .d .bool b
 | .string s => .d .str s.data.toList
 | .slice none 0 0 => .nils
 | .nilIface => .ifc false
 | _ => .any
def cvR : Value → RV
 | .agg vs => if vs.all (·.oneCell') then .ag (vs.toList.map cvR1) else .any
 | v => cvR1 v
def evR (o : Operand) : Rdr RV :=
 match o with
 | .tmp i => .get (.T i) fun s => .ret s.rv!
 | .const v => .ret (cvR v)
 | .func f => .ret (.fn f [])
 | .global _ => .ret .any
def evS (σ : KS) : Operand → RV
 | .tmp i => σ.T i
 | .const v => cvR v
 | .func f => .fn f []
 | .global _ => .any
theorem Zp (σ : KS) (o : Operand) : Rdr.run σ (evR o) = some (evS σ o) := by cases o <;> rfl
/-! ### Rows of cells -/
def zV : (r : RT) → DenR r → List RV
 | .one c, x => [.d c x]
 | .cons c r, x => .d c (Prod.fst x) :: zV r (Prod.snd x)
def zero : (c : CT) → Den c
 | .int _ => (0 : Int)
 | .bool => false
 | .str => ([] : List UInt8)
 | .sl _ _ => []
def yZ : (r : RT) → DenR r
 | .one c => zero c
 | .cons c r => (zero c, yZ r)
def Y0 : RT → List RV
 | .one (.sl _ _) => [.nils]
 | .one c => [.d c (zero c)]
 | .cons (.sl _ _) r => .nils :: Y0 r
 | .cons c r => .d c (zero c) :: Y0 r
def asD (c : CT) (x : RV) : Option (Den c) :=
 match x with
 | .d c' y => match CT.dec c' c with
  | .isTrue h => some (h ▸ y)
  | .isFalse _ => none
 | .nils => match c with
  | .sl _ _ => some []
  | _ => none
 | _ => none
def zfL {α β : Type} (a : Option α) (b : Option β) : Option (α × β) :=
 match a with
 | some x => match b with
  | some y => some (x, y)
  | none => none
 | none => none
def asR1 (c : CT) : List RV → Option (Den c)
 | [x] => asD c x
 | _ => none
def asRC {β : Type} (c : CT) (f : List RV → Option β) : List RV → Option (Den c × β)
 | x :: xs => zfL (asD c x) (f xs)
 | [] => none
def asR : (r : RT) → List RV → Option (DenR r)
 | .one c => asR1 c
 | .cons c r => asRC c (asR r)
theorem ztU (c : CT) : asR (.one c) = asR1 c := rfl
theorem zkP (c : CT) (r : RT) : asR (.cons c r) = asRC c (asR r) := rfl
theorem zpq {α β : Type} {a : Option α} {b : Option β} {y : α × β} (h : zfL a b = some y) : a = some y.1 ∧ b = some y.2 := by
 cases a <;> cases b <;> simp [zfL] at h
 subst h; exact ⟨rfl, rfl⟩
/-! ### Numbers -/
def ibR (op : BinOp) (k : IntKind) (a b : Int) : Rdr RV :=
 match op with
 | .add => .ret (.d (.int k) (wadd k a b))
 | .sub => .ret (.d (.int k) (wsub k a b))
 | .mul => .ret (.d (.int k) (wmul k a b))
 | .quo => .test (eqI b 0) .fail (.ret (.d (.int k) (wquo k a b)))
 | .rem => .test (eqI b 0) .fail (.ret (.d (.int k) (wrem a b)))
 | .and => .ret (.d (.int k) (wand k a b))
 | .eql => .ret (.d .bool (eqI a b))
 | .neq => .ret (.d .bool (neI a b))
 | .lss => .ret (.d .bool (ltI a b))
 | .leq => .ret (.d .bool (leI a b))
 | .gtr => .ret (.d .bool (gtI a b))
 | .geq => .ret (.d .bool (geI a b))
 | .shl => .test (ltI b 0) .fail (.ret (.d (.int k) (wshl k a b)))
 | .shr => .test (ltI b 0) .fail (.ret (.d (.int k) (wshr k a b)))
 | _ => .fail
def z0U : List RV → Option (List Int)
 | [] => some []
 | .d (.int .i64) n :: xs => (z0U xs).map (n :: ·)
 | _ => none
def binR (T : TT) (op : BinOp) (t : TypeId) (x y : RV) : Rdr RV :=
 match x, y with
 | .d (.int k) a, .d (.int k') b => if z8y op = true ∨ k = k' then ibR op k a b else .fail
 | .d .bool a, .d .bool b => match T t with
  | some ⟨.bool, _, _, _⟩ => match op with
   | .eql => .ret (.d .bool (eqB a b))
   | .neq => .ret (.d .bool (notB (eqB a b)))
   | _ => .fail
  | _ => .fail
 | .d .str a, .d .str b => match op with
  | .add => .test (Jl a b) (.ret (.d .str (catS a b))) .fail
  | .eql => .ret (.d .bool (eqS a b))
  | .neq => .ret (.d .bool (notB (eqS a b)))
  | _ => .fail
 | .ag xs, .ag ys => match z0U xs, z0U ys, T t with
  | some a, some b, some ⟨.st _, n, _, some r⟩ => if a.length = n ∧ b.length = n ∧ (z0U (Y0 r)).isSome = true then match op with
    | .eql => .ret (.d .bool (eqL a b))
    | .neq => .ret (.d .bool (notB (eqL a b)))
    | _ => .fail
   else .fail
  | _, _, _ => .fail
 | _, _ => .fail
def ifcR (T : TT) (op : BinOp) (t : TypeId) (x : RV) : Rdr RV :=
 match T t, x, op with
 | some ⟨.ifc, _, _, _⟩, .ifc a, .eql => .ret (.d .bool (notB a))
 | some ⟨.ifc, _, _, _⟩, .ifc a, .neq => .ret (.d .bool a)
 | _, _, _ => .fail
def unR (op : UnOp) (x : RV) : Rdr RV :=
 match op, x with
 | .not, .d .bool b => .ret (.d .bool (notB b))
 | .neg, .d (.int k) n => .ret (.d (.int k) (wneg k n))
 | _, _ => .fail
def vld0 (x : RV) : Rdr Unit :=
 match x with
 | .d _ _ => .ret ()
 | .nils => .ret ()
 | .el _ _ _ => .ret ()
 | .arw l g e => .get (.H l) fun s => match s.hd! with
  | .no _ => .fail
  | .cells g' _ cnt e' => if g = g' ∧ e = e' ∧ cnt ≠ 0 then .ret () else .fail
  | .flat g' _ e' _ _ => if g = g' ∧ e = e' then .ret () else .fail
 | .ars l g e off len => .get (.H l) fun s => match s.hd! with
  | .no _ => .fail
  | .cells _ _ _ _ => .fail
  | .flat g' fr e' _ rows => if g = g' ∧ e = e' then .test (!fr || inN rows off len) (.ret ()) .fail else .fail
 | .ptr l g _ => .get (.H l) fun s => match s.hd! with
  | .cells g' _ _ _ => if g = g' then .ret () else .fail
  | _ => .fail
 | .pel l g e _ _ => .get (.H l) fun s => match s.hd! with
  | .flat g' fr e' _ _ => if g = g' ∧ e = e' ∧ fr = false then .ret () else .fail
  | _ => .fail
 | _ => .fail
def vldL : List RV → Rdr Unit
 | [] => .ret ()
 | x :: xs => Rdr.bind (vld0 x) fun _ => vldL xs
def vld1 (x : RV) : Rdr Unit :=
 match x with
 | .fn _ caps => vldL caps
 | x => vld0 x
def vldM : List RV → Rdr Unit
 | [] => .ret ()
 | x :: xs => Rdr.bind (vld1 x) fun _ => vldM xs
def z3N (x : RV) : Rdr (List RV) :=
 match x with
 | .ag xs => Rdr.bind (vldM xs) fun _ => .ret xs
 | x => Rdr.bind (vld1 x) fun _ => .ret [x]
def RV.isCell : RV → Bool
 | .ag _ | .tup _ => false
 | _ => true
def zkA (x : RV) : Rdr RV := if x.isCell = true then .ret x else .fail
def z5A (agg : Bool) (n o : Nat) (xs : List RV) : Option RV :=
 if agg = true then (if o + n ≤ xs.length then some (.ag ((xs.drop o).take n)) else none) else xs[o]?
def TD.agg (d : TD) : Option Bool := match d.k with
 | .st _ => some true
 | .other => none
 | .ifc => none
 | .mp => none
 | _ => some false
/-! ### Cells of blocks -/
def z8B (l off : Nat) : Nat → Rdr (List RV)
 | 0 => .ret []
 | n + 1 => .get (.C l off) fun s => Rdr.bind (z8B l (off + 1) n) fun xs => .ret (s.rv! :: xs)
def optR {α : Type} : Option α → Rdr α
 | some x => .ret x
 | none => .fail
def zfM (T : TT) (t : TypeId) (x : RV) : Rdr RV :=
 match T t with
 | none => .fail
 | some d => match d.agg with
  | none => .fail
  | some ag => match x with
   | .ptr l g off => .get (.H l) fun s => match s.hd! with
    | .cells g' n _ _ => if g = g' ∧ off + d.cells ≤ n ∧ 0 < d.cells then (if ag = true then Rdr.bind (z8B l off d.cells) fun xs => .ret (.ag xs) else .get (.C l off) fun s => zkA s.rv!) else .fail
    | _ => .fail
   | .pel l g e i k => .get (.H l) fun s => match s.hd! with
    | .flat g' false e' r rows => if g = g' ∧ e = e' then .ask (atN rows i) fun y => optR (z5A ag d.cells k (zV r y)) else .fail
    | _ => .fail
   | .el r y o => optR (z5A ag d.cells o (zV r y))
   | _ => .fail
def zfN (T : TT) (t : TypeId) (x : RV) (f : Nat) : Rdr RV :=
 match T t with
 | some ⟨.st fs, _, _, _⟩ => match fs[f]? with
  | some (o, n) => if n = 0 then .fail else match x with
   | .ptr l g off => Rdr.bind (vld0 (.ptr l g off)) fun _ => .ret (.ptr l g (off + o))
   | .pel l g e i k => Rdr.bind (vld0 (.pel l g e i k)) fun _ => .ret (.pel l g e i (k + o))
   | .el r y k => .ret (.el r y (k + o))
   | _ => .fail
  | none => .fail
 | _ => .fail
def zfO (n : Int) (f : Nat → RV) : Nat → Nat → Rdr RV
 | 0, _ => .fail
 | c + 1, j => .test (eqI n (j : Int)) (.ret (f j)) (zfO n f c (j + 1))
def zkQ (T : TT) (t : TypeId) (x i : RV) : Rdr RV :=
 match T t, i with
 | some ⟨.sl e, _, _, _⟩, .d (.int _) n => match x with
  | .d (.sl e' r) rows => if e = e' then .ask (atI (α := DenR r) rows n) fun y => .ret (.el r y 0) else .fail
  | .arw l g e' => .get (.H l) fun s => match s.hd! with
   | .flat g' fr e2 r rows => if g = g' ∧ e = e' ∧ e = e2 then
     (if fr = true then .ask (atI rows n) fun y => .ret (.el r y 0) else .test (ltL n rows) (.ret (.pel l g e (natI n) 0)) .fail) else .fail
   | .cells g' m cnt e2 => if g = g' ∧ e = e' ∧ e = e2 then zfO n (fun j => .ptr l g (j * (m / cnt))) cnt 0 else .fail
   | .no _ => .fail
  | .ars l g e' off len => .get (.H l) fun s => match s.hd! with
   | .flat g' fr e2 r rows => if g = g' ∧ e = e' ∧ e = e2 then
     (if fr = true then .test (inN rows off len) (.ask (atI (subN rows off len) n) fun y => .ret (.el r y 0)) .fail else .test (ltN n len) (.ret (.pel l g e (addN off (natI n)) 0)) .fail) else .fail
   | _ => .fail
  | _ => .fail
 | _, _ => .fail
def Yp : Option RV → Option (Option Int)
 | none => some none
 | some (.d (.int _) n) => some (some n)
 | _ => none
def Jn {α : Type} (l : List α) : Option Int → Option Int → Bool
 | none, none => true
 | some a, none => in1 l a
 | none, some b => in1 l b
 | some a, some b => in2 l a b
def z3D {α : Type} (l : List α) : Option Int → Option Int → List α
 | none, none => l
 | some a, none => yF l a
 | none, some b => YE l b
 | some a, some b => sliI l a b
def zkB (len : Nat) : Option Int → Option Int → Bool
 | none, none => true
 | some a, none => in1N len a
 | none, some b => in1N len b
 | some a, some b => in2N len a b
def z9x (len cap : Nat) : Option Int → Option Int → Bool
 | none, none => true
 | some a, none => in1N len a
 | none, some b => in1C len cap b
 | some a, some b => in2C len cap a b
def z9y (off : Nat) : Option Int → Nat
 | none => off
 | some a => addN off (natI a)
def zdz (len : Nat) : Option Int → Option Int → Nat
 | none, none => len
 | some a, none => Zh len a
 | none, some b => natI b
 | some a, some b => subI a b
def zkR (T : TT) (t : TypeId) (x : RV) (lo hi : Option RV) : Rdr RV :=
 match Yp lo, Yp hi with
 | some a, some b => match T t with
  | some ⟨.sl e, _, _, _⟩ => match x with
   | .d (.sl e' r) rows => if e = e' then .test (Jn (α := DenR r) rows a b) (.ret (.d (.sl e' r) (z3D (α := DenR r) rows a b))) .fail else .fail
   | .arw l g e' => .get (.H l) fun s => match s.hd! with
    | .flat g' fr e2 r rows => if g = g' ∧ e = e' ∧ e = e2 then .test (Jn rows a b) (if fr = true then .ret (.d (.sl e r) (z3D rows a b)) else .ret (.ars l g e (z9y 0 a) (zdz (lenN rows) a b))) .fail else .fail
    | _ => .fail
   | .ars l g e' off len => .get (.H l) fun s => match s.hd! with
    | .flat g' false e2 r rows => if g = g' ∧ e = e' ∧ e = e2 then .test (z9x len (capN (lenN rows) off) a b) (.ret (.ars l g e (z9y off a) (zdz len a b))) .fail else .fail
    | _ => .fail
   | .nils => match T e with
    | some ⟨_, _, _, some r⟩ => .test (zkB 0 a b) (.ret (.d (.sl e r) [])) .fail
    | _ => .fail
   | _ => .fail
  | some ⟨.str, _, _, _⟩ => match x with
   | .d .str s => .test (Jn (α := UInt8) s a b) (.ret (.d .str (z3D (α := UInt8) s a b))) .fail
   | _ => .fail
  | _ => .fail
 | _, _ => .fail
def zhK (T : TT) (t : TypeId) (x lo hi mx : RV) : Rdr RV :=
 match T t, x, lo, hi, mx with
 | some ⟨.sl e, _, _, _⟩, .arw l g e', .d (.int _) a, .d (.int _) b, .d (.int _) m => .get (.H l) fun s => match s.hd! with
  | .flat g' false e2 _ rows => if g = g' ∧ e = e' ∧ e = e2 then .test (in2 rows a b && eqI m (lenI rows)) (.ret (.arx l g e (natI a) (subI a b) (capN (lenN rows) (natI a)))) .fail else .fail
  | _ => .fail
 | _, _, _, _, _ => .fail
def lenR (T : TT) (t : TypeId) (x : RV) : Rdr RV :=
 match T t with
 | some ⟨.sl e, _, _, _⟩ => match x with
  | .d (.sl e' r) rows => if e = e' then .ret (.d (.int .i64) (lenI (α := DenR r) rows)) else .fail
  | .nils => .ret (.d (.int .i64) (0 : Int))
  | .arw l g e' => .get (.H l) fun s => match s.hd! with
   | .flat g' _ e2 _ rows => if g = g' ∧ e = e' ∧ e = e2 then .ret (.d (.int .i64) (lenI rows)) else .fail
   | .cells g' _ cnt e2 => if g = g' ∧ e = e' ∧ e = e2 ∧ cnt ≠ 0 then .ret (.d (.int .i64) (cnt : Int)) else .fail
   | .no _ => .fail
  | .ars l g e' off len => .get (.H l) fun s => match s.hd! with
   | .flat g' fr e2 _ rows => if g = g' ∧ e = e' ∧ e = e2 then .test (!fr || inN rows off len) (.ret (.d (.int .i64) (if fr = true then lenI (subN rows off len) else intN len))) .fail else .fail
   | _ => .fail
  | _ => .fail
 | some ⟨.str, _, _, _⟩ => match x with
  | .d .str s => .ret (.d (.int .i64) (lenI (α := UInt8) s))
  | _ => .fail
 | _ => .fail
def VN (z : List RV) (off : Nat) (cs : List RV) : List RV := z.take off ++ cs ++ z.drop (off + cs.length)
def zkC (fs : List (Nat × Nat)) : List RV → List (Nat × RV) → Rdr (List RV)
 | z, [] => .ret z
 | z, (i, x) :: rest =>
  match fs[i]? with
  | some (off, size) => Rdr.bind (z3N x) fun cs => if cs.length = size ∧ off + cs.length ≤ z.length then zkC fs (VN z off cs) rest else .fail
  | none => .fail
def evL : List Operand → Rdr (List RV)
 | [] => .ret []
 | o :: os => Rdr.bind (evR o) fun x => Rdr.bind (evL os) fun xs => .ret (x :: xs)
def evP : List (Nat × Operand) → Rdr (List (Nat × RV))
 | [] => .ret []
 | (i, o) :: os => Rdr.bind (evR o) fun x => Rdr.bind (evP os) fun xs => .ret ((i, x) :: xs)
def zdA : Option Operand → Rdr (Option RV)
 | none => .ret none
 | some o => Rdr.bind (evR o) fun x => .ret (some x)
def zkS (T : TT) (t : TypeId) (ps : List (Nat × RV)) : Rdr RV :=
 match T t with
 | some ⟨.st fs, _, _, some r⟩ => Rdr.bind (zkC fs (Y0 r) ps) fun z => .ret (.ag z)
 | _ => .fail
def mmR (mn : Bool) (x y : RV) : Rdr RV :=
 match x, y with
 | .d (.int k) a, .d (.int _) b => .ret (.d (.int k) (if mn = true then minI a b else maxI a b))
 | _, _ => .fail
def rdR (T : TT) (op : Op) : Rdr RV :=
 match op with
 | .move x => evR x
 | .assign x => evR x
 | .pick c a b => Rdr.bind (evR c) fun c => match c with
  | .d .bool t => .test t (evR a) (evR b)
  | _ => .fail
 | .binOp op t x y _ => if Operand.isNilI y = true then Rdr.bind (evR x) fun x => ifcR T op t x else Rdr.bind (evR x) fun x => Rdr.bind (evR y) fun y => binR T op t x y
 | .unOp op _ x => Rdr.bind (evR x) fun x => unR op x
 | .convert src dst x => Rdr.bind (evR x) fun x => match T src, T dst, x with
  | some ⟨.int _, _, _, _⟩, some ⟨.int k, _, _, _⟩, .d (.int _) n => .ret (.d (.int k) (zvw k n))
  | _, _, _ => .fail
 | .load t a => Rdr.bind (evR a) fun a => zfM T t a
 | .fieldAddr s x f => Rdr.bind (evR x) fun x => zfN T s x f
 | .indexAddr t x i => Rdr.bind (evR x) fun x => Rdr.bind (evR i) fun i => zkQ T t x i
 | .index t x i => Rdr.bind (evR x) fun x => Rdr.bind (evR i) fun i => match T t, x, i with
  | some ⟨.str, _, _, _⟩, .d .str s, .d (.int _) n => .ask (atS s n) fun b => .ret (.d (.int .u8) b)
  | _, _, _ => .fail
 | .nilCheck x => Rdr.bind (evR x) fun x => match x with
  | .ptr l g off => .get (.H l) fun s => match s.hd! with
   | .cells g' _ _ _ => if g = g' then .ret (.ptr l g off) else .fail
   | _ => .fail
  | .pel l g e i k => Rdr.bind (vld0 (.pel l g e i k)) fun _ => .ret (.pel l g e i k)
  | .el r y o => .ret (.el r y o)
  | _ => .fail
 | .extract t i => Rdr.bind (evR t) fun t => match t with
  | .tup xs => match xs[i]? with
   | some (.tup _) => .fail
   | some x => .ret x
   | none => .fail
  | _ => .fail
 | .build t ps => Rdr.bind (evP ps.toList) fun ps => zkS T t ps
 | .slice t x lo hi none => Rdr.bind (evR x) fun x => Rdr.bind (zdA lo) fun lo => Rdr.bind (zdA hi) fun hi => zkR T t x lo hi
 | .slice t x (some lo) (some hi) (some mx) => Rdr.bind (evR x) fun x => Rdr.bind (evR lo) fun lo => Rdr.bind (evR hi) fun hi => Rdr.bind (evR mx) fun mx => zhK T t x lo hi mx
 | .makeFunc (.func f) first caps => if first.isEmpty = true then Rdr.bind (evL caps.toList) fun xs => Rdr.bind (vldL xs) fun _ => .ret (.fn f xs) else .fail
 | .call ⟨.builtin .len, args, ts⟩ => match args.toList, ts.toList with
  | [x], [t] => Rdr.bind (evR x) fun x => lenR T t x
  | _, _ => .fail
 | .call ⟨.builtin .cap, args, ts⟩ => match args.toList, ts.toList with
  | [x], [t] => Rdr.bind (evR x) fun x => match x, T t with
   | .nils, some ⟨.sl _, _, _, _⟩ => .ret (.d (.int .i64) (0 : Int))
   | _, _ => .fail
  | _, _ => .fail
 | .call ⟨.builtin .min, args, _⟩ => match args.toList with
  | [x, y] => Rdr.bind (evR x) fun x => Rdr.bind (evR y) fun y => mmR true x y
  | _ => .fail
 | .call ⟨.builtin .max, args, _⟩ => match args.toList with
  | [x, y] => Rdr.bind (evR x) fun x => Rdr.bind (evR y) fun y => mmR false x y
  | _ => .fail
 | _ => .fail
end Go.Kx
namespace Go.Kx
open Go.Rb
abbrev Ws := List (Key × Sl)
abbrev Spec := Nat → List RV → Rdr (RV × Ws)
/-! ### Freezing -/
def frz0 (x : RV) : Rdr (RV × Ws) :=
 match x with
 | .arw l g e => .get (.H l) fun s => match s.hd! with
  | .flat g' fr e' r rows => if g = g' ∧ e = e' then .ret (.d (.sl e' r) rows, if fr = true then [] else [(.H l, .hd (.flat g' true e' r rows))]) else .fail
  | _ => .fail
 | .ars l g e off len => .get (.H l) fun s => match s.hd! with
  | .flat g' fr e' r rows => if g = g' ∧ e = e' then .test (inN rows off len) (.ret (.d (.sl e' r) (subN rows off len), if fr = true then [] else [(.H l, .hd (.flat g' true e' r rows))])) .fail else .fail
  | _ => .fail
 | x => .ret (x, [])
def frzL : List RV → Rdr (List RV × Ws)
 | [] => .ret ([], [])
 | x :: xs => Rdr.bind (frz0 x) fun q => Rdr.bind (frzL xs) fun p => .ret (q.1 :: p.1, q.2 ++ p.2)
def zfP (r : RT) : Nat → List RV → Option (List (DenR r))
 | 0, _ => some []
 | n + 1, xs => match asR r (xs.take r.size), zfP r n (xs.drop r.size) with
  | some y, some ys => some (y :: ys)
  | _, _ => none
def frz1 (x : RV) : Rdr (RV × Ws) :=
 match x with
 | .ag xs => Rdr.bind (frzL xs) fun q => .ret (.ag q.1, q.2)
 | x => frz0 x
def putL (l : Nat) : Nat → List RV → Ws
 | _, [] => []
 | j, x :: xs => (.C l j, .rv x) :: putL l (j + 1) xs
/-! ### New blocks -/
def zbb {α : Type} : Nat → Nat → (Nat → Nat → Rdr α) → Rdr α
 | 0, _, _ => .fail
 | n + 1, d, f => .get (.H d) fun s => match s.hd! with
  | .no g => f d g
  | _ => zbb n (d + 1000000) f
def newR (d n cnt : Nat) (e : TypeId) (zs : List RV) : Rdr ((Nat × Nat) × Ws) :=
 zbb 12 d fun l g => .ret ((l, g + 1), (.H l, .hd (.cells (g + 1) n cnt e)) :: putL l 0 zs)
def newF (d : Nat) (e : TypeId) (r : RT) (rows : List (DenR r)) : Rdr (RV × Ws) :=
 zbb 12 d fun l g => .ret (.arw l (g + 1) e, [(.H l, .hd (.flat (g + 1) false e r rows))])
def z4W (e : TypeId) (r : RT) (x : RV) : Rdr (List (DenR r)) :=
 match x with
 | .d c y => optR (asD (.sl e r) (.d c y))
 | .nils => .ret []
 | .arw l g e' => .get (.H l) fun s => match s.hd! with
  | .flat g' _ e2 r' rows => if g = g' ∧ e = e' ∧ e = e2 then optR (asD (.sl e r) (.d (.sl e2 r') rows)) else .fail
  | _ => .fail
 | .ars l g e' off len => .get (.H l) fun s => match s.hd! with
  | .flat g' _ e2 r' rows => if g = g' ∧ e = e' ∧ e = e2 then .test (inN rows off len) (optR (asD (.sl e r) (.d (.sl e2 r') (subN rows off len)))) .fail else .fail
  | _ => .fail
 | _ => .fail
def VA {r' r : RT} (h : r' = r) (rows : List (DenR r')) : List (DenR r) := h ▸ rows
def appR (d : Nat) (e : TypeId) (r : RT) (bytes : Nat) (x : RV) (new : List (DenR r)) : Rdr (RV × Ws) :=
 match x with
 | .nils => .test (zh bytes [] new) (newF d e r new) .fail
 | .arw l g e' => .get (.H l) fun s => match s.hd! with
  | .flat g' false e2 r' rows => if g = g' ∧ e = e' ∧ e = e2 then
    match RT.dec r' r with
    | .isTrue h => .test (zh bytes (VA h rows) new) (.ret (.arw l (g + 1) e, [(.H l, .hd (.flat (g + 1) false e r (cat (VA h rows) new)))])) .fail
    | .isFalse _ => .fail
   else .fail
  | _ => .fail
 | .ars l g e' off len => .get (.H l) fun s => match s.hd! with
  | .flat g' false e2 r' rows => if g = g' ∧ e = e' ∧ e = e2 then
    match RT.dec r' r with
    | .isTrue h => .test (inN rows (addN off len) (lenN new)) (.ret (.ars l g e off (addN len (lenN new)), [(.H l, .hd (.flat g false e r (zK (VA h rows) (addN off len) new)))])) .fail
    | .isFalse _ => .fail
   else .fail
  | _ => .fail
 | .arx l g e' off len cap => .get (.H l) fun s => match s.hd! with
  | .flat g' false e2 r' rows => if g = g' ∧ e = e' ∧ e = e2 then
    match RT.dec r' r with
    | .isTrue h => .test (inN rows off len && zh bytes (subN (VA h rows) off len) new) (.test (fits len new cap) .fail (newF d e r (cat (subN (VA h rows) off len) new))) .fail
    | .isFalse _ => .fail
   else .fail
  | _ => .fail
 | _ => .fail
def appZ (T : TT) (d : Nat) (e : TypeId) (r : RT) (bytes : Nat) (tz : TypeId) (x y : RV) : Rdr (RV × Ws) :=
 match x, y, T tz with
 | .nils, .d (.int _) n, some ⟨.int _, _, _, _⟩ => .test (z1T bytes n) (newF d e r (repI n (yZ r))) .fail
 | _, _, _ => .fail
def appO (T : TT) (d : Nat) (e : TypeId) (r : RT) (bytes : Nat) (tz : TypeId) (x y : RV) : Rdr (RV × Ws) :=
 match T tz with
 | some ⟨.str, _, _, _⟩ => match T e, y with
  | some ⟨.int .u8, _, b, some (.one (.int .u8))⟩, .d .str s => appR d e (.one (.int .u8)) b x (bytB s)
  | _, _ => .fail
 | _ => appZ T d e r bytes tz x y
def zbc (r : RT) : List (Nat × RV) → Nat → Rdr (List (DenR r) × Ws)
 | [], _ => .ret ([], [])
 | (i, x) :: ps, j => if i = j then
   Rdr.bind (z3N x) fun cs => Rdr.bind (frzL cs) fun q => Rdr.bind (optR (asR r q.1)) fun y => Rdr.bind (zbc r ps (j + 1)) fun p => .ret (y :: p.1, q.2 ++ p.2)
  else .fail
def Z5 : Ws → List Key
 | [] => []
 | (k, _) :: ws => k :: Z5 ws
def kin (k : Key) : List Key → Bool
 | [] => false
 | x :: xs => k.beq x || kin k xs
def zkT (T : TT) (t : TypeId) (a x : RV) : Rdr Ws :=
 match T t with
 | some d => Rdr.bind (z3N x) fun cs => if cs.length = d.cells ∧ cs.isEmpty = false then match a with
  | .ptr l g off => .get (.H l) fun s => match s.hd! with
   | .cells g' n _ _ => if g = g' ∧ off + cs.length ≤ n then .ret (putL l off cs) else .fail
   | _ => .fail
  | .pel l g e i k => Rdr.bind (frzL cs) fun q => .get (.H l) fun s => match s.hd! with
   | .flat g' false e' r rows => if g = g' ∧ e = e' ∧ k + q.1.length ≤ r.size ∧ kin (.H l) (Z5 q.2) = false then .ask (atN rows i) fun y => Rdr.bind (optR (asR r (VN (zV r y) k q.1))) fun y' =>
     .ret (q.2 ++ [(.H l, .hd (.flat g' false e' r (setN rows i y')))]) else .fail
   | _ => .fail
  | _ => .fail
  else .fail
 | none => .fail
def zkU (e : TypeId) (r : RT) (x : RV) : Rdr Ws :=
 match x with
 | .ars l g e' off len => .get (.H l) fun s => match s.hd! with
  | .flat g' false e2 r' rows => if g = g' ∧ e = e' ∧ e = e2 then
    match RT.dec r' r with
    | .isTrue h => .test (inN rows off len) (.ret [(.H l, .hd (.flat g false e r (zK (VA h rows) off (repN len (yZ r)))))]) .fail
    | .isFalse _ => .fail
   else .fail
  | _ => .fail
 | _ => .fail
def zkD (e : TypeId) (r : RT) (l g : Nat) (e' : TypeId) (off : Nat) (len : Nat → Nat) (new : List (DenR r)) : Rdr (RV × Ws) :=
 .get (.H l) fun s => match s.hd! with
  | .flat g' false e2 r' rows => if g = g' ∧ e = e' ∧ e = e2 then
    match RT.dec r' r with
    | .isTrue h => .test (inN rows off (len (lenN rows))) (.ret (.d (.int .i64) (lenI (YE new (intN (len (lenN rows))))), [(.H l, .hd (.flat g false e r (zK (VA h rows) off (YE new (intN (len (lenN rows)))))))])) .fail
    | .isFalse _ => .fail
   else .fail
  | _ => .fail
def zpr (e : TypeId) (r : RT) (x : RV) (new : List (DenR r)) : Rdr (RV × Ws) :=
 match x with
 | .ars l g e' off len => zkD e r l g e' off (fun _ => len) new
 | .arw l g e' => zkD e r l g e' 0 (fun n => n) new
 | _ => .fail
def zqx (T : TT) (t : TypeId) (lo hi : Option RV) : Rdr (RV × Ws) :=
 match T t, Yp lo, Yp hi with
 | some ⟨.sl _, _, _, _⟩, some none, some none => .ret (.nils, [])
 | some ⟨.sl _, _, _, _⟩, some none, some (some b) => .test (eqI b 0) (.ret (.nils, [])) .fail
 | _, _, _ => .fail
inductive GS where
 | r (s : Spec)
 | c (f : List RV → (α : Type) → KS → List Key → (RV → KS → List Key → Option α) → Option α)
def opR (T : TT) (Γ : FuncId → Option GS) (dst : Option Nat) (op : Op) : Rdr (RV × Ws) :=
 match op with
 | .alloc e => match dst, T e with
  | some d, some ⟨_, n, _, some r⟩ => Rdr.bind (newR d n 0 0 (Y0 r)) fun q => .ret (.ptr q.1.1 q.1.2 0, q.2)
  | _, _ => .fail
 | .box _ x => match dst with
  | some d => Rdr.bind (evR x) fun x => Rdr.bind (z3N x) fun cs => if cs.isEmpty = true then .fail else Rdr.bind (newR d cs.length 0 0 cs) fun q => .ret (.ptr q.1.1 q.1.2 0, q.2)
  | none => .fail
 | .store t a x => Rdr.bind (evR a) fun a => Rdr.bind (evR x) fun x => Rdr.bind (zkT T t a x) fun ws => .ret (.und, ws)
 | .buildSlice t n ps => match dst, T t with
  | some d, some ⟨.sl e, _, _, _⟩ => match T e with
   | some ⟨_, c, _, some r⟩ => if ps.size = n ∧ n * c ≤ 16777216 then Rdr.bind (evP ps.toList) fun ps => Rdr.bind (zbc r ps 0) fun q => Rdr.bind (newF d e r q.1) fun p => .ret (p.1, q.2 ++ p.2) else .fail
   | _ => .fail
  | _, _ => .fail
 | .makeSlice t ln cp => match dst, T t with
  | some d, some ⟨.sl e, _, _, _⟩ => match T e with
   | some ⟨_, _, b, some r⟩ => Rdr.bind (evR ln) fun ln => Rdr.bind (evR cp) fun cp => match ln, cp with
    | .d (.int .i64) n, .d (.int .i64) m => .test (eqI n m && z3B b n) (newF d e r (repI n (yZ r))) .fail
    | _, _ => .fail
   | _ => .fail
  | _, _ => .fail
 | .call ⟨.builtin .append, args, ts⟩ => match dst, args.toList, ts.toList with
  | some d, [x, y], [ty, tz] => match T ty with
   | some ⟨.sl e, _, _, _⟩ => match T e with
    | some ⟨_, _, b, some r⟩ => Rdr.bind (evR x) fun x => Rdr.bind (evR y) fun y => if ty = tz then Rdr.bind (z4W e r y) fun new => appR d e r b x new else appO T d e r b tz x y
    | _ => .fail
   | _ => .fail
  | _, _, _ => .fail
 | .call ⟨.value g, args, _⟩ => Rdr.bind (evR g) fun g => match g with
  | .fn f caps => match Γ f, dst with
   | some (.r sp), some d => Rdr.bind (vldL caps) fun _ => Rdr.bind (evL args.toList) fun xs => sp d (xs ++ caps)
   | _, _ => .fail
  | _ => .fail
 | .call ⟨.builtin .clear, args, ts⟩ => match args.toList, ts.toList with
  | [x], [ty] => match T ty with
   | some ⟨.sl e, _, _, _⟩ => match T e with
    | some ⟨_, _, _, some r⟩ => Rdr.bind (evR x) fun x => Rdr.bind (zkU e r x) fun ws => .ret (.any, ws)
    | _ => .fail
   | _ => .fail
  | _, _ => .fail
 | .call ⟨.builtin .copy, args, ts⟩ => match args.toList, ts.toList with
  | [x, y], [ty, tz] => match T ty with
   | some ⟨.sl e, _, _, _⟩ => match T e with
    | some ⟨_, _, _, some r⟩ => Rdr.bind (evR x) fun x => Rdr.bind (evR y) fun y => Rdr.bind (z4W e r y) fun new => if ty = tz then zpr e r x new else .fail
    | _ => .fail
   | _ => .fail
  | _, _ => .fail
 | .slice t x lo hi none => Rdr.bind (evR x) fun y => match y with
  | .nils => Rdr.bind (zdA lo) fun lo => Rdr.bind (zdA hi) fun hi => zqx T t lo hi
  | _ => Rdr.bind (rdR T (.slice t x lo hi none)) fun x => .ret (x, [])
 | .convert src dst x => match T src, T dst with
  | some ⟨.sl e, _, _, _⟩, some ⟨.str, _, _, _⟩ => match T e with
   | some ⟨.int .u8, _, _, some (.one (.int .u8))⟩ => Rdr.bind (evR x) fun x => Rdr.bind (z4W e (.one (.int .u8)) x) fun rows => .ret (.d .str (strB rows), [])
   | _ => .fail
  | some ⟨.str, _, _, _⟩, some ⟨.sl e, _, _, _⟩ => match T e with
   | some ⟨.int .u8, _, _, some (.one (.int .u8))⟩ => Rdr.bind (evR x) fun x => match x with
    | .d .str s => .ret (.d (.sl e (.one (.int .u8))) (bytB s), [])
    | _ => .fail
   | _ => .fail
  | _, _ => Rdr.bind (rdR T (.convert src dst x)) fun x => .ret (x, [])
 | op => Rdr.bind (rdR T op) fun x => .ret (x, [])
def natIn (i : Nat) : List Nat → Bool
 | [] => false
 | x :: xs => Nat.beq i x || natIn i xs
def tsub (L : List Nat) : Ws → Bool
 | [] => true
 | (.T i, _) :: ws => natIn i L && tsub L ws
 | _ :: ws => tsub L ws
def z1V (T : TT) (Γ : FuncId → Option GS) (o : Oper) : Rdr Ws :=
 Rdr.bind (opR T Γ o.dst o.op) fun q => if tsub [] q.2 = true then match o.dst with
  | some d => .ret (q.2 ++ [(.T d, .rv q.1)])
  | none => .ret q.2
  else .fail
end Go.Kx
namespace Go.Kx
open Go.Rb
noncomputable section
inductive Ex where
 | normal
 | exit (id : Nat)
 | ret
def KS.pin (σ : KS) (o : Operand) (b : Bool) : KS :=
 match o with
 | .tmp d => σ.put (.T d) (.rv (.d .bool b))
 | _ => σ
/-! ### What happens beside the code: rows are frozen; an array of four rows is known cell by cell -/
inductive Gh where
 | frz (i : Nat)
 | expl (i j : Nat)
 | trim (i : Nat)
 | touch (i : Nat)
 | frzc (i j : Nat)
 | frzq (p j k : Nat)
 | pack (p j : Nat) (r : RT)
 | frzb (i : Nat) (r : RT)
def zkE (key : Key) (x : RV) : Rdr Ws :=
 match x with
 | .arw l g e => .get (.H l) fun s => match s.hd! with
  | .flat g' false e' r rows => if g = g' ∧ e = e' then
    .ask (four rows) fun q => .ret ((.H l, .hd (.cells (g + 1) (4 * r.size) 4 e)) :: (key, .rv (.arw l (g + 1) e)) :: putL l 0 (zV r q.1 ++ (zV r q.2.1 ++ (zV r q.2.2.1 ++ zV r q.2.2.2))))
   else .fail
  | _ => .fail
 | _ => .fail
def ghR : Gh → Rdr Ws
 | .frz i => .get (.T i) fun s => Rdr.bind (frz1 s.rv!) fun q => .ret (q.2 ++ [(.T i, .rv q.1)])
 | .expl i j => .get (.T i) fun s => match s.rv! with
  | .ptr l g off => .get (.H l) fun h => match h.hd! with
   | .cells g' n _ _ => if g = g' ∧ off + j < n then .get (.C l (off + j)) fun c => zkE (.C l (off + j)) c.rv! else .fail
   | _ => .fail
  | x => zkE (.T i) x
 | .trim i => .get (.T i) fun s => match s.rv! with
  | .ars l g e 0 len => .get (.H l) fun h => match h.hd! with
   | .flat g' false e' r rows => if g = g' ∧ e = e' then .test (inN rows 0 len) (.ret [(.H l, .hd (.flat (g + 1) false e r (subN rows 0 len))), (.T i, .rv (.arw l (g + 1) e))]) .fail else .fail
   | _ => .fail
  | .nils => .ret []
  | .arw _ _ _ => .ret []
  | _ => .fail
 | .touch _ => .ret []
 | .frzc i j => .get (.T i) fun s => match s.rv! with
  | .ptr l g off => .get (.H l) fun h => match h.hd! with
   | .cells g' n _ _ => if g = g' ∧ off + j < n then .get (.C l (off + j)) fun c => Rdr.bind (frz0 c.rv!) fun q => .ret (q.2 ++ [(.C l (off + j), .rv q.1)]) else .fail
   | _ => .fail
  | _ => .fail
 | .frzq p j k => .get (.T p) fun s => match s.rv! with
  | .ptr l g off => .get (.H l) fun h => match h.hd! with
   | .cells g' n _ _ => if g = g' ∧ off + j < n then .get (.C l (off + j)) fun c => match c.rv! with
     | .arw l2 g2 e => .get (.H l2) fun h2 => match h2.hd! with
      | .cells g3 n2 _ e3 => if g2 = g3 ∧ e = e3 ∧ k < n2 then .get (.C l2 k) fun c2 => Rdr.bind (frz0 c2.rv!) fun q => .ret (q.2 ++ [(.C l2 k, .rv q.1)]) else .fail
      | _ => .fail
     | _ => .fail
    else .fail
   | _ => .fail
  | _ => .fail
 | .pack p j r => .get (.T p) fun s => match s.rv! with
  | .ptr l g off => .get (.H l) fun h => match h.hd! with
   | .cells g' n _ _ => if g = g' ∧ off + j < n then .get (.C l (off + j)) fun c => match c.rv! with
     | .arw l2 g2 e => .get (.H l2) fun h2 => match h2.hd! with
      | .cells g3 n2 cnt e3 => if (g2 = g3 ∧ e = e3 ∧ l2 ≠ l) ∧ (n2 = cnt * r.size ∧ cnt ≠ 0) then
        Rdr.bind (z8B l2 0 n2) fun xs => Rdr.bind (optR (zfP r cnt xs)) fun rows => .ret [(.H l2, .hd (.flat (g2 + 1) false e r rows)), (.C l (off + j), .rv (.arw l2 (g2 + 1) e))]
       else .fail
      | _ => .fail
     | _ => .fail
    else .fail
   | _ => .fail
  | _ => .fail
 | .frzb i r => .get (.T i) fun s => match s.rv! with
  | .ptr l g 0 => .get (.H l) fun h => match h.hd! with
   | .cells g' n _ _ => if g = g' then Rdr.bind (z8B l 0 n) fun xs => Rdr.bind (optR (asR r xs)) fun y => .ret [(.H l, .hd (.no (g + 1))), (.T i, .rv (.el r y 0))] else .fail
   | _ => .fail
  | _ => .fail
def ghT : List Gh → List Nat
 | [] => []
 | .frz i :: gs => i :: ghT gs
 | .expl i _ :: gs => i :: ghT gs
 | .trim i :: gs => i :: ghT gs
 | .touch i :: gs => i :: ghT gs
 | .frzc _ _ :: gs => ghT gs
 | .frzq _ _ _ :: gs => ghT gs
 | .pack _ _ _ :: gs => ghT gs
 | .frzb i _ :: gs => i :: ghT gs
def yR : Ws → List Key
 | [] => []
 | (.T _, _) :: ws => yR ws
 | (k, _) :: ws => k :: yR ws
/-! ### Regions -/
section
variable {α : Type} (T : TT) (Γ : FuncId → Option GS)
def evGh : List Gh → KS → List Key → (KS → List Key → Option α) → Option α
 | [], σ, D, K => K σ D
 | g :: gs, σ, D, K => Rdr.runK σ (ghR g) fun ws => if tsub (ghT [g]) ws = true then evGh gs (σ.puts ws) (yR ws ++ D) K else none
inductive Gd where
 | run
 | skip
 | on (d : Nat) (b want : Bool)
 | stuck
def z1W (ops : Array Oper) (σ : KS) (o : Oper) : Gd :=
 match o.guard with
 | none => .run
 | some (j, want) => match (ops[j]?).bind (·.dst) with
  | none => .skip
  | some d => match σ.T d with
   | .d .bool b => .on d b want
   | .und => .skip
   | _ => .stuck
def YT (o : Oper) : Ws := match o.dst with
 | some d => [(.T d, .rv .und)]
 | none => []
def nilR (x : RV) : Rdr (Option Bool) :=
 match x with
 | .nils => .ret (some true)
 | .d (.sl _ r) rows => .test (isE (α := DenR r) rows) (.ret none) (.ret (some false))
 | .arw l g e => .get (.H l) fun s => match s.hd! with
  | .flat g' _ e' _ rows => if g = g' ∧ e = e' then .test (isE rows) (.ret none) (.ret (some false)) else .fail
  | _ => .fail
 | _ => .fail
def isEq : BinOp → Option Bool
 | .eql => some true
 | .neq => some false
 | _ => none
def zbd (σ : KS) (D : List Key) (o : Oper) (K : KS → List Key → Option α) : Option α :=
 Rdr.runK σ (z1V T Γ o) fun ws => K (σ.puts ws) (yR ws ++ D)
def putB (σ : KS) (d : Nat) (b : Bool) : KS := σ.put (.T d) (.rv (.d .bool b))
def putD (σ : KS) (d : Option Nat) (x : RV) : KS := match d with
 | some d => σ.put (.T d) (.rv x)
 | none => σ
def opK (σ : KS) (D : List Key) (o : Oper) (K : KS → List Key → Option α) : Option α :=
 match o.op with
 | .binOp bo t x y _ => match evS σ y, isEq bo, o.dst, T t with
  | .nils, some q, some d, some ⟨.sl _, _, _, _⟩ => Rdr.runK σ (nilR (evS σ x)) fun a => match a with
   | some b => K (putB σ d (b == q)) D
   | none => ambO (K (putB σ d true) D) (K (putB σ d false) D)
  | _, _, _, _ => zbd T Γ σ D o K
 | .call ⟨.value g, args, _⟩ => match evS σ g with
  | .fn f caps => match Γ f with
   | some (.c cs) => Rdr.runK σ (vldL caps) fun _ => cs (args.toList.map (evS σ) ++ caps) α σ D fun rv σ' D' => K (putD σ' o.dst rv) D'
   | _ => zbd T Γ σ D o K
  | _ => zbd T Γ σ D o K
 | _ => zbd T Γ σ D o K
def evOp (ops : Array Oper) (σ : KS) (D : List Key) (o : Oper) (K : KS → List Key → Option α) : Option α :=
 match z1W ops σ o with
 | .run => opK T Γ σ D o K
 | .skip => K (σ.puts (YT o)) D
 | .on d b true => ifB b (opK T Γ (σ.pin (.tmp d) true) D o K) (K ((σ.pin (.tmp d) false).puts (YT o)) D)
 | .on d b false => ifB b (K ((σ.pin (.tmp d) true).puts (YT o)) D) (opK T Γ (σ.pin (.tmp d) false) D o K)
 | .stuck => none
def zkF (ops : Array Oper) : List Oper → KS → List Key → (KS → List Key → Option α) → Option α
 | [], σ, D, K => K σ D
 | o :: l, σ, D, K => evOp T Γ ops σ D o fun σ' D' => zkF ops l σ' D' K
structure MapQ where
 t : TypeId
 d : Nat
 k1 : Int
 s1 : ByteArray
 k2 : Int
 s2 : ByteArray
 m : Nat
 p : Nat
 s : TypeId
 x : Nat
 f : Nat
 q : Nat
 ty : TypeId
 z : Nat
 rest : List Oper
def mapQ (l : List Oper) : Option MapQ :=
 match l with
 | ⟨some d, .makeMap t none, _, _, _, none⟩ :: ⟨none, .insert t1 (.tmp d1) (.const (.int .i64 k1)) (.const (.string s1)), _, _, _, none⟩ :: ⟨none, .insert t2 (.tmp d2) (.const (.int .i64 k2)) (.const (.string s2)), _, _, _, none⟩ ::
  ⟨some m, .move (.tmp d3), _, _, _, none⟩ :: ⟨some p, .fieldAddr s (.tmp x) f, _, _, _, none⟩ :: ⟨some q, .load ty (.tmp p1), _, _, _, none⟩ :: ⟨some z, .lookup t3 (.tmp m1) (.tmp q1) false, _, _, _, none⟩ :: rest =>
  if (t1 = t ∧ t2 = t ∧ t3 = t) ∧ (d1 = d ∧ d2 = d ∧ d3 = d ∧ p1 = p ∧ m1 = m ∧ q1 = q) ∧ (m ≠ p ∧ m ≠ q ∧ (k2 == k1) = false) then some ⟨t, d, k1, s1, k2, s2, m, p, s, x, f, q, ty, z, rest⟩ else none
 | _ => none
def mapS (q : MapQ) (n : Int) : List UInt8 := ifB (eqI n q.k1) q.s1.data.toList (ifB (eqI n q.k2) q.s2.data.toList [])
def zps (ops : Array Oper) (l : List Oper) (σ : KS) (D : List Key) (K : KS → List Key → Option α) : Option α :=
 match mapQ l with
 | none => zkF T Γ ops l σ D K
 | some q => match T q.t with
  | some ⟨.mp, _, _, _⟩ => Rdr.runK ((σ.put (.T q.d) (.rv .any)).put (.T q.m) (.rv .any)) (zfN T q.s (((σ.put (.T q.d) (.rv .any)).put (.T q.m) (.rv .any)).T q.x) q.f) fun y =>
   Rdr.runK (((σ.put (.T q.d) (.rv .any)).put (.T q.m) (.rv .any)).put (.T q.p) (.rv y)) (zfM T q.ty ((((σ.put (.T q.d) (.rv .any)).put (.T q.m) (.rv .any)).put (.T q.p) (.rv y)).T q.p)) fun v => match v with
    | .d (.int .i64) n => zkF T Γ ops q.rest (((((σ.put (.T q.d) (.rv .any)).put (.T q.m) (.rv .any)).put (.T q.p) (.rv y)).put (.T q.q) (.rv (.d (.int .i64) n))).put (.T q.z) (.rv (.d .str (mapS q n)))) D K
    | _ => none
  | _ => none
structure Tr where
 i : Nat
 rs : List Key
 ws : List Key
def meets : List Key → List Key → Bool
 | [], _ => false
 | k :: ks, l => kin k l || meets ks l
def behT (ops : Array Oper) : Nat → Nat → Nat → Bool
 | 0, _, _ => false
 | n + 1, j, i => match ops[j]? with
  | some o => o.after.toList.any fun e => Region.binds .any e && (Nat.beq e.on i || behT ops n e.on i)
  | none => false
def zfQ (ops : Array Oper) (x y : Tr) : Bool :=
 match ops[y.i]? with
 | some _ => !(meets x.ws y.rs || (meets x.ws y.ws || meets x.rs y.ws)) || behT ops 3 y.i x.i
 | none => false
def trOK (ops : Array Oper) : List Tr → Bool
 | [] => true
 | y :: ys => ys.all (fun x => zfQ ops x y) && trOK ops ys
def vt (ops : Array Oper) (o : Oper) : List Key :=
 match o.guard with
 | none => []
 | some (j, _) => match (ops[j]?).bind (·.dst) with
  | none => []
  | some d => [.T d]
def evT (ops : Array Oper) (σ : KS) (o : Oper) (K : KS → Ws → List Key → Option α) : Option α :=
 match z1W ops σ o with
 | .run => Rdr.runT σ (z1V T Γ o) (vt ops o) fun ws ks => K (σ.puts ws) ws ks
 | .skip => K (σ.puts (YT o)) (YT o) (vt ops o)
 | .on d b true => ifB b (Rdr.runT (σ.pin (.tmp d) true) (z1V T Γ o) (vt ops o) fun ws ks => K ((σ.pin (.tmp d) true).puts ws) ws ks)
   (K ((σ.pin (.tmp d) false).puts (YT o)) (YT o) (vt ops o))
 | .on d b false => ifB b (K ((σ.pin (.tmp d) true).puts (YT o)) (YT o) (vt ops o))
   (Rdr.runT (σ.pin (.tmp d) false) (z1V T Γ o) (vt ops o) fun ws ks => K ((σ.pin (.tmp d) false).puts ws) ws ks)
 | .stuck => none
def zhL (o : Oper) (i : Nat) : Bool := o.after.toList.all fun e => !Region.binds .any e || Nat.blt e.on i
def evDr (ops : Array Oper) : List Oper → Nat → List Tr → KS → List Key → (KS → List Key → Option α) → Option α
 | [], _, tr, σ, D, K => if trOK ops tr = true then K σ D else none
 | o :: l, i, tr, σ, D, K => if zhL o i = true then evT T Γ ops σ o fun σ' ws ks => evDr ops l (i + 1) (⟨i, ks, Z5 ws⟩ :: tr) σ' (yR ws ++ D) K else none
/-! ### Loops -/
inductive It where
 | t (i : Nat) (c : CT)
 | c (l j : Nat) (c : CT)
 | r (l : Nat) (e : TypeId) (r : RT)
 | ta (i l : Nat) (e : TypeId)
 | ca (l' j l : Nat) (e : TypeId)
 | rk (l g : Nat) (e : TypeId) (r : RT)
def PL : List It → Type
 | [] => Unit
 | .t _ c :: [] => Den c
 | .c _ _ c :: [] => Den c
 | .r _ _ r :: [] => List (DenR r)
 | .rk _ _ _ r :: [] => List (DenR r)
 | .t _ c :: is => Den c × PL is
 | .c _ _ c :: is => Den c × PL is
 | .r _ _ r :: is => List (DenR r) × PL is
 | .rk _ _ _ r :: is => List (DenR r) × PL is
 | .ta .. :: is => PL is
 | .ca .. :: is => PL is
def zdB (h : Hd) (e : TypeId) (r : RT) : Option (List (DenR r)) := match h with
 | .no _ => some []
 | .flat _ false e' r' rows => if e = e' then (match RT.dec r' r with | .isTrue h => some (VA h rows) | .isFalse _ => none) else none
 | _ => none
def zfR (h : Hd) (g : Nat) (e : TypeId) (r : RT) : Option (List (DenR r)) := match h with
 | .flat g' false e' r' rows => if g = g' ∧ e = e' then (match RT.dec r' r with | .isTrue h => some (VA h rows) | .isFalse _ => none) else none
 | _ => none
def z3E (σ : KS) (x : RV) (l : Nat) (e : TypeId) : Bool := match x with
 | .arw l' g e' => l == l' && (e == e' && (match σ.H l with | .flat g' false e2 _ _ => g == g' && e == e2 | _ => false))
 | .nils => (match σ.H l with | .no _ => true | _ => false)
 | _ => false
def grab (σ : KS) : (is : List It) → Option (PL is)
 | [] => some ()
 | .t i c :: [] => asD c (σ.T i)
 | .c l j c :: [] => asD c (σ.C l j)
 | .r l e r :: [] => zdB (σ.H l) e r
 | .rk l g e r :: [] => zfR (σ.H l) g e r
 | .t i c :: i1 :: is => match asD c (σ.T i), grab σ (i1 :: is) with
  | some x, some y => some (x, y)
  | _, _ => none
 | .c l j c :: i1 :: is => match asD c (σ.C l j), grab σ (i1 :: is) with
  | some x, some y => some (x, y)
  | _, _ => none
 | .r l e r :: i1 :: is => match zdB (σ.H l) e r, grab σ (i1 :: is) with
  | some x, some y => some (x, y)
  | _, _ => none
 | .rk l g e r :: i1 :: is => match zfR (σ.H l) g e r, grab σ (i1 :: is) with
  | some x, some y => some (x, y)
  | _, _ => none
 | .ta i l e :: is => if z3E σ (σ.T i) l e = true then grab σ is else none
 | .ca l' j l e :: is => if z3E σ (σ.C l' j) l e = true then grab σ is else none
def Y1 (σ0 : KS) : (is : List It) → PL is → KS → KS
 | [], _, σ => σ
 | .t i c :: [], x, σ => σ.put (.T i) (.rv (.d c x))
 | .c l j c :: [], x, σ => σ.put (.C l j) (.rv (.d c x))
 | .r l e r :: [], x, σ => σ.put (.H l) (.hd (.flat ((σ0.H l).gen + 1) false e r x))
 | .rk l g e r :: [], x, σ => σ.put (.H l) (.hd (.flat g false e r x))
 | .t i c :: i1 :: is, x, σ => Y1 σ0 (i1 :: is) (Prod.snd x) (σ.put (.T i) (.rv (.d c (Prod.fst x))))
 | .c l j c :: i1 :: is, x, σ => Y1 σ0 (i1 :: is) (Prod.snd x) (σ.put (.C l j) (.rv (.d c (Prod.fst x))))
 | .r l e r :: i1 :: is, x, σ => Y1 σ0 (i1 :: is) (Prod.snd x) (σ.put (.H l) (.hd (.flat ((σ0.H l).gen + 1) false e r (Prod.fst x))))
 | .rk l g e r :: i1 :: is, x, σ => Y1 σ0 (i1 :: is) (Prod.snd x) (σ.put (.H l) (.hd (.flat g false e r (Prod.fst x))))
 | .ta i l e :: is, x, σ => Y1 σ0 is x (σ.put (.T i) (.rv (.arw l ((σ0.H l).gen + 1) e)))
 | .ca l' j l e :: is, x, σ => Y1 σ0 is x (σ.put (.C l' j) (.rv (.arw l ((σ0.H l).gen + 1) e)))
def KS.cut (σ : KS) (W : List Nat) : KS := { σ with T := fun i => bif natIn i W then .any else σ.T i }
def VB : List Oper → List Nat
 | [] => []
 | o :: l => match o.dst with | some d => d :: VB l | none => VB l
inductive LH where
 | it (fz : List Gh) (is : KS → List It)
 | unroll (n : Nat)
inductive DI where
 | t (i : Nat) (c : CT)
 | a (i : Nat) (e : TypeId) (r : RT)
 | c (p j : Nat) (c : CT)
 | b (p j : Nat) (e : TypeId) (r : RT)
 | k (i : Nat) (e : TypeId) (r : RT)
 | q (p j k : Nat) (e : TypeId) (r : RT)
def z8C (x : RV) (d : Nat) : Nat := match x with
 | .arw l _ _ => l
 | _ => d
def zpt (σ : KS) : Nat → Nat → Nat
 | 0, d => d
 | n + 1, d => match σ.H d with
  | .no _ => d
  | _ => zpt σ n (d + 1000000)
def hasR (l : Nat) : List (Nat × TypeId × RT) → Bool
 | [] => false
 | q :: qs => Nat.beq q.1 l || hasR l qs
def addR (l : Nat) (e : TypeId) (r : RT) (qs : List (Nat × TypeId × RT)) : List (Nat × TypeId × RT) := bif hasR l qs then qs else qs ++ [(l, e, r)]
def ztA : List (Nat × TypeId × RT) → List It
 | [] => []
 | q :: qs => .r q.1 q.2.1 q.2.2 :: ztA qs
def dynG (σ : KS) : List DI → List It → List It → List (Nat × TypeId × RT) → List It
 | [], ta, dd, rr => ta ++ (dd ++ ztA rr)
 | .t i c :: ds, ta, dd, rr => dynG σ ds ta (dd ++ [.t i c]) rr
 | .a i e r :: ds, ta, dd, rr => dynG σ ds (ta ++ [.ta i (z8C (σ.T i) (zpt σ 4 (500000 + i))) e]) dd (addR (z8C (σ.T i) (zpt σ 4 (500000 + i))) e r rr)
 | .c p j c :: ds, ta, dd, rr => match σ.T p with
  | .ptr l _ off => dynG σ ds ta (dd ++ [.c l (off + j) c]) rr
  | _ => dynG σ ds ta dd rr
 | .b p j e r :: ds, ta, dd, rr => match σ.T p with
  | .ptr l _ off => dynG σ ds (ta ++ [.ca l (off + j) (z8C (σ.C l (off + j)) (600000 + 32 * l + off + j)) e]) dd (addR (z8C (σ.C l (off + j)) (600000 + 32 * l + off + j)) e r rr)
  | _ => dynG σ ds ta dd rr

 | .k i e r :: ds, ta, dd, rr => match σ.T i with
  | .arw l g _ => dynG σ ds ta (dd ++ [.rk l g e r]) rr
  | _ => dynG σ ds ta dd rr
 | .q p j k e r :: ds, ta, dd, rr => match σ.T p with
  | .ptr l _ off => match σ.C l (off + j) with
   | .arw l2 _ _ => dynG σ ds (ta ++ [.ca l2 k (z8C (σ.C l2 k) (700000 + 32 * l2 + k)) e]) dd (addR (z8C (σ.C l2 k) (700000 + 32 * l2 + k)) e r rr)
   | _ => dynG σ ds ta dd rr
  | _ => dynG σ ds ta dd rr
def dyn (ds : List DI) (σ : KS) : List It := dynG σ ds [] [] []
structure HT where
 lh : Nat → LH
 gh : Nat → List Gh
def z5B : Code → Nat
 | .region i _ _ => i
 | .seq a _ => z5B a
 | .cond _ a _ => z5B a
 | .block _ c => z5B c
 | .loop c => z5B c
 | _ => 0
def lhT : LH → List Nat
 | .it fz _ => ghT fz
 | .unroll _ => []
def dsts (Ht : HT) : Code → List Nat
 | .region id ops _ => ghT (Ht.gh id) ++ VB ops.toList
 | .seq a b => dsts Ht a ++ dsts Ht b
 | .cond _ a b => dsts Ht a ++ dsts Ht b
 | .block _ c => dsts Ht c
 | .loop c => lhT (Ht.lh (z5B c)) ++ dsts Ht c
 | _ => []
def itK : List It → List Key
 | [] => []
 | .t _ _ :: is => itK is
 | .c l j _ :: is => .C l j :: itK is
 | .r l _ _ :: is => .H l :: itK is
 | .rk l _ _ _ :: is => .H l :: itK is
 | .ta _ _ _ :: is => itK is
 | .ca l j _ _ :: is => .C l j :: itK is
def itR : List It → List Key
 | [] => []
 | .t _ _ :: is => itR is
 | .c _ _ _ :: is => itR is
 | .r l _ _ :: is => .H l :: itR is
 | .ta _ _ _ :: is => itR is
 | .ca _ _ _ _ :: is => itR is
 | .rk _ _ _ _ :: is => itR is
def Hd.isNo : Hd → Bool
 | .no _ => true
 | _ => false
def z9z (σ : KS) (is : List Key) (k : Key) : Bool :=
 kin k is || match k with
  | .T _ => true
  | .H l => (σ.H l).isNo
  | .C l _ => (σ.H l).isNo
def rtOK (T : TT) (e : TypeId) (r : RT) : Bool := match T e with
 | some ⟨_, _, _, some r'⟩ => (match RT.dec r' r with | .isTrue _ => true | .isFalse _ => false)
 | _ => false
def itOK (T : TT) (W : List Nat) (σ : KS) : List It → Bool
 | [] => true
 | .t i _ :: is => natIn i W && itOK T W σ is
 | .c l j _ :: is => (match σ.H l with | .cells _ n _ _ => Nat.blt j n | _ => false) && itOK T W σ is
 | .r l e r :: is => (rtOK T e r && !kin (.H l) (itK is)) && itOK T W σ is
 | .rk l g e r :: is => ((rtOK T e r && !kin (.H l) (itK is)) && Nat.beq (σ.H l).gen g) && itOK T W σ is
 | .ta i l _ :: is => (natIn i W && kin (.H l) (itR is)) && itOK T W σ is
 | .ca l' j l _ :: is => (match σ.H l' with | .cells _ n _ _ => Nat.blt j n | _ => false) && (kin (.H l) (itR is) && itOK T W σ is)
def zhM (f : KS → List Key → (Ex → KS → List Key → Option α) → Option α) : Nat → KS → List Key → (Ex → KS → List Key → Option α) → Option α
 | 0, _, _, _ => none
 | n + 1, σ, D, K => f σ D fun e σ' D' => match e with
  | .normal => zhM f n σ' D' K
  | .exit i => K (.exit i) σ' D'
  | .ret => K .ret σ' D'
def inW (W : List Nat) : Gh → Bool
 | .frz i => natIn i W
 | .expl _ _ => false
 | .trim i => natIn i W
 | .touch _ => false
 | .frzc _ _ => true
 | .frzq _ _ _ => true
 | .pack _ _ _ => true
 | .frzb i _ => natIn i W
def zvx (T : TT) (W : List Nat) (fz : List Gh) (is : List It) (f : KS → List Key → (Ex → KS → List Key → Option (Sum (PL is) α)) → Option (Sum (PL is) α)) (σ0 : KS) (D : List Key) (K : Ex → KS → List Key → Option α) : Option α :=
 evGh fz σ0 D fun σ1 D1 =>
 if itOK T W σ1 is = true then match grab σ1 is with
  | none => none
  | some x0 => zk maxR (fun x => f (Y1 σ1 is x (σ1.cut W)) [] fun e σ' D' => match e with
   | .normal => evGh (fz.filter (inW W)) σ' D' fun σ2 D2 => if D2.all (z9z σ1 (itK is)) = true then (grab σ2 is).map .inl else none
   | .exit i => mapO .inr (K (.exit i) σ' (D' ++ (itK is ++ D1)))
   | .ret => mapO .inr (K .ret σ' (D' ++ (itK is ++ D1)))) x0
 else none
end
def evC (T : TT) (Γ : FuncId → Option GS) (Ht : HT) : Code → (α : Type) → KS → List Key → (Ex → KS → List Key → Option α) → Option α
 | .skip, _, σ, D, K => K .normal σ D
 | .region id ops dr, _, σ, D, K => evGh (Ht.gh id) σ D fun σ D => match dr with
  | false => zps T Γ ops ops.toList σ D fun σ' D' => K .normal σ' D'
  | true => evDr T Γ ops ops.toList 0 [] σ D fun σ' D' => K .normal σ' D'
 | .seq a b, α, σ, D, K => evC T Γ Ht a α σ D fun e σ' D' => match e with
  | .normal => evC T Γ Ht b α σ' D' K
  | .exit i => K (.exit i) σ' D'
  | .ret => K .ret σ' D'
 | .cond c a b, α, σ, D, K => match evS σ c with
  | .d .bool v => ifB v (evC T Γ Ht a α (σ.pin c true) D K) (evC T Γ Ht b α (σ.pin c false) D K)
  | _ => none
 | .block id c, α, σ, D, K => evC T Γ Ht c α σ D fun e σ' D' => match e with
  | .normal => K .normal σ' D'
  | .exit j => if j = id then K .normal σ' D' else K (.exit j) σ' D'
  | .ret => K .ret σ' D'
 | .loop c, α, σ, D, K => match Ht.lh (z5B c) with
  | .unroll n => zhM (fun σ D K => evC T Γ Ht c α σ D K) n σ D K
  | .it fz is => zvx T (dsts Ht c) fz (is σ) (fun σ1 D K => evC T Γ Ht c (Sum (PL (is σ)) α) σ1 D K) σ D K
 | .exit id, _, σ, D, K => K (.exit id) σ D
 | .ret, _, σ, D, K => K .ret σ D
 | _, _, _, _, _ => none
end
end Go.Kx
namespace Go.Kx
open Go.Rb
noncomputable section
structure OT where
 r : RT
 agg : Bool
 own : List Bool
def PO : List OT → Type
 | [] => Unit
 | o :: [] => DenR o.r
 | o :: o1 :: os => DenR o.r × PO (o1 :: os)
def ownR (c : CT) (x : RV) : Rdr (Den c) :=
 match c, x with
 | .sl _ _, .nils => .ret []
 | .sl e r, .arw l g e' => .get (.H l) fun s => match s.hd! with
  | .flat g' false e2 r' rows => if g = g' ∧ e = e' ∧ e = e2 then optR (asD (.sl e r) (.d (.sl e2 r') rows)) else .fail
  | _ => .fail
 | .sl e r, .ars l g e' 0 len => .get (.H l) fun s => match s.hd! with
  | .flat g' false e2 r' rows => if g = g' ∧ e = e' ∧ e = e2 then .test (inN rows 0 len) (optR (asD (.sl e r) (.d (.sl e2 r') (subN rows 0 len)))) .fail else .fail
  | _ => .fail
 | _, _ => .fail
def frzC (c : CT) (x : RV) : Rdr (Den c × Ws) := Rdr.bind (frz0 x) fun q => Rdr.bind (optR (asD c q.1)) fun y => .ret (y, q.2)
def RV.root : RV → List Nat
 | .arw l _ _ => [l]
 | .ars l _ _ _ _ => [l]
 | _ => []
def RV.row (agg : Bool) : RV → List RV
 | .ag xs => if agg = true then xs else []
 | x => if agg = true then [] else [x]
section
variable {α : Type}
def zdC (c : CT) (own : Bool) (x : RV) (σ : KS) (K : KS → Den c → Option α) : Option α :=
 if own = true then Rdr.runK σ (ownR c x) fun y => K σ y else Rdr.runK σ (frzC c x) fun q => K (σ.puts q.2) q.1
def z78 : (r : RT) → List Bool → List RV → KS → (KS → DenR r → Option α) → Option α
 | .one c, b, [x], σ, K => zdC c (b.headD false) x σ K
 | .cons c r, b, x :: xs, σ, K => zdC c (b.headD false) x σ fun σ y => z78 r b.tail xs σ fun σ ys => K σ (y, ys)
 | _, _, _, _, _ => none
def z9A : (os : List OT) → List RV → KS → (KS → PO os → Option α) → Option α
 | [], [], σ, K => K σ ()
 | [o], [x], σ, K => z78 o.r o.own (x.row o.agg) σ K
 | o :: o1 :: os, x :: xs, σ, K => z78 o.r o.own (x.row o.agg) σ fun σ y => z9A (o1 :: os) xs σ fun σ ys => K σ (y, ys)
 | _, _, _, _ => none
end
def ownL : List Bool → List RV → List Nat
 | b, x :: xs => (if b.headD false = true then x.root else []) ++ ownL b.tail xs
 | _, [] => []
def vW : List OT → List RV → List Nat
 | o :: os, x :: xs => ownL o.own (x.row o.agg) ++ vW os xs
 | _, _ => []
def Vg : List Nat → Bool
 | [] => true
 | x :: xs => !natIn x xs && Vg xs
def z1X (σ : KS) (l : Nat) : Bool := match σ.H l with
 | .flat _ false _ _ _ => true
 | _ => false
def resR (T : TT) : List ResultVar → Rdr (List RV)
 | [] => .ret []
 | .tmp t :: rs => .get (.T t) fun s => Rdr.bind (resR T rs) fun xs => .ret (s.rv! :: xs)
 | .cell a t :: rs => .get (.T a) fun s => Rdr.bind (zfM T t s.rv!) fun x => Rdr.bind (resR T rs) fun xs => .ret (x :: xs)
def z79 : List RV → RV
 | [x] => x
 | xs => .tup xs
def getL : List RV → Nat → RV
 | [], _ => .und
 | x :: xs, n => bif Nat.beq n 0 then x else getL xs (n - 1)
/-! ### Arguments -/
inductive IT where
 | v (r : RT) (agg : Bool)
 | f (id : FuncId)
def PI : List IT → Type
 | [] => Unit
 | .f _ :: is => PI is
 | .v r _ :: [] => DenR r
 | .v r _ :: i1 :: is => DenR r × PI (i1 :: is)
def RV.ofRow (agg : Bool) (xs : List RV) : RV := if agg = true then .ag xs else xs.headD .any
def yr : (is : List IT) → PI is → List RV
 | [], _ => []
 | .f id :: is, x => .fn id [] :: yr is x
 | .v r ag :: [], x => [.ofRow ag (zV r x)]
 | .v r ag :: i1 :: is, x => .ofRow ag (zV r (Prod.fst x)) :: yr (i1 :: is) (Prod.snd x)
def σin (is : List IT) (x : PI is) : KS := { T := getL (yr is x), H := noH, C := fun _ _ => .any }
def fnE (T : TT) (Γ : FuncId → Option GS) (Ht : HT) (c : Code) (rs : List ResultVar) (is : List IT) (os : List OT) (x : PI is) : Option (PO os) :=
 evC T Γ Ht c (PO os) (σin is x) [] fun e σ' _ => match e with
  | .exit _ => none
  | _ => Rdr.runK σ' (resR T rs) fun xs => z9A os xs σ' fun σ y => if Vg (vW os xs) && (vW os xs).all (z1X σ) then some y else none
def RV.nt : RV → Bool
 | .tup _ => false
 | _ => true
def inlF (T : TT) (Γ : FuncId → Option GS) (Ht : HT) (c : Code) (rs : List ResultVar) (m : Nat) (xs : List RV) (α : Type) (σ : KS) (D : List Key) (K : RV → KS → List Key → Option α) : Option α :=
 if Nat.ble xs.length m = true then evC T Γ Ht c α { T := getL xs, H := σ.H, C := σ.C } D fun e σ' D' => match e with
  | .exit _ => none
  | _ => Rdr.runK σ' (resR T rs) fun rvs => if rvs.all RV.nt = true then K (z79 rvs) { T := σ.T, H := σ'.H, C := σ'.C } D' else none
 else none
def inl (T : TT) (Γ : FuncId → Option GS) (Ht : HT) (c : Code) (rs : List ResultVar) (m : Nat) : GS := .c (inlF T Γ Ht c rs m)
/-! ### Calls -/
def VC (bor : Bool) (c : CT) (x : RV) : Rdr (Den c × Ws) :=
 if bor = true then match c with
  | .sl e r => Rdr.bind (z4W e r x) fun y => .ret (y, [])
  | c => Rdr.bind (optR (asD c x)) fun y => .ret (y, [])
 else Rdr.bind (frz0 x) fun q => Rdr.bind (optR (asD c q.1)) fun y => .ret (y, q.2)
def rowI (bor : Bool) : (r : RT) → List RV → Rdr (DenR r × Ws)
 | .one c, [x] => VC bor c x
 | .cons c r, x :: xs => Rdr.bind (VC bor c x) fun q => Rdr.bind (rowI bor r xs) fun p => .ret ((q.1, p.1), q.2 ++ p.2)
 | _, _ => .fail
def insR (bor : Bool) : (is : List IT) → List RV → Rdr (PI is × Ws)
 | [], [] => .ret ((), [])
 | .f id :: is, .fn id' [] :: xs => if id = id' then insR bor is xs else .fail
 | [.v r ag], [x] => rowI bor r (x.row ag)
 | .v r ag :: i1 :: is, x :: xs => Rdr.bind (rowI bor r (x.row ag)) fun q => Rdr.bind (insR bor (i1 :: is) xs) fun p => .ret ((q.1, p.1), q.2 ++ p.2)
 | _, _ => .fail
def z36 (n : Nat) (c : CT) (own : Bool) (x : Den c) : Rdr (RV × Ws) :=
 match c, own, x with
 | .sl e r, true, x => newF n e r x
 | c, _, x => .ret (.d c x, [])
def z7a (n : Nat) : (r : RT) → List Bool → DenR r → Rdr (List RV × Ws)
 | .one c, b, x => Rdr.bind (z36 n c (b.headD false) x) fun q => .ret ([q.1], q.2)
 | .cons c r, b, x => Rdr.bind (z36 n c (b.headD false) (Prod.fst x)) fun q => Rdr.bind (z7a (n + 1) r b.tail (Prod.snd x)) fun p => .ret (q.1 :: p.1, q.2 ++ p.2)
def zfS : Nat → (os : List OT) → PO os → Rdr (List RV × Ws)
 | _, [], _ => .ret ([], [])
 | n, [o], x => Rdr.bind (z7a n o.r o.own x) fun q => .ret ([.ofRow o.agg q.1], q.2)
 | n, o :: o1 :: os, x => Rdr.bind (z7a n o.r o.own (Prod.fst x)) fun q => Rdr.bind (zfS (n + o.r.size) (o1 :: os) (Prod.snd x)) fun p => .ret (.ofRow o.agg q.1 :: p.1, q.2 ++ p.2)
def CT.flat : CT → Bool
 | .sl _ _ => false
 | _ => true
def RT.flat : RT → Bool
 | .one c => c.flat
 | .cons c r => c.flat && r.flat
def CT.flatO : CT → Bool → Bool
 | .sl _ r, true => r.flat
 | c, _ => c.flat
def RT.flatO : RT → List Bool → Bool
 | .one c, b => c.flatO (b.headD false)
 | .cons c r, b => c.flatO (b.headD false) && r.flatO b.tail
def zkG (T : TT) : CT → Bool → Bool
 | .sl e r, true => rtOK T e r
 | _, _ => true
def ownT (T : TT) : RT → List Bool → Bool
 | .one c, b => zkG T c (b.headD false)
 | .cons c r, b => zkG T c (b.headD false) && ownT T r b.tail
def vX : List Key → Bool
 | [] => true
 | k :: ks => !kin k ks && vX ks
def mkS (bor : Bool) (is : List IT) (os : List OT) (F : PI is → Option (PO os)) (d : Nat) (xs : List RV) : Rdr (RV × Ws) :=
 if (!bor || os.all fun o => o.r.flatO o.own) = true then
  Rdr.bind (insR bor is xs) fun q => .ask (F q.1) fun y => Rdr.bind (zfS (1000 + 32 * d) os y) fun p => if vX (yR p.2) = true then .ret (z79 p.1, q.2 ++ p.2) else .fail
 else .fail
def zp (bor : Bool) (is : List IT) (os : List OT) (F : PI is → Option (PO os)) : GS := .r (mkS bor is os F)
/-! ### Functions that take an array over -/
inductive WA where
 | d (c : CT)
 | f (id : FuncId) (r : RT)
def PW : List WA → Type
 | [] => Unit
 | .d c :: ws => Den c × PW ws
 | .f _ r :: ws => DenR r × PW ws
def vY : (ws : List WA) → PW ws → List RV
 | [], _ => []
 | .d c :: ws, x => .d c (Prod.fst x) :: vY ws (Prod.snd x)
 | .f id r :: ws, x => .fn id [.el r (Prod.fst x) 0] :: vY ws (Prod.snd x)
def zpu {a b : RT} (h : a = b) (x : DenR a) : DenR b := h ▸ x
def insW : (ws : List WA) → List RV → Rdr (PW ws)
 | [], [] => .ret ()
 | .d c :: ws, x :: xs => Rdr.bind (optR (asD c x)) fun y => Rdr.bind (insW ws xs) fun p => .ret (y, p)
 | .f id r :: ws, .fn id' [.el r' y 0] :: xs => if id = id' then (match RT.dec r' r with
   | .isTrue h => Rdr.bind (insW ws xs) fun p => .ret (zpu h y, p)
   | .isFalse _ => .fail) else .fail
 | _, _ => .fail
def hdM (e : TypeId) (r : RT) (rows : List (DenR r)) (k : Nat) : Hd := bif Nat.beq k 7 then .flat 1 false e r rows else .no 0
def σinM (e : TypeId) (r : RT) (ws : List WA) (rows : List (DenR r)) (x : PW ws) : KS := { T := getL (.arw 7 1 e :: vY ws x), H := hdM e r rows, C := fun _ _ => .any }
def fnM (T : TT) (Γ : FuncId → Option GS) (Ht : HT) (c : Code) (rs : List ResultVar) (e : TypeId) (r : RT) (ws : List WA) (os : List OT) (rows : List (DenR r)) (x : PW ws) : Option (PO os) :=
 evC T Γ Ht c (PO os) (σinM e r ws rows x) [] fun e σ' _ => match e with
  | .exit _ => none
  | _ => Rdr.runK σ' (resR T rs) fun xs => z9A os xs σ' fun σ y => if Vg (vW os xs) && (vW os xs).all (z1X σ) then some y else none
def movR (e : TypeId) (r : RT) (x : RV) : Rdr (List (DenR r) × Ws) := match x with
 | .arw l g e' => .get (.H l) fun s => match s.hd! with
  | .flat g' false e2 r' rows => if g = g' ∧ e' = e ∧ e2 = e then (match RT.dec r' r with
    | .isTrue h => .ret (VA h rows, [(.H l, .hd (.no (g + 1)))])
    | .isFalse _ => .fail) else .fail
  | _ => .fail
 | _ => .fail
def mkM (e : TypeId) (r : RT) (ws : List WA) (os : List OT) (F : List (DenR r) → PW ws → Option (PO os)) (d : Nat) (xs : List RV) : Rdr (RV × Ws) :=
 match xs with
 | x :: xs => Rdr.bind (movR e r x) fun q => Rdr.bind (insW ws xs) fun p => .ask (F q.1 p) fun y => Rdr.bind (zfS (1000 + 32 * d) os y) fun b => if vX (yR b.2) = true then .ret (z79 b.1, q.2 ++ b.2) else .fail
 | [] => .fail
def zqy (e : TypeId) (r : RT) (ws : List WA) (os : List OT) (F : List (DenR r) → PW ws → Option (PO os)) : GS := .r (mkM e r ws os F)
/-! ### Functions of Go's library, of which the answer is known -/
def libS (is : List IT) {β : Type} (F : PI is → Option β) (g : β → RV) : Spec := fun _ xs => Rdr.bind (insR false is xs) fun q => .ask (F q.1) fun y => .ret (g y, q.2)
def gStr (y : List UInt8) : RV := .d .str y
def zkH (y : Bool) : RV := .d .bool y
def gErr (y : Int × Bool) : RV := .tup [.d (.int .i64) (Prod.fst y), .ifc (Prod.snd y)]
def gCut (y : List UInt8 × List UInt8 × Bool) : RV := .tup [.d .str (Prod.fst y), .d .str (Prod.fst (Prod.snd y)), .d .bool (Prod.snd (Prod.snd y))]
def z7b (e : TypeId) (y : List (List UInt8)) : RV := .d (.sl e (.one .str)) y
end
end Go.Kx
namespace Go.Kx
open Go.Rb
def Glob (P : Program) (w : World) : Prop :=
 Lib.TabIs P w "internal/strconv.uint64pow10" .u64 Lib.pow10Tab ∧ (∃ tp p, w.var? P "strconv.ErrSyntax" = some #[.iface tp p]) ∧ (∃ tp p, w.var? P "strconv.ErrRange" = some #[.iface tp p]) ∧ ∃ m, w.var? P "internal/bytealg.MaxLen" = some #[.int .i64 m]
def NG (P : Program) : Nat := P.globals.size
theorem z8D {P : Program} {name : String} {g : Nat} (h : P.globalNamed name = some g) : g < NG P := by
 unfold Program.globalNamed at h
 split at h
 ·rename_i g' hg
  cases h
  have : g ∈ (List.range P.globals.size).filter fun g => (P.globals[g]?).any (·.name == name) := by rw [hg]; exact List.mem_singleton.2 rfl
  exact List.mem_range.1 (List.mem_filter.1 this).1
 ·cases h
theorem znC {P : Program} {w w' : World} (h : ∀ k, k < NG P → w'.heap[k]? = w.heap[k]?) (name : String) : w'.var? P name = w.var? P name := by
 unfold World.var?
 cases hg : P.globalNamed name with
 | none => rfl
 | some g => simp only [Option.bind_some]; rw [h g (z8D hg)]
theorem Glob.stable {P : Program} {w w' : World} (h : ∀ k, k < NG P → w'.heap[k]? = w.heap[k]?) (hg : Glob P w) : Glob P w' := by
 unfold Glob Lib.TabIs at *
 simp only [znC h]
 exact hg
def GOK (P : Program) (B : Nat) (X : Nat → Prop) (w0 : World) : Prop := Glob P w0 ∧ NG P ≤ B ∧ ∀ k, X k → NG P ≤ k
end Go.Kx
namespace Go.Kx
open Go.Rb
structure Fr (B : Nat) (X : Nat → Prop) (w w' : World) : Prop where
 os : w'.os = w.os
 tape : w'.tape = w.tape
 output : w'.output = w.output
 size : w.heap.size ≤ w'.heap.size
 block : ∀ k, k < B → ¬ X k → w'.heap[k]? = w.heap[k]?
theorem Fr.refl (B : Nat) (X : Nat → Prop) (w : World) : Fr B X w w := ⟨rfl, rfl, rfl, Nat.le_refl _, fun _ _ _ => rfl⟩
def BlkR (P : Program) (E : Env) (n : Nat) (cs : Array Value) (xs : List AV) : Prop :=
 cs.size = n ∧ xs.length ≤ n ∧ ∀ (i : Nat) (v : Value) (x : AV), cs[i]? = some v → xs[i]? = some x → VR P E v x ∧ v.oneCell' = true
theorem BlkR.mono {P : Program} {E E' : Env} {n : Nat} {cs : Array Value} {xs : List AV} (hl : E.le E') (h : BlkR P E n cs xs) : BlkR P E' n cs xs :=
 ⟨h.1, h.2.1, fun i v x hv hx => ⟨(h.2.2 i v x hv hx).1.mono hl, (h.2.2 i v x hv hx).2⟩⟩
structure W3 (P : Program) (B : Nat) (X : Nat → Prop) (w0 : World) (S0 : Nat → Nat → Prop) (E : Env) (m : Nat → List AV) : Prop where
 fr : Fr B X w0 E.w
 hB : B ≤ E.w.heap.size
 s0 : ∀ b o, S0 b o → E.S b o
 sNew : ∀ b o, E.S b o → S0 b o ∨ B ≤ b ∨ X b
 slt : ∀ b o, E.S b o → b < E.w.heap.size
 hA : ∀ l, m l ≠ [] → E.A l
 loc : ∀ l, E.A l → ∃ cs e, E.w.heap[E.β l]? = some (.cells cs e (0, 0)) ∧ BlkR P E (E.cp l) cs (m l) ∧ (∀ o, ¬ E.S (E.β l) o) ∧ (B ≤ E.β l ∨ X (E.β l))
 locne : ∀ l l', E.A l → E.A l' → E.β l = E.β l' → l = l'
 ow : ∀ nw k, E.ow nw k = .none
 gl : GOK P B X w0
section
variable {P : Program} {B : Nat} {X : Nat → Prop} {w0 : World} {S0 : Nat → Nat → Prop} {E : Env} {m : Nat → List AV}
theorem W3.memOK (h : W3 P B X w0 S0 E m) : zpj P E m := by
 intro l hl
 obtain ⟨cs, e, hh, hc, _⟩ := h.loc l (h.hA l hl)
 exact ⟨cs, e, _, hh, by rw [hc.1]; exact hc.2.1, hc.2.2⟩
theorem W3.glob (h : W3 P B X w0 S0 E m) : Glob P E.w ∧ NG P ≤ E.w.heap.size :=
 ⟨Glob.stable (fun k hk => h.fr.block k (Nat.lt_of_lt_of_le hk h.gl.2.1) fun hX => absurd (h.gl.2.2 k hX) (Nat.not_le_of_lt hk)) h.gl.1, Nat.le_trans h.gl.2.1 h.hB⟩
theorem W3.gbeta (h : W3 P B X w0 S0 E m) {l : Nat} (hl : E.A l) : NG P ≤ E.β l := by
 obtain ⟨_, _, _, _, _, hb⟩ := h.loc l hl
 rcases hb with hb | hb
 ·exact Nat.le_trans h.gl.2.1 hb
 ·exact h.gl.2.2 _ hb
theorem W3.lt (h : W3 P B X w0 S0 E m) {l : Nat} (hl : E.A l) : E.β l < E.w.heap.size := by
 obtain ⟨cs, e, hh, _⟩ := h.loc l hl
 exact (Array.getElem?_eq_some_iff.1 hh).1
theorem z0V {w w' : World} {b o : Nat} (h : w'.heap[b]? = w.heap[b]?) : w'.cell? ⟨b, o, none⟩ = w.cell? ⟨b, o, none⟩ := World.cell?_of_block (a := ⟨b, o, none⟩) h
/-! ### What is known may be less -/
theorem W3.weak (h : W3 P B X w0 S0 E m) {m' : Nat → List AV} (hl : ∀ l, (m' l).length ≤ (m l).length) (hm : ∀ (l i : Nat) (x y : AV), (m l)[i]? = some x → (m' l)[i]? = some y → ∀ v, VR P E v x → VR P E v y) :
  W3 P B X w0 S0 E m' := by
 refine ⟨h.fr, h.hB, h.s0, h.sNew, h.slt, fun l hl' => h.hA l fun h0 => hl' (List.eq_nil_of_length_eq_zero (Nat.le_zero.1 (by have := hl l; rw [h0] at this; exact this))), fun l hA => ?_, h.locne, h.ow, h.gl⟩
 obtain ⟨cs, e, hh, hc, hs, hb⟩ := h.loc l hA
 refine ⟨cs, e, hh, ⟨hc.1, Nat.le_trans (hl l) hc.2.1, fun i v y hv hy => ?_⟩, hs, hb⟩
 have hi : i < (m l).length := Nat.lt_of_lt_of_le (List.getElem?_eq_some_iff.1 hy).1 (hl l)
 have h1 := hc.2.2 i v _ hv (List.getElem?_eq_getElem hi)
 exact ⟨hm l i _ y (List.getElem?_eq_getElem hi) hy v h1.1, h1.2⟩
theorem W3.step (h : W3 P B X w0 S0 E m) {w' : World} (hle : E.le { E with w := w' }) (hf : Fr B X w0 w') (hs : E.w.heap.size ≤ w'.heap.size)
  (hbl : ∀ l, E.A l → w'.heap[E.β l]? = E.w.heap[E.β l]?) : W3 P B X w0 S0 { E with w := w' } m := by
 refine ⟨hf, Nat.le_trans h.hB hs, h.s0, h.sNew, fun b o hb => Nat.lt_of_lt_of_le (h.slt b o hb) hs, h.hA, fun l hA => ?_, h.locne, h.ow, h.gl⟩
 obtain ⟨cs, e, hh, hc, hs', hb⟩ := h.loc l hA
 exact ⟨cs, e, (hbl l hA).trans hh, hc.mono hle, hs', hb⟩
/-! ### New blocks -/
def Zn (E : Env) (w' : World) (d n : Nat) : Env :=
 { E with w := w', β := fun l => if l = d then E.w.heap.size else E.β l, A := fun l => E.A l ∨ l = d, cp := fun l => if l = d then n else E.cp l }
def setM (m : Nat → List AV) (l : Nat) (cs : List AV) : Nat → List AV := fun i => if i = l then cs else m i
theorem zfT (h : W3 P B X w0 S0 E m) {d : Nat} {e : TypeId} {cs : Array Value} {z : List AV} (hd : ¬ E.A d)
  (hc : BlkR P (Zn E (E.w.alloc (.cells cs e)) d cs.size) cs.size cs z) :
  W3 P B X w0 S0 (Zn E (E.w.alloc (.cells cs e)) d cs.size) (setM m d z) ∧ E.le (Zn E (E.w.alloc (.cells cs e)) d cs.size) := by
 have hold : ∀ k, k < E.w.heap.size → (E.w.alloc (.cells cs e)).heap[k]? = E.w.heap[k]? := fun k hk => heap_alloc_old E.w _ k hk
 have hle : E.le (Zn E (E.w.alloc (.cells cs e)) d cs.size) := by
  refine ⟨fun b i u hs hc => (z0V (hold b (h.slt b i hs))).trans hc, fun _ _ hs => hs, fun l hl => ?_, fun _ _ _ _ hr => .inl hr, fun _ _ hr => hr⟩
  have hne : l ≠ d := by rintro rfl; exact hd hl
  exact ⟨.inl hl, by simp [Zn, hne], by simp [Zn, hne]⟩
 have hnew : (E.w.alloc (.cells cs e)).heap[E.w.heap.size]? = some (.cells cs e (0, 0)) := heap_alloc_new E.w _
 have hsz : (E.w.alloc (.cells cs e)).heap.size = E.w.heap.size + 1 := by simp
 refine ⟨⟨⟨h.fr.os, h.fr.tape, h.fr.output, Nat.le_trans h.fr.size (by show _ ≤ (E.w.alloc _).heap.size; omega), fun k hk hX => (hold k (Nat.lt_of_lt_of_le hk h.hB)).trans (h.fr.block k hk hX)⟩, ?_, h.s0, h.sNew, ?_, ?_, ?_, ?_, h.ow, h.gl⟩, hle⟩
 ·show B ≤ (E.w.alloc _).heap.size
  have := h.hB; omega
 ·intro b o hb
  show b < (E.w.alloc _).heap.size
  have := h.slt b o hb; omega
 ·intro l hl
  by_cases h1 : l = d
  ·exact .inr h1
  ·simp only [setM, if_neg h1] at hl; exact .inl (h.hA l hl)
 ·intro l hl
  by_cases h1 : l = d
  ·subst h1
   refine ⟨cs, e, ?_, ?_, ?_, ?_⟩
   ·simp only [Zn, if_true]; exact hnew
   ·simp only [setM, if_true]; simp only [Zn, if_true]; exact hc
   ·intro o ho
    simp only [Zn, if_true] at ho
    exact absurd (h.slt _ _ ho) (Nat.lt_irrefl _)
   ·left; simp only [Zn, if_true]; exact h.hB
  ·have hA : E.A l := by rcases hl with hl | hl; exact hl; exact absurd hl h1
   obtain ⟨cs', e', hh, hc', hs, hb⟩ := h.loc l hA
   refine ⟨cs', e', ?_, ?_, ?_, ?_⟩
   ·simp only [Zn, if_neg h1]; exact (hold _ (h.lt hA)).trans hh
   ·simp only [setM, if_neg h1]
    have := hc'.mono hle
    simp only [Zn, if_neg h1]
    exact this
   ·intro o ho; simp only [Zn, if_neg h1] at ho; exact hs o ho
   ·simp only [Zn, if_neg h1]; exact hb
 ·intro l l' hl hl' he
  by_cases h1 : l = d <;> by_cases h2 : l' = d
  ·rw [h1, h2]
  ·have hA : E.A l' := by rcases hl' with h3 | h3; exact h3; exact absurd h3 h2
   simp only [Zn, if_pos h1, if_neg h2] at he
   have := h.lt hA; omega
  ·have hA : E.A l := by rcases hl with h3 | h3; exact h3; exact absurd h3 h1
   simp only [Zn, if_neg h1, if_pos h2] at he
   have := h.lt hA; omega
  ·have hA : E.A l := by rcases hl with h3 | h3; exact h3; exact absurd h3 h1
   have hA' : E.A l' := by rcases hl' with h3 | h3; exact h3; exact absurd h3 h2
   simp only [Zn, if_neg h1, if_neg h2] at he
   exact h.locne l l' hA hA' he
/-! ### Blocks that are written -/
theorem znD (w : World) (g : Nat) (cs : Array Value) : (w.setRow g cs).heap.size = w.heap.size := by simp [World.setRow]
theorem z8E (h : W3 P B X w0 S0 E m) {l : Nat} (hA : E.A l) {cs cs' : Array Value} {e : TypeId} {z : List AV} (hh : E.w.heap[E.β l]? = some (.cells cs e (0, 0)))
  (hc : BlkR P { E with w := E.w.setRow (E.β l) cs' } (E.cp l) cs' z) :
  W3 P B X w0 S0 { E with w := E.w.setRow (E.β l) cs' } (setM m l z) ∧ E.le { E with w := E.w.setRow (E.β l) cs' } := by
 obtain ⟨cs2, e2, hh2, hc2, hsl, hbl⟩ := h.loc l hA
 have hnew : (E.w.setRow (E.β l) cs').heap[E.β l]? = some (.cells cs' e (0, 0)) := setRow_heap E.w _ cs _ e (0, 0) hh
 have hold : ∀ k, k ≠ E.β l → (E.w.setRow (E.β l) cs').heap[k]? = E.w.heap[k]? := fun k hk => setRow_other E.w _ k _ hk
 have hsize := znD E.w (E.β l) cs'
 have hle : E.le { E with w := E.w.setRow (E.β l) cs' } :=
  ⟨fun b o u hs hcell => by
   have hb : b ≠ E.β l := by rintro rfl; exact hsl o hs
   show World.cell? _ _ = _
   rw [z0V (hold b hb)]; exact hcell, fun _ _ hs => hs, fun _ ha => ⟨ha, rfl, rfl⟩, fun _ _ _ _ hr => .inl hr, fun _ _ hr => hr⟩
 refine ⟨⟨⟨h.fr.os, h.fr.tape, h.fr.output, by show _ ≤ (World.setRow _ _ _).heap.size; rw [hsize]; exact h.fr.size, fun k hk hX => ?_⟩, by show _ ≤ (World.setRow _ _ _).heap.size; rw [hsize]; exact h.hB, h.s0, h.sNew,
  fun b o hb => by show _ < (World.setRow _ _ _).heap.size; rw [hsize]; exact h.slt b o hb, ?_, ?_, h.locne, h.ow, h.gl⟩, hle⟩
 ·have : k ≠ E.β l := by
   rintro rfl
   rcases hbl with h1 | h1
   ·omega
   ·exact hX h1
  exact (hold k this).trans (h.fr.block k hk hX)
 ·intro l' hl'
  by_cases h1 : l' = l
  ·rw [h1]; exact hA
  ·simp only [setM, if_neg h1] at hl'; exact h.hA l' hl'
 ·intro l' hl'
  by_cases h1 : l' = l
  ·subst h1
   refine ⟨_, e, hnew, ?_, hsl, hbl⟩
   simp only [setM, if_true]
   exact hc
  ·obtain ⟨cs', e', hh', hc', hs', hb'⟩ := h.loc l' hl'
   have hne : E.β l' ≠ E.β l := fun he => h1 (h.locne l' l hl' hA he)
   refine ⟨cs', e', (hold _ hne).trans hh', ?_, hs', hb'⟩
   simp only [setM, if_neg h1]
   exact hc'.mono hle
/-! ### Blocks that are forgotten -/
def ZH (E : Env) (l : Nat) : Env := { E with A := fun k => E.A k ∧ k ≠ l }
theorem envKill_le {l : Nat} : (ZH E l).le E := ⟨fun _ _ _ _ h => h, fun _ _ h => h, fun _ h => ⟨h.1, rfl, rfl⟩, fun _ _ _ _ h => .inl h, fun _ _ h => h⟩
theorem ztV (h : W3 P B X w0 S0 E m) (l : Nat) {m' : Nat → List AV} (hl : m' l = []) (hlen : ∀ k, k ≠ l → (m' k).length ≤ (m k).length)
  (hm : ∀ k, k ≠ l → ∀ (i : Nat) (x y : AV), (m k)[i]? = some x → (m' k)[i]? = some y → ∀ v, VR P E v x → VR P (ZH E l) v y) : W3 P B X w0 S0 (ZH E l) m' := by
 refine ⟨h.fr, h.hB, h.s0, h.sNew, h.slt, fun k hk => ?_, fun k hA => ?_, fun k k' hA hA' => h.locne k k' hA.1 hA'.1, h.ow, h.gl⟩
 ·have hkl : k ≠ l := by rintro rfl; exact hk hl
  refine ⟨h.hA k fun h0 => hk (List.eq_nil_of_length_eq_zero (Nat.le_zero.1 ?_)), hkl⟩
  have := hlen k hkl; rw [h0] at this; exact this
 ·obtain ⟨cs, e, hh, hc, hs, hb⟩ := h.loc k hA.1
  refine ⟨cs, e, hh, ⟨hc.1, Nat.le_trans (hlen k hA.2) hc.2.1, fun i v y hv hy => ?_⟩, hs, hb⟩
  have hi : i < (m k).length := Nat.lt_of_lt_of_le (List.getElem?_eq_some_iff.1 hy).1 (hlen k hA.2)
  have h1 := hc.2.2 i v _ hv (List.getElem?_eq_getElem hi)
  exact ⟨hm k hA.2 i _ y (List.getElem?_eq_getElem hi) hy v h1.1, h1.2⟩
/-! ### Blocks that are frozen -/
def z3O (E : Env) (l n : Nat) : Env := { E with S := fun b o => E.S b o ∨ (E.A l ∧ b = E.β l ∧ o < n), A := fun k => E.A k ∧ k ≠ l }
theorem zuN (h : W3 P B X w0 S0 E m) (l n : Nat) {m' : Nat → List AV} (hl : m' l = []) (hlen : ∀ k, k ≠ l → (m' k).length ≤ (m k).length)
  (hm : ∀ k, k ≠ l → ∀ (i : Nat) (x y : AV), (m k)[i]? = some x → (m' k)[i]? = some y → ∀ v, VR P E v x → VR P (z3O E l n) v y) : W3 P B X w0 S0 (z3O E l n) m' := by
 refine ⟨h.fr, h.hB, fun b o hb => .inl (h.s0 b o hb), ?_, ?_, fun k hk => ?_, fun k hA => ?_, fun k k' hA hA' => h.locne k k' hA.1 hA'.1, h.ow, h.gl⟩
 ·rintro b o (hb | ⟨hA, rfl, _⟩)
  ·exact h.sNew b o hb
  ·obtain ⟨_, _, _, _, _, hb⟩ := h.loc l hA
   exact .inr hb
 ·rintro b o (hb | ⟨hA, rfl, _⟩)
  ·exact h.slt b o hb
  ·exact h.lt hA
 ·have hkl : k ≠ l := by rintro rfl; exact hk hl
  refine ⟨h.hA k fun h0 => hk (List.eq_nil_of_length_eq_zero (Nat.le_zero.1 ?_)), hkl⟩
  have := hlen k hkl; rw [h0] at this; exact this
 ·obtain ⟨cs, e, hh, hc, hs, hb⟩ := h.loc k hA.1
  refine ⟨cs, e, hh, ⟨hc.1, Nat.le_trans (hlen k hA.2) hc.2.1, fun i v y hv hy => ?_⟩, ?_, hb⟩
  ·have hi : i < (m k).length := Nat.lt_of_lt_of_le (List.getElem?_eq_some_iff.1 hy).1 (hlen k hA.2)
   have h1 := hc.2.2 i v _ hv (List.getElem?_eq_getElem hi)
   exact ⟨hm k hA.2 i _ y (List.getElem?_eq_getElem hi) hy v h1.1, h1.2⟩
  ·rintro o (ho | ⟨hA', he, _⟩)
   ·exact hs o ho
   ·exact hA.2 (h.locne k l hA.1 hA' he)
end
end Go.Kx
namespace Go.Kx
open Go.Rb
/-! ### References are no younger than what they refer to -/
def ok0 (H : Nat → Hd) : RV → Prop
 | .arw l g _ => g ≤ (H l).gen
 | .ars l g _ _ _ => g ≤ (H l).gen
 | .ptr l g _ => g ≤ (H l).gen
 | .pel l g _ _ _ => g ≤ (H l).gen
 | .arx l g _ _ _ _ => g ≤ (H l).gen
 | _ => True
def ok1 (H : Nat → Hd) : RV → Prop
 | .fn _ caps => ∀ c ∈ caps, ok0 H c
 | x => ok0 H x
def ok2 (H : Nat → Hd) : RV → Prop
 | .ag xs => ∀ x ∈ xs, ok1 H x
 | x => ok1 H x
def ok3 (H : Nat → Hd) : RV → Prop
 | .tup xs => ∀ x ∈ xs, ok2 H x
 | x => ok2 H x
structure Tx (P : Program) (E : Env) (H : Nat → Hd) (E' : Env) (H' : Nat → Hd) : Prop where
 v : ∀ v x, ok0 H x → VR P E v (av0 H x) → VR P E' v (av0 H' x)
 any : ∀ x, ok0 H x → av0 H x = .any → av0 H' x = .any
 ok : ∀ x, ok0 H x → ok0 H' x
section
variable {P : Program} {E E' : Env} {H H' : Nat → Hd}
theorem jA (x : AV) : AV.isAny x = true ↔ x = .any := by cases x <;> simp [AV.isAny]
theorem Tx.ok1 (h : Tx P E H E' H') (x : RV) (hx : ok1 H x) : ok1 H' x := by
 cases x with
 | fn f caps => exact fun c hc => h.ok c (hx c hc)
 | d c x => exact h.ok (.d c x) hx
 | nils => exact h.ok .nils hx
 | ag xs => exact h.ok (.ag xs) hx
 | tup xs => exact h.ok (.tup xs) hx
 | arw l g e => exact h.ok (.arw l g e) hx
 | ars l g e o n => exact h.ok (.ars l g e o n) hx
 | ptr l g o => exact h.ok (.ptr l g o) hx
 | pel l g e i k => exact h.ok (.pel l g e i k) hx
 | arx l g e i k c => exact h.ok (.arx l g e i k c) hx
 | el r x o => exact h.ok (.el r x o) hx
 | ifc b => exact h.ok (.ifc b) hx
 | und => exact h.ok .und hx
 | any => exact h.ok .any hx
theorem z8F (H : Nat → Hd) (x : RV) (hx : ok1 H x) (hn : ∀ xs, x ≠ .ag xs) : ok2 H x := by
 cases x <;> first | exact absurd rfl (hn _) | exact hx
theorem z38 {H : Nat → Hd} {x : RV} (hx : ok2 H x) (hn : ∀ xs, x ≠ .ag xs) : ok1 H x := by
 cases x <;> first | exact absurd rfl (hn _) | exact hx
theorem z11 {H : Nat → Hd} {x : RV} (hx : ok3 H x) (hn : ∀ xs, x ≠ .tup xs) : ok2 H x := by
 cases x <;> first | exact absurd rfl (hn _) | exact hx
theorem z5C (H : Nat → Hd) (x : RV) (hx : ok2 H x) (hn : ∀ xs, x ≠ .tup xs) : ok3 H x := by
 cases x <;> first | exact absurd rfl (hn _) | exact hx
theorem ztW {x : RV} (hx : ok0 H x) (hn : ∀ f xs, x ≠ .fn f xs) : ok1 H x := by
 cases x <;> first | exact absurd rfl (hn _ _) | exact hx
theorem Tx.ok2 (h : Tx P E H E' H') (x : RV) (hx : ok2 H x) : ok2 H' x := by
 by_cases hn : ∃ xs, x = .ag xs
 ·obtain ⟨xs, rfl⟩ := hn
  exact fun c hc => h.ok1 c (hx c hc)
 ·exact z8F _ _ (h.ok1 x (z38 hx fun xs e => hn ⟨xs, e⟩)) fun xs e => hn ⟨xs, e⟩
theorem Tx.ok3 (h : Tx P E H E' H') (x : RV) (hx : ok3 H x) : ok3 H' x := by
 by_cases hn : ∃ xs, x = .tup xs
 ·obtain ⟨xs, rfl⟩ := hn
  exact fun c hc => h.ok2 c (hx c hc)
 ·exact z5C _ _ (h.ok2 x (z11 hx fun xs e => hn ⟨xs, e⟩)) fun xs e => hn ⟨xs, e⟩
theorem z5r (H : Nat → Hd) (x : RV) (hn : ∀ f xs, x ≠ .fn f xs) : av1 H x = av0 H x := by
 cases x <;> first | exact absurd rfl (hn _ _) | rfl
theorem z5s (H : Nat → Hd) (x : RV) (hn : ∀ xs, x ≠ .ag xs) : av2 H x = av1 H x := by
 cases x <;> first | exact absurd rfl (hn _) | rfl
theorem z12 (H : Nat → Hd) (x : RV) (hn : ∀ xs, x ≠ .tup xs) : av3 H x = av2 H x := by
 cases x <;> first | exact absurd rfl (hn _) | rfl
theorem Tx.v1 (h : Tx P E H E' H') (v : Value) (x : RV) (hx : Go.Kx.ok1 H x) (hv : VR P E v (av1 H x)) : VR P E' v (av1 H' x) := by
 by_cases hn : ∃ f xs, x = .fn f xs
 ·obtain ⟨f, caps, rfl⟩ := hn
  simp only [av1] at hv ⊢
  by_cases h' : (caps.map (av0 H')).any AV.isAny = true
  ·rw [if_pos h']; exact .any _
  ·rw [if_neg h']
   by_cases h1 : (caps.map (av0 H)).any AV.isAny = true
   ·exfalso
    rw [List.any_map, List.any_eq_true] at h1
    obtain ⟨c, hc, ha⟩ := h1
    refine h' ?_
    rw [List.any_map, List.any_eq_true]
    exact ⟨c, hc, (jA _).2 (h.any c (hx c hc) ((jA _).1 ha))⟩
   ·rw [if_neg h1] at hv
    cases hv with
    | fn _ cs _ hl hr =>
     refine .fn f cs _ (by rw [hl, List.length_map, List.length_map]) fun i u y hu hy => ?_
     rw [List.getElem?_map, Option.map_eq_some_iff] at hy
     obtain ⟨c, hc, rfl⟩ := hy
     exact h.v u c (hx c (List.mem_of_getElem? hc)) (hr i u _ hu (by rw [List.getElem?_map, hc]; rfl))
 ·have hn' : ∀ f xs, x ≠ .fn f xs := fun f xs e => hn ⟨f, xs, e⟩
  rw [z5r _ _ hn'] at hv ⊢
  refine h.v v x ?_ hv
  cases x <;> first | exact absurd rfl (hn' _ _) | exact hx
theorem Tx.v2 (h : Tx P E H E' H') (v : Value) (x : RV) (hx : Go.Kx.ok2 H x) (hv : VR P E v (av2 H x)) : VR P E' v (av2 H' x) := by
 by_cases hn : ∃ xs, x = .ag xs
 ·obtain ⟨xs, rfl⟩ := hn
  simp only [av2] at hv ⊢
  cases hv with
  | agg vs _ hl h1 hr =>
   refine .agg vs _ (by rw [hl, List.length_map, List.length_map]) h1 fun i u y hu hy => ?_
   rw [List.getElem?_map, Option.map_eq_some_iff] at hy
   obtain ⟨c, hc, rfl⟩ := hy
   exact h.v1 u c (hx c (List.mem_of_getElem? hc)) (hr i u _ hu (by rw [List.getElem?_map, hc]; rfl))
 ·have hn' : ∀ xs, x ≠ .ag xs := fun xs e => hn ⟨xs, e⟩
  rw [z5s _ _ hn'] at hv ⊢
  exact h.v1 v x (z38 hx hn') hv
theorem Tx.v3 (h : Tx P E H E' H') (v : Value) (x : RV) (hx : Go.Kx.ok3 H x) (hv : VR P E v (av3 H x)) : VR P E' v (av3 H' x) := by
 by_cases hn : ∃ xs, x = .tup xs
 ·obtain ⟨xs, rfl⟩ := hn
  simp only [av3] at hv ⊢
  cases hv with
  | tup vs _ hl hr =>
   refine .tup vs _ (by rw [hl, List.length_map, List.length_map]) fun i u y hu hy => ?_
   rw [List.getElem?_map, Option.map_eq_some_iff] at hy
   obtain ⟨c, hc, rfl⟩ := hy
   exact h.v2 u c (hx c (List.mem_of_getElem? hc)) (hr i u _ hu (by rw [List.getElem?_map, hc]; rfl))
 ·have hn' : ∀ xs, x ≠ .tup xs := fun xs e => hn ⟨xs, e⟩
  rw [z12 _ _ hn'] at hv ⊢
  exact h.v2 v x (z11 hx hn') hv
theorem Tx.refl : Tx P E H E H := ⟨fun _ _ _ h => h, fun _ _ h => h, fun _ h => h⟩
theorem Tx.trans {E'' : Env} {H'' : Nat → Hd} (h : Tx P E H E' H') (k : Tx P E' H' E'' H'') : Tx P E H E'' H'' :=
 ⟨fun v x hx hv => k.v v x (h.ok x hx) (h.v v x hx hv), fun x hx ha => k.any x (h.ok x hx) (h.any x hx ha), fun x hx => k.ok x (h.ok x hx)⟩
theorem Tx.le (hle : E.le E') : Tx P E H E' H := ⟨fun _ _ _ h => h.mono hle, fun _ _ h => h, fun _ h => h⟩
theorem Tx.same (hle : E.le E') (hg : ∀ l, (H l).gen ≤ (H' l).gen) (hs : ∀ x, ok0 H x → av0 H' x = av0 H x) : Tx P E H E' H' :=
 ⟨fun v x hx hv => by rw [hs x hx]; exact hv.mono hle, fun x hx ha => by rw [hs x hx]; exact ha, fun x hx => by
  cases x <;> first | exact Nat.le_trans hx (hg _) | trivial⟩
def YY (H : Nat → Hd) (l g : Nat) : Prop := match H l with | .no _ => True | h => h.gen ≠ g
theorem z7c {l g : Nat} (h : YY H l g) (e : TypeId) : avW H l g e = .any := by
 unfold avW
 cases hq : H l with
 | no _ => rfl
 | cells g' n c e' => rw [YY, hq] at h; exact if_neg fun hc => h hc.1.symm
 | flat g' fr e' r rows => rw [YY, hq] at h; exact if_neg fun hc => h hc.1.symm
theorem z7d {l g : Nat} (h : YY H l g) (e : TypeId) (o n : Nat) : avS H l g e o n = .any := by
 unfold avS
 cases hq : H l with
 | no _ => rfl
 | cells g' n c e' => rfl
 | flat g' fr e' r rows => rw [YY, hq] at h; exact if_neg fun hc => h hc.1.symm
theorem z7e {l g : Nat} (h : YY H l g) (o : Nat) : avP H l g o = .any := by
 unfold avP
 cases hq : H l with
 | no _ => rfl
 | cells g' n c e' => rw [YY, hq] at h; exact if_neg fun hc => h hc.symm
 | flat g' fr e' r rows => rfl
theorem z7f {l g : Nat} (h : YY H l g) (e : TypeId) (i k c : Nat) : avX H l g e i k c = .any := by
 unfold avX
 cases hq : H l with
 | no _ => rfl
 | cells g' n c e' => rfl
 | flat g' fr e' r rows => rw [YY, hq] at h; exact if_neg fun hc => h hc.1.symm
theorem z7g {l g : Nat} (h : YY H l g) (e : TypeId) (i k : Nat) : avE H l g e i k = .any := by
 unfold avE
 cases hq : H l with
 | no _ => rfl
 | cells g' n c e' => rfl
 | flat g' fr e' r rows => rw [YY, hq] at h; exact if_neg fun hc => h hc.1.symm
theorem zkV {l g : Nat} (h : g < (H l).gen) : YY H l g := by
 unfold YY
 cases hq : H l with
 | no _ => trivial
 | cells g' n c e' => rw [hq] at h; exact fun he => absurd h (by rw [he]; exact Nat.lt_irrefl _)
 | flat g' fr e' r rows => rw [hq] at h; exact fun he => absurd h (by rw [he]; exact Nat.lt_irrefl _)
def updH (H : Nat → Hd) (l : Nat) (h : Hd) : Nat → Hd := fun j => if j = l then h else H j
theorem zt (l : Nat) (h : Hd) : updH H l h l = h := by simp [updH]
theorem zR {l k : Nat} (h : Hd) (hk : k ≠ l) : updH H l h k = H k := by simp [updH, hk]
theorem yy {l k g : Nat} (h : Hd) (hk : k ≠ l) : (∀ e, avW (updH H l h) k g e = avW H k g e) ∧ (∀ e o n, avS (updH H l h) k g e o n = avS H k g e o n) ∧ (∀ o, avP (updH H l h) k g o = avP H k g o) ∧
  (∀ e i j, avE (updH H l h) k g e i j = avE H k g e i j) ∧ (∀ e i j c, avX (updH H l h) k g e i j c = avX H k g e i j c) := by
 refine ⟨fun e => ?_, fun e o n => ?_, fun o => ?_, fun e i j => ?_, fun e i j c => ?_⟩ <;> simp only [avW, avS, avP, avE, avX, zR h hk]
def offL (l : Nat) : AV → Prop
 | .arr k _ _ _ _ => k ≠ l
 | .arx k _ _ _ _ => k ≠ l
 | .ptr k _ => k ≠ l
 | .agg _ | .tup _ | .fn _ _ | .own .. => False
 | _ => True
theorem Vh {l : Nat} {v : Value} {x : AV} (hx : offL l x) (hle : (ZH E l).le E') (h : VR P E v x) : VR P E' v x := by
 cases h with
 | c v x hr => exact VR.mono hle (.c (E := ZH E l) _ _ hr)
 | nils => exact .nils
 | agg => exact hx.elim
 | tup => exact hx.elim
 | fn => exact hx.elim
 | own => exact hx.elim
 | arr k o n c c' e hA h1 h2 h3 h4 => exact VR.mono hle (.arr (E := ZH E l) _ _ _ _ _ _ ⟨hA, hx⟩ h1 h2 h3 h4)
 | arr0 => exact .arr0 _ _ _ _
 | arx k o n c e hA h2 h3 h4 => exact VR.mono hle (.arx (E := ZH E l) _ _ _ _ _ ⟨hA, hx⟩ h2 h3 h4)
 | arx0 => exact .arx0 _ _ _ _
 | ptr k o hA => exact VR.mono hle (.ptr (E := ZH E l) _ _ ⟨hA, hx⟩)
 | el b o xs vs hr => exact VR.mono hle (.el (E := ZH E l) b o xs vs hr)
 | ifn => exact .ifn
 | ifs t v => exact .ifs t v
 | und => exact .und
 | any => exact .any _
theorem ztB {l k : Nat} (hk : k ≠ l) (g : Nat) (e : TypeId) : offL l (avW H k g e) := by
 unfold avW; split <;> (try split) <;> (try split) <;> first | trivial | exact hk
theorem ztC {l k : Nat} (hk : k ≠ l) (g : Nat) (e : TypeId) (o n : Nat) : offL l (avS H k g e o n) := by
 unfold avS; split <;> (try split) <;> (try split) <;> (try split) <;> first | trivial | exact hk
theorem ztD {l k : Nat} (hk : k ≠ l) (g o : Nat) : offL l (avP H k g o) := by
 unfold avP; split <;> (try split) <;> first | trivial | exact hk
theorem ztE {l k : Nat} (hk : k ≠ l) (g : Nat) (e : TypeId) (i j : Nat) : offL l (avE H k g e i j) := by
 unfold avE; split <;> (try split) <;> first | trivial | exact hk
theorem ztF {l k : Nat} (hk : k ≠ l) (g : Nat) (e : TypeId) (i j c : Nat) : offL l (avX H k g e i j c) := by
 unfold avX; split <;> (try split) <;> first | trivial | exact hk
theorem Tx.upd {l : Nat} {h : Hd} (hg : (H l).gen ≤ h.gen) (hst : ∀ g, g ≤ (H l).gen → YY (updH H l h) l g) (hle : (ZH E l).le E') : Tx P E H E' (updH H l h) := by
 have ok' : ∀ k, (H k).gen ≤ (updH H l h k).gen := by
  intro k
  by_cases hk : k = l
  ·subst hk; rw [zt]; exact hg
  ·rw [zR h hk]; exact Nat.le_refl _
 refine ⟨fun v x hx hv => ?_, fun x hx ha => ?_, fun x hx => ?_⟩
 ·cases x with
  | arw k g e =>
   by_cases hk : k = l
   ·subst hk
    show VR P E' v (avW _ _ _ _)
    rw [z7c (hst g hx)]; exact .any _
   ·show VR P E' v (avW _ _ _ _)
    rw [(yy h hk).1]
    exact Vh (ztB hk g e) hle hv
  | ars k g e o n =>
   by_cases hk : k = l
   ·subst hk
    show VR P E' v (avS _ _ _ _ _ _)
    rw [z7d (hst g hx)]; exact .any _
   ·show VR P E' v (avS _ _ _ _ _ _)
    rw [(yy h hk).2.1]
    exact Vh (ztC hk g e o n) hle hv
  | ptr k g o =>
   by_cases hk : k = l
   ·subst hk
    show VR P E' v (avP _ _ _ _)
    rw [z7e (hst g hx)]; exact .any _
   ·show VR P E' v (avP _ _ _ _)
    rw [(yy h hk).2.2.1]
    exact Vh (ztD hk g o) hle hv
  | pel k g e i j =>
   by_cases hk : k = l
   ·subst hk
    show VR P E' v (avE _ _ _ _ _ _)
    rw [z7g (hst g hx)]; exact .any _
   ·show VR P E' v (avE _ _ _ _ _ _)
    rw [(yy h hk).2.2.2.1]
    exact Vh (ztE hk g e i j) hle hv
  | arx k g e i j c =>
   by_cases hk : k = l
   ·subst hk
    show VR P E' v (avX _ _ _ _ _ _ _)
    rw [z7f (hst g hx)]; exact .any _
   ·show VR P E' v (avX _ _ _ _ _ _ _)
    rw [(yy h hk).2.2.2.2]
    exact Vh (ztF hk g e i j c) hle hv
  | d c y => cases hv with | c _ _ hr => exact VR.mono hle (.c (E := ZH E l) _ _ hr)
  | nils => cases hv with | nils => exact .nils
  | el r y o => cases hv with | el b q _ vs hr => exact VR.mono hle (.el (E := ZH E l) b q _ vs hr)
  | und => cases hv with | und => exact .und
  | ifc b => cases hv with
   | ifn => exact .ifn
   | ifs t v => exact .ifs t v
  | ag xs => exact .any _
  | tup xs => exact .any _
  | fn f xs => exact .any _
  | any => exact .any _
 ·cases x with
  | arw k g e =>
   by_cases hk : k = l
   ·subst hk; exact z7c (hst g hx) e
   ·exact ((yy h hk).1 e).trans ha
  | ars k g e o n =>
   by_cases hk : k = l
   ·subst hk; exact z7d (hst g hx) e o n
   ·exact ((yy h hk).2.1 e o n).trans ha
  | ptr k g o =>
   by_cases hk : k = l
   ·subst hk; exact z7e (hst g hx) o
   ·exact ((yy h hk).2.2.1 o).trans ha
  | pel k g e i j =>
   by_cases hk : k = l
   ·subst hk; exact z7g (hst g hx) e i j
   ·exact ((yy h hk).2.2.2.1 e i j).trans ha
  | arx k g e i j c =>
   by_cases hk : k = l
   ·subst hk; exact z7f (hst g hx) e i j c
   ·exact ((yy h hk).2.2.2.2 e i j c).trans ha
  | _ => exact ha
 ·cases x <;> first | exact Nat.le_trans hx (ok' _) | trivial
end
end Go.Kx
namespace Go.Kx
open Go.Rb
theorem ziy {sz : Nat} : ∀ (rows : List (List C)) (i j : Nat) (r : List C) (c : C), (∀ r ∈ rows, r.length = sz) → rows[i]? = some r → r[j]? = some c → rows.flatten[i * sz + j]? = some c
 | [], i, j, r, c, _, hi, _ => by simp at hi
 | r0 :: rows, i, j, r, c, hsz, hi, hj => by
  have h0 := hsz r0 List.mem_cons_self
  rw [List.flatten_cons]
  cases i with
  | zero =>
   simp at hi
   subst hi
   rw [Nat.zero_mul, Nat.zero_add, List.getElem?_append_left (List.getElem?_eq_some_iff.1 hj).1]
   exact hj
  | succ i =>
   rw [List.getElem?_append_right (by rw [h0, Nat.add_mul]; omega), h0, show (i + 1) * sz + j - sz = i * sz + j from by rw [Nat.add_mul]; omega]
   exact ziy rows i j r c (fun r hr => hsz r (List.mem_cons_of_mem _ hr)) (by simpa using hi) hj
theorem ziz {sz : Nat} : ∀ (rows : List (List C)), (∀ r ∈ rows, r.length = sz) → rows.flatten.length = rows.length * sz
 | [], _ => by simp
 | r :: rows, h => by
  rw [List.flatten_cons, List.length_append, h r List.mem_cons_self, ziz rows fun r hr => h r (List.mem_cons_of_mem _ hr), List.length_cons, Nat.add_mul]
  omega
def rw' (r : RT) (rows : List (DenR r)) : List (List C) := rows.map (encR r)
theorem z8G {r : RT} {rows : List (DenR r)} : ∀ q ∈ rw' r rows, q.length = r.size := by
 intro q hq
 obtain ⟨x, _, rfl⟩ := List.mem_map.1 hq
 exact ZW r x
theorem zot (r : RT) (rows : List (DenR r)) : (rw' r rows).flatten.length = rows.length * r.size := by
 rw [ziz _ z8G]; simp [rw']
theorem zbe {r : RT} {rows : List (DenR r)} {i j : Nat} {x : DenR r} {c : C} (hi : rows[i]? = some x) (hj : (encR r x)[j]? = some c) : (rw' r rows).flatten[i * r.size + j]? = some c :=
 ziy _ i j _ c z8G (by simp [rw', hi]) hj
section
variable {P : Program} {B : Nat} {X : Nat → Prop} {w0 : World} {S0 : Nat → Nat → Prop} {E : Env} {m : Nat → List AV}
theorem zdD (h : W3 P B X w0 S0 E m) {l : Nat} {e : TypeId} {r : RT} {rows : List (DenR r)} (hm : m l = (rw' r rows).flatten.map .c) (hsz : r.size = P.cellsOf e) {off len cap : Nat} (hin : off + len ≤ rows.length)
  {v : Value} (hv : VR P E v (.arr l (off * r.size) len cap e)) {S' : Nat → Nat → Prop} (hS : ∀ b o, E.S b o → S' b o) (hS' : ∀ o, E.A l → o < rows.length * r.size → S' (E.β l) o) :
  Rd P E.w S' v (.sl e (rw' r ((rows.drop off).take len))) := by
 cases hv with
 | arr0 _ _ a _ =>
  have : (rows.drop off).take 0 = [] := List.take_zero
  rw [this]; exact .emp _ _ _
 | arr _ _ _ _ c _ hA h1 h2 h3 h4 =>
  obtain ⟨cs, e', hh, hc, hs, hb⟩ := h.loc l hA
  have key : ∀ (i j : Nat) (x : DenR r) (cc : C), rows[i]? = some x → (encR r x)[j]? = some cc → ∃ u, cs[i * r.size + j]? = some u ∧ Rd P E.w E.S u cc := by
   intro i j x cc hi hj
   have h5 := zbe hi hj
   have h6 : (m l)[i * r.size + j]? = some (.c cc) := by rw [hm, List.getElem?_map, h5]; rfl
   have h7 : i * r.size + j < cs.size := by rw [hc.1]; exact Nat.lt_of_lt_of_le (List.getElem?_eq_some_iff.1 h6).1 hc.2.1
   have h8 := hc.2.2 _ _ _ (Array.getElem?_eq_getElem h7) h6
   exact ⟨_, Array.getElem?_eq_getElem h7, jy h8.1⟩
  have hget : ∀ (i : Nat) (q : List C), (rw' r ((rows.drop off).take len))[i]? = some q → ∃ x, rows[off + i]? = some x ∧ q = encR r x ∧ i < len := by
   intro i q hq
   simp only [rw', List.getElem?_map, Option.map_eq_some_iff] at hq
   obtain ⟨x, hx, rfl⟩ := hq
   rw [List.getElem?_take] at hx
   split at hx
   ·rename_i hi; rw [List.getElem?_drop] at hx; exact ⟨x, hx, rfl, hi⟩
   ·cases hx
  refine .sl e (E.β l) (off * r.size) len c _ (fun i j => cs.getD (off * r.size + (i * r.size + j)) undef) (by simp [rw']; omega) h2 (fun i q hq => ?_) (fun i j q cc hq hj => ?_) (fun i j q cc hq hj => ?_)
  ·obtain ⟨x, _, rfl, _⟩ := hget i q hq
   rw [ZW, hsz]
  ·obtain ⟨x, hx, rfl, hi⟩ := hget i q hq
   obtain ⟨u, hu, _⟩ := key _ _ _ _ hx hj
   rw [← hsz]
   have he : (off + i) * r.size + j = off * r.size + (i * r.size + j) := by rw [Nat.add_mul]; omega
   rw [he] at hu
   refine ⟨?_, hS' _ hA ?_⟩
   ·rw [cell_of_row _ _ _ _ _ _ hh, hu]
    simp [Array.getD_eq_getD_getElem?, hu]
   ·have hjl : j < r.size := by rw [← ZW r x]; exact (List.getElem?_eq_some_iff.1 hj).1
    have hil : off + i < rows.length := by omega
    have := Nat.mul_le_mul_right r.size (show off + i + 1 ≤ rows.length from hil)
    rw [Nat.add_mul, Nat.one_mul] at this
    omega
  ·obtain ⟨x, hx, rfl, hi⟩ := hget i q hq
   obtain ⟨u, hu, hr⟩ := key _ _ _ _ hx hj
   have he : (off + i) * r.size + j = off * r.size + (i * r.size + j) := by rw [Nat.add_mul]; omega
   rw [he] at hu
   show Rd P E.w S' (cs.getD _ undef) cc
   rw [show cs.getD (off * r.size + (i * r.size + j)) undef = u from by simp [Array.getD_eq_getD_getElem?, hu]]
   exact hr.mono (fun _ _ _ _ h => h) hS
theorem Tx.frz {H : Nat → Hd} (h : W3 P B X w0 S0 E m) {l g : Nat} {e : TypeId} {r : RT} {rows : List (DenR r)} (hH : H l = .flat g false e r rows) (hm : m l = (rw' r rows).flatten.map .c) (hsz : r.size = P.cellsOf e) :
  Tx P E H (z3O E l (rows.length * r.size)) (updH H l (.flat g true e r rows)) := by
 have hk : (ZH E l).le (z3O E l (rows.length * r.size)) := ⟨fun _ _ _ _ h => h, fun _ _ h => .inl h, fun _ h => ⟨h, rfl, rfl⟩, fun _ _ _ _ h => .inl h, fun _ _ h => h⟩
 have hgen : ∀ k, (H k).gen ≤ (updH H l (.flat g true e r rows) k).gen := by
  intro k
  by_cases hkl : k = l
  ·subst hkl; rw [zt, hH]; exact Nat.le_refl _
  ·rw [zR _ hkl]; exact Nat.le_refl _
 refine ⟨fun v x hx hv => ?_, fun x hx ha => ?_, fun x hx => ?_⟩
 ·cases x with
  | arw k g' e' =>
   show VR P _ v (avW _ _ _ _)
   have hv' : VR P E v (avW H k g' e') := hv
   by_cases hkl : k = l
   ·subst hkl
    simp only [avW, hH, zt] at hv' ⊢
    split
    ·rename_i hc
     obtain ⟨rfl, rfl⟩ := hc
     simp only [and_self, if_true, Bool.false_eq_true, if_false] at hv'
     refine .c _ _ ?_
     have h9 := zdD h hm hsz (off := 0) (len := rows.length) (by omega) (by rw [Nat.zero_mul]; exact hv') (S' := fun b o => E.S b o ∨ (E.A k ∧ b = E.β k ∧ o < rows.length * r.size)) (fun _ _ h => .inl h) (fun o hA ho => .inr ⟨hA, rfl, ho⟩)
     rw [List.drop_zero, List.take_length] at h9
     exact h9
    ·exact .any _
   ·rw [(yy _ hkl).1]; exact Vh (ztB hkl g' e') hk hv'
  | ars k g' e' o n =>
   show VR P _ v (avS _ _ _ _ _ _)
   have hv' : VR P E v (avS H k g' e' o n) := hv
   by_cases hkl : k = l
   ·subst hkl
    simp only [avS, hH, zt] at hv' ⊢
    split
    ·rename_i hc
     obtain ⟨rfl, rfl⟩ := hc
     simp only [and_self, if_true, Bool.false_eq_true, if_false] at hv'
     simp only [if_true]
     split
     ·rename_i hin
      refine .c _ _ ?_
      exact zdD h hm hsz hin hv' (S' := fun b o => E.S b o ∨ (E.A k ∧ b = E.β k ∧ o < rows.length * r.size)) (fun _ _ h => .inl h) (fun o hA ho => .inr ⟨hA, rfl, ho⟩)
     ·exact .any _
    ·exact .any _
   ·rw [(yy _ hkl).2.1]; exact Vh (ztC hkl g' e' o n) hk hv'
  | ptr k g' o =>
   show VR P _ v (avP _ _ _ _)
   have hv' : VR P E v (avP H k g' o) := hv
   by_cases hkl : k = l
   ·subst hkl; simp only [avP, zt]; exact .any _
   ·rw [(yy _ hkl).2.2.1]; exact Vh (ztD hkl g' o) hk hv'
  | pel k g' e' i j =>
   show VR P _ v (avE _ _ _ _ _ _)
   have hv' : VR P E v (avE H k g' e' i j) := hv
   by_cases hkl : k = l
   ·subst hkl; simp only [avE, zt]
    rw [if_neg (by simp)]; exact .any _
   ·rw [(yy _ hkl).2.2.2.1]; exact Vh (ztE hkl g' e' i j) hk hv'
  | arx k g' e' i j c =>
   show VR P _ v (avX _ _ _ _ _ _ _)
   have hv' : VR P E v (avX H k g' e' i j c) := hv
   by_cases hkl : k = l
   ·subst hkl; simp only [avX, zt]
    rw [if_neg (by simp)]; exact .any _
   ·rw [(yy _ hkl).2.2.2.2]; exact Vh (ztF hkl g' e' i j c) hk hv'
  | d c y => exact Vh (by trivial) hk hv
  | nils => exact Vh (x := .nils) (by trivial) hk hv
  | el r y o => exact Vh (x := .el _) (by trivial) hk hv
  | und => cases hv with | und => exact .und
  | ifc b => cases hv with
   | ifn => exact .ifn
   | ifs t v => exact .ifs t v
  | ag xs => exact .any _
  | tup xs => exact .any _
  | fn f xs => exact .any _
  | any => exact .any _
 ·cases x with
  | arw k g' e' =>
   by_cases hkl : k = l
   ·subst hkl
    simp only [av0, avW, hH, zt] at ha ⊢
    split at ha
    ·simp at ha
    ·rename_i hc; rw [if_neg hc]
   ·exact ((yy _ hkl).1 e').trans ha
  | ars k g' e' o n =>
   by_cases hkl : k = l
   ·subst hkl
    simp only [av0, avS, hH, zt] at ha ⊢
    split at ha
    ·simp at ha
    ·rename_i hc; rw [if_neg hc]
   ·exact ((yy _ hkl).2.1 e' o n).trans ha
  | ptr k g' o =>
   by_cases hkl : k = l
   ·subst hkl; simp only [av0, avP, zt]
   ·exact ((yy _ hkl).2.2.1 o).trans ha
  | pel k g' e' i j =>
   by_cases hkl : k = l
   ·subst hkl; simp only [av0, avE, zt]; simp
   ·exact ((yy _ hkl).2.2.2.1 e' i j).trans ha
  | arx k g' e' i j c =>
   by_cases hkl : k = l
   ·subst hkl; simp only [av0, avX, zt]; simp
   ·exact ((yy _ hkl).2.2.2.2 e' i j c).trans ha
  | _ => exact ha
 ·cases x <;> first | exact Nat.le_trans hx (hgen _) | trivial
end
end Go.Kx
namespace Go.Kx
open Go.Rb
def zpv (P : Program) (t : TypeId) : Prop := ∃ kt et, P.underlying t = some (.map kt et) ∧ P.underlying kt = some (.int .i64) ∧ ∃ i, P.info? et = some i ∧ i.zero = some (.string ⟨#[]⟩)
structure TOK (P : Program) (T : TT) : Prop where
 c : ∀ t d, T t = some d → P.cellsOf t = d.cells ∧ P.bytesOf t = d.bytes ∧ (P.info? t).isSome = true
 int : ∀ t d k, T t = some d → d.k = .int k → P.underlying t = some (.int k)
 bool : ∀ t d, T t = some d → d.k = .bool → P.underlying t = some .bool
 str : ∀ t d, T t = some d → d.k = .str → P.underlying t = some .string
 sl : ∀ t d e, T t = some d → d.k = .sl e → P.underlying t = some (.slice e) ∧ (P.info? e).isSome = true
 st : ∀ t d fs, T t = some d → d.k = .st fs → ∃ fs', P.underlying t = some (.struct fs') ∧ fs = fs'.toList.map (fun f => (f.offset, P.cellsOf f.type)) ∧ fs'.all (fun f => (P.info? f.type).isSome) = true
 rt : ∀ t d r, T t = some d → d.rt = some r → r.size = d.cells ∧ zc P t = some ((Y0 r).map (av1 noH))
 eq : ∀ t d fs r, T t = some d → d.k = .st fs → d.rt = some r → z0U (Y0 r) ≠ none → zkO P t d.cells
 ifc : ∀ t d, T t = some d → d.k = .ifc → ∃ ms, P.underlying t = some (.interface ms)
 mp : ∀ t d, T t = some d → d.k = .mp → zpv P t
def HdOK (P : Program) : Hd → Prop
 | .no _ => True
 | .cells _ n cnt e => cnt ≠ 0 → n = cnt * P.cellsOf e
 | .flat _ _ e r _ => r.size = P.cellsOf e
def Hd.live : Hd → Prop
 | .no _ => False
 | .cells .. => True
 | .flat _ fr _ _ _ => fr = false
def okC (σ : KS) (l j : Nat) : Prop :=
 match σ.H l with
 | .cells _ n _ _ => j < n → ok1 σ.H (σ.C l j)
 | _ => True
structure RelE (P : Program) (B : Nat) (X : Nat → Prop) (w0 : World) (S0 : Nat → Nat → Prop) (pa : List ((Nat → Value) × (Nat → RV))) (E : Env) (tm : Nat → Value) (σ : KS) : Prop where
 w3 : W3 P B X w0 S0 E σ.m
 t : ∀ i, VR P E (tm i) (av3 σ.H (σ.T i))
 okT : ∀ i, ok3 σ.H (σ.T i)
 okC : ∀ l j, okC σ l j
 hd : ∀ l, HdOK P (σ.H l)
 live : ∀ l, E.A l → (σ.H l).live
 pa : ∀ q ∈ pa, ∀ i, VR P E (q.1 i) (av3 σ.H (q.2 i)) ∧ ok3 σ.H (q.2 i)
theorem YL (r : RT) : 0 < r.size := by cases r <;> simp [RT.size]
theorem z7h : ∀ (r : RT) (x : DenR r), (zV r x).length = r.size
 | .one _, _ => rfl
 | .cons _ r, x => by show (zV r (Prod.snd x)).length + 1 = _; rw [z7h r]; rfl
theorem vk (H : Nat → Hd) : ∀ (r : RT) (x : DenR r), (zV r x).map (av1 H) = (encR r x).map .c
 | .one _, _ => rfl
 | .cons c r, x => by
  show av1 H (.d c (Prod.fst x)) :: (zV r (Prod.snd x)).map (av1 H) = _
  rw [vk H r]; rfl
theorem Jo : ∀ (r : RT) (x : DenR r) (y : RV), y ∈ zV r x → ∃ c z, y = .d c z
 | .one c, x, y, h => by rw [zV, List.mem_singleton] at h; exact ⟨_, _, h⟩
 | .cons c r, x, y, h => by
  rw [zV, List.mem_cons] at h
  rcases h with h | h
  ·exact ⟨_, _, h⟩
  ·exact Jo r _ y h
section
variable {P : Program} {T : TT} {B : Nat} {X : Nat → Prop} {w0 : World} {S0 : Nat → Nat → Prop} {pa : List ((Nat → Value) × (Nat → RV))} {E : Env} {σ : KS} {tm : Nat → Value}
theorem barr (s : ByteArray) : (⟨List.toArray s.data.toList⟩ : ByteArray) = s := by simp
/-! ### Constants, operands -/
theorem zhN (H : Nat → Hd) (v : Value) : VR P E v (av1 H (cvR1 v)) ∧ ok1 H (cvR1 v) := by
 unfold cvR1
 split
 ·exact ⟨.c _ _ (.int _ _), trivial⟩
 ·exact ⟨.c _ _ (.bool _), trivial⟩
 ·rename_i s
  refine ⟨?_, trivial⟩
  show VR P E _ (.c (.str ⟨List.toArray s.data.toList⟩))
  rw [barr]; exact .c _ _ (.str _)
 ·exact ⟨.nils, trivial⟩
 ·exact ⟨.ifn, trivial⟩
 ·exact ⟨.any _, trivial⟩
theorem zqz (v : Value) : (∀ xs, cvR1 v ≠ .ag xs) ∧ (∀ xs, cvR1 v ≠ .tup xs) := by
 unfold cvR1; split <;> simp
theorem zuO (H : Nat → Hd) (v : Value) : VR P E v (av3 H (cvR v)) ∧ ok3 H (cvR v) := by
 have one : ∀ v, VR P E v (av3 H (cvR1 v)) ∧ ok3 H (cvR1 v) := by
  intro v
  obtain ⟨h1, h2⟩ := zhN (P := P) (E := E) H v
  obtain ⟨h3, h4⟩ := zqz v
  rw [z12 _ _ h4, z5s _ _ h3]
  exact ⟨h1, z5C _ _ (z8F _ _ h2 h3) h4⟩
 unfold cvR
 split
 ·rename_i vs
  split
  ·rename_i h
   simp only [Array.all_eq_true_iff_forall_mem] at h
   refine ⟨?_, fun x hx => ?_⟩
   ·refine .agg vs _ (by simp) (fun i v hv => h v (Array.mem_of_getElem? hv)) fun i v x hv hx => ?_
    rw [List.getElem?_map, Option.map_eq_some_iff] at hx
    obtain ⟨y, hy, rfl⟩ := hx
    rw [List.getElem?_map, Option.map_eq_some_iff] at hy
    obtain ⟨u, hu, rfl⟩ := hy
    have : vs[i]? = some u := by simpa using hu
    rw [hv] at this
    cases this
    exact (zhN H v).1
   ·obtain ⟨u, _, rfl⟩ := List.mem_map.1 hx
    exact (zhN (P := P) (E := E) H u).2
  ·exact ⟨.any _, trivial⟩
 ·exact one _
theorem RelE.ev (hr : RelE P B X w0 S0 pa E tm σ) {a : Act} (ha : tm = fun i => a.tmps.getD i undef) (q : Operand) : VR P E (a.eval q) (av3 σ.H (evS σ q)) ∧ ok3 σ.H (evS σ q) := by
 cases q with
 | tmp i => subst ha; exact ⟨hr.t i, hr.okT i⟩
 | const v => exact zuO σ.H v
 | func f => exact ⟨.fn f #[] [] rfl (by simp), fun _ h => by cases h⟩
 | global g => exact ⟨.any _, trivial⟩
/-! ### Validity -/
theorem zkW {x : RV} (h : Rdr.run σ (vld0 x) = some ()) : av0 σ.H x ≠ .any ∧ x.isCell = true ∧ (∀ f xs, x ≠ .fn f xs) ∧ (av0 σ.H x).cells = some [av0 σ.H x] := by
 have key : ∀ y : AV, y ≠ .any → (∀ xs, y ≠ .agg xs) → (∀ xs, y ≠ .tup xs) → y ≠ .und → y.cells = some [y] := by
  intro y h1 h2 h3 h4
  cases y <;> first | rfl | exact absurd rfl h1 | exact absurd rfl (h2 _) | exact absurd rfl (h3 _) | exact absurd rfl h4
 have hne : av0 σ.H x ≠ .any → (∀ xs, av0 σ.H x ≠ .agg xs) ∧ (∀ xs, av0 σ.H x ≠ .tup xs) := by
  intro _
  cases x <;> simp only [av0, avW, avS, avP, avE, avX] <;> constructor <;> intro xs <;> (repeat' split) <;> simp
 have fin : av0 σ.H x ≠ .any → av0 σ.H x ≠ .und → x.isCell = true → (∀ f xs, x ≠ .fn f xs) → av0 σ.H x ≠ .any ∧ x.isCell = true ∧ (∀ f xs, x ≠ .fn f xs) ∧ (av0 σ.H x).cells = some [av0 σ.H x] :=
  fun h1 h2 h3 h4 => ⟨h1, h3, h4, key _ h1 (hne h1).1 (hne h1).2 h2⟩
 cases x with
 | d c y => exact fin (by simp [av0]) (by simp [av0]) rfl (by simp)
 | nils => exact fin (by simp [av0]) (by simp [av0]) rfl (by simp)
 | el r y o => exact fin (by simp [av0]) (by simp [av0]) rfl (by simp)
 | arw l g e =>
  simp only [vld0, Rdr.run, KS.lk, Sl.hd!] at h
  split at h
  ·simp [Rdr.run] at h
  ·split at h
   ·rename_i hq hc
    refine fin ?_ ?_ rfl (by simp) <;> simp only [av0, avW, hq] <;> rw [if_pos hc] <;> simp
   ·simp [Rdr.run] at h
  ·split at h
   ·rename_i hq hc
    refine fin ?_ ?_ rfl (by simp) <;> simp only [av0, avW, hq] <;> rw [if_pos hc] <;> split <;> simp
   ·simp [Rdr.run] at h
 | ars l g e off len =>
  simp only [vld0, Rdr.run, KS.lk, Sl.hd!] at h
  split at h
  ·simp [Rdr.run] at h
  ·simp [Rdr.run] at h
  ·split at h
   ·rename_i fr e' r rows hq hc
    simp only [Rdr.run] at h
    cases fr with
    | false => refine fin ?_ ?_ rfl (by simp) <;> simp only [av0, avS, hq] <;> rw [if_pos hc] <;> simp
    | true =>
     cases hin : inN rows off len with
     | false => rw [hin] at h; simp [Rdr.run] at h
     | true =>
      have : off + len ≤ rows.length := by simpa [inN] using hin
      refine fin ?_ ?_ rfl (by simp) <;> simp only [av0, avS, hq] <;> rw [if_pos hc] <;> simp [this]
   ·simp [Rdr.run] at h
 | ptr l g o =>
  simp only [vld0, Rdr.run, KS.lk, Sl.hd!] at h
  split at h
  ·split at h
   ·rename_i hq hc
    refine fin ?_ ?_ rfl (by simp) <;> simp only [av0, avP, hq] <;> rw [if_pos hc] <;> simp
   ·simp [Rdr.run] at h
  ·simp [Rdr.run] at h
 | pel l g e i k =>
  simp only [vld0, Rdr.run, KS.lk, Sl.hd!] at h
  split at h
  ·split at h
   ·rename_i hq hc
    refine fin ?_ ?_ rfl (by simp) <;> simp only [av0, avE, hq] <;> rw [if_pos hc] <;> simp
   ·simp [Rdr.run] at h
  ·simp [Rdr.run] at h
 | arx l g e o n c => simp [vld0, Rdr.run] at h
 | ag xs => simp [vld0, Rdr.run] at h
 | tup xs => simp [vld0, Rdr.run] at h
 | fn f xs => simp [vld0, Rdr.run] at h
 | ifc b => simp [vld0, Rdr.run] at h
 | und => simp [vld0, Rdr.run] at h
 | any => simp [vld0, Rdr.run] at h
theorem z9B : ∀ {xs : List RV}, Rdr.run σ (vldL xs) = some () → ∀ x ∈ xs, av0 σ.H x ≠ .any ∧ x.isCell = true ∧ (∀ f xs, x ≠ .fn f xs)
 | [], _, x, hx => by cases hx
 | x :: xs, h, y, hy => by
  simp only [vldL, Rdr.run_bind, Option.bind_eq_some_iff] at h
  obtain ⟨u, h1, h2⟩ := h
  rcases List.mem_cons.1 hy with rfl | hy
  ·obtain ⟨a, b, c, _⟩ := zkW h1; exact ⟨a, b, c⟩
  ·exact z9B h2 y hy
theorem z13 {x : RV} (h : x.isCell = true) : (∀ xs, x ≠ .ag xs) ∧ (∀ xs, x ≠ .tup xs) := by
 cases x <;> simp [RV.isCell] at h ⊢
theorem z5D {x : RV} (h : x.isCell = true) (H : Nat → Hd) : av3 H x = av1 H x := by
 obtain ⟨h1, h2⟩ := z13 h
 rw [z12 _ _ h2, z5s _ _ h1]
theorem zkX {x : RV} (h : Rdr.run σ (vld1 x) = some ()) : av1 σ.H x ≠ .any ∧ x.isCell = true ∧ (av1 σ.H x).cells = some [av1 σ.H x] := by
 by_cases hf : ∃ f xs, x = .fn f xs
 ·obtain ⟨f, caps, rfl⟩ := hf
  have h1 := z9B (σ := σ) (xs := caps) h
  have h2 : ¬ ((caps.map (av0 σ.H)).any AV.isAny = true) := by
   rw [List.any_map, List.any_eq_true]
   rintro ⟨c, hc, ha⟩
   exact (h1 c hc).1 ((jA _).1 ha)
  simp only [av1]
  rw [if_neg h2]
  exact ⟨by simp, rfl, rfl⟩
 ·have hn : ∀ f xs, x ≠ .fn f xs := fun f xs e => hf ⟨f, xs, e⟩
  rw [z5r _ _ hn]
  have : Rdr.run σ (vld0 x) = some () := by
   have : vld1 x = vld0 x := by cases x <;> first | rfl | exact absurd rfl (hn _ _)
   rw [← this]; exact h
  obtain ⟨a, b, _, d⟩ := zkW this
  exact ⟨a, b, d⟩
theorem zkY : ∀ {xs : List RV}, Rdr.run σ (vldM xs) = some () → ∀ x ∈ xs, av1 σ.H x ≠ .any ∧ x.isCell = true
 | [], _, x, hx => by cases hx
 | x :: xs, h, y, hy => by
  simp only [vldM, Rdr.run_bind, Option.bind_eq_some_iff] at h
  obtain ⟨u, h1, h2⟩ := h
  rcases List.mem_cons.1 hy with rfl | hy
  ·obtain ⟨a, b, _⟩ := zkX h1; exact ⟨a, b⟩
  ·exact zkY h2 y hy
theorem z4X {x : RV} {cs : List RV} (h : Rdr.run σ (z3N x) = some cs) : (av3 σ.H x).cells = some (cs.map (av1 σ.H)) ∧ (∀ c ∈ cs, c.isCell = true) ∧ (ok3 σ.H x → ∀ c ∈ cs, ok1 σ.H c) := by
 by_cases ha : ∃ xs, x = .ag xs
 ·obtain ⟨xs, rfl⟩ := ha
  simp only [z3N, Rdr.run_bind, Option.bind_eq_some_iff, Rdr.run, Option.some.injEq] at h
  obtain ⟨u, h1, rfl⟩ := h
  exact ⟨rfl, fun c hc => (zkY h1 c hc).2, fun hx => hx⟩
 ·have : z3N x = Rdr.bind (vld1 x) fun _ => .ret [x] := by cases x <;> first | rfl | exact absurd ⟨_, rfl⟩ ha
  rw [this] at h
  simp only [Rdr.run_bind, Option.bind_eq_some_iff, Rdr.run, Option.some.injEq] at h
  obtain ⟨u, h1, rfl⟩ := h
  obtain ⟨h2, h3, h4⟩ := zkX h1
  rw [z5D h3]
  refine ⟨h4, fun c hc => by rw [List.mem_singleton.1 hc]; exact h3, fun hx c hc => ?_⟩
  rw [List.mem_singleton.1 hc]
  obtain ⟨g1, g2⟩ := z13 h3
  exact z38 (z11 hx g2) g1
end
end Go.Kx
