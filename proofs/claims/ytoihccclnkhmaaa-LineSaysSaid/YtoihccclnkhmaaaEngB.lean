/-
  What is proved: an operation that only reads hands back a value that reads as a plain function on data says. Conditions: none.
-/
import Derived.Test.YtoihccclnkhmaaaEngA
set_option linter.unusedVariables false
set_option linter.unusedSimpArgs false
set_option maxRecDepth 4000
namespace Go.Rb

/-! ### Arithmetic -/
def iop (op : BinOp) (k : IntKind) (a b : Int) : Option C :=
  match op with
  | .add => some (.int k (k.wrap (a + b)))
  | .sub => some (.int k (k.wrap (a - b)))
  | .mul => some (.int k (k.wrap (a * b)))
  | .quo => if b = 0 then none else some (.int k (k.wrap (a.tdiv b)))
  | .rem => if b = 0 then none else some (.int k (a.tmod b))
  | .and => some (.int k (k.wrap (BitVec.ofInt k.bits a &&& BitVec.ofInt k.bits b).toNat))
  | .eql => some (.bool (a == b))
  | .neq => some (.bool (a != b))
  | .lss => some (.bool (decide (a < b)))
  | .leq => some (.bool (decide (a ≤ b)))
  | .gtr => some (.bool (decide (a > b)))
  | .geq => some (.bool (decide (a ≥ b)))
  | .shl => if b < 0 then none else some (.int k (k.wrap (a * 2 ^ min b.toNat k.bits)))
  | .shr => if b < 0 then none else some (.int k (a.fdiv (2 ^ min b.toNat k.bits)))
  | _ => none

def isShift (op : BinOp) : Bool := match op with | .shl | .shr => true | _ => false

def ybin (P : Program) (op : BinOp) (T : TypeId) : AV → AV → Option AV
  | .c (.int k a), .c (.int k' b) => if isShift op = true ∨ k = k' then (iop op k a b).map .c else none
  | .c (.bool a), .c (.bool b) =>
    match P.underlying T, op with
    | some .bool, .eql => some (.c (.bool (a == b)))
    | some .bool, .neq => some (.c (.bool (!(a == b))))
    | _, _ => none
  | .c (.str a), .c (.str b) =>
    match op with
    | .add => if (a.size : Int) + b.size ≤ 9223372036854775807 then some (.c (.str (a ++ b))) else none
    | .eql => some (.c (.bool (a.toList == b.toList)))
    | .neq => some (.c (.bool (!(a.toList == b.toList))))
    | _ => none
  | _, _ => none

def yun : UnOp → AV → Option AV
  | .not, .c (.bool b) => some (.c (.bool (!b)))
  | .neg, .c (.int k n) => some (.c (.int k (k.wrap (0 - n))))
  | _, _ => none

/-- Reading a variable of type t, of which the cells are known. -/
def yload (P : Program) (t : TypeId) (m : Nat → List AV) : AV → Option AV
  | .ptr l off =>
    match isAggT P t with
    | some true => if off + P.cellsOf t ≤ (m l).length ∧ (P.info? t).isSome then some (.agg (((m l).drop off).take (P.cellsOf t))) else none
    | some false => (m l)[off]?
    | none => none
  | .el xs =>
    match isAggT P t with
    | some true => if P.cellsOf t ≤ xs.length ∧ (P.info? t).isSome then some (.agg ((xs.take (P.cellsOf t)).map .c)) else none
    | some false => xs[0]?.map .c
    | none => none
  | _ => none

def yfield (P : Program) (s : TypeId) (f : Nat) (x : AV) : Option AV :=
  match P.underlying s with
  | some (.struct fs) =>
    match fs[f]? with
    | some fd =>
      if P.cellsOf fd.type ≠ 0 then
        match x with
        | .ptr l off => some (.ptr l (off + fd.offset))
        | .el xs => some (.el (xs.drop fd.offset))
        | _ => none
      else none
    | none => none
  | _ => none

def AV.int? : AV → Option Int
  | .c (.int _ n) => some n
  | _ => none

def yindex (P : Program) (t : TypeId) (x i : AV) : Option AV :=
  match P.underlying t, i.int? with
  | some (.slice e), some n =>
    match x with
    | .arr l off len _ e' => if 0 ≤ n ∧ n < len ∧ e' = e ∧ (P.info? e).isSome then some (.ptr l (off + n.toNat * P.cellsOf e)) else none
    | x =>
      match x.rows e with
      | some rows => if 0 ≤ n ∧ n < rows.length ∧ (P.info? e).isSome then some (.el (rows.getD n.toNat [])) else none
      | none => none
  | _, _ => none

/-- The bound of a slice expression. -/
def ybound (dflt : Nat) : Option AV → Option Nat
  | none => some dflt
  | some x => match x.int? with | some n => if 0 ≤ n then some n.toNat else none | none => none

def yslice (P : Program) (t : TypeId) (x : AV) (lo hi mx : Option AV) : Option AV :=
  match P.underlying t with
  | some (.slice e) =>
    match x.rows e with
    | some rows =>
      match ybound 0 lo, ybound rows.length hi with
      | some l, some h =>
        if l ≤ h ∧ h ≤ rows.length ∧ (P.info? e).isSome then
          match mx, hi with
          | none, _ => some (.c (.sl e ((rows.take h).drop l)))
          | some mm, some _ => if mm.int? = some (h : Int) then some (.own false 0 e ((rows.take h).drop l)) else none
          | some _, none => none
        else none
      | _, _ => none
    | none => none
  | some .string =>
    match x, mx with
    | .c (.str s), none =>
      match ybound 0 lo, ybound s.size hi with
      | some l, some h => if l ≤ h ∧ h ≤ s.size then some (.c (.str (s.extract l h))) else none
      | _, _ => none
    | _, _ => none
  | _ => none

/-- A part of an array of one's own. -/
def ysliceA (P : Program) (t : TypeId) (l off len cap : Nat) (e : TypeId) (lo hi mx : Option AV) : Option AV :=
  match P.underlying t with
  | some (.slice e') =>
    if e' = e ∧ (P.info? e).isSome then
      match ybound 0 lo, ybound len hi with
      | some a, some h =>
        match mx, hi with
        | none, _ => if a ≤ h ∧ (h ≤ len ∨ h ≤ cap) then some (.arr l (off + a * P.cellsOf e) (h - a) (cap - a) e) else none
        | some mm, some _ =>
          match ybound 0 (some mm) with
          | some m => if a ≤ h ∧ h ≤ m ∧ (m ≤ len ∨ m ≤ cap) then some (.arr l (off + a * P.cellsOf e) (h - a) (m - a) e) else none
          | none => none
        | some _, none => none
      | _, _ => none
    else none
  | _ => none

def yslice2 (P : Program) (t : TypeId) (x : AV) (lo hi mx : Option AV) : Option AV :=
  match x with
  | .arr l off len cap e => ysliceA P t l off len cap e lo hi mx
  | x => yslice P t x lo hi mx

def ycap (P : Program) (t : TypeId) : AV → Option AV
  | .nils => match P.underlying t with | some (.slice _) => some (.c (.int .i64 0)) | _ => none
  | _ => none

def ylen (P : Program) (t : TypeId) (x : AV) : Option AV :=
  match P.underlying t with
  | some (.slice e) =>
    match x with
    | .arr _ _ len _ _ => some (.c (.int .i64 len))
    | x => match x.rows e with | some rows => some (.c (.int .i64 rows.length)) | none => none
  | some .string => match x with | .c (.str s) => some (.c (.int .i64 s.size)) | _ => none
  | _ => none

def ymm (mn : Bool) : AV → AV → Option AV
  | .c (.int k x), .c (.int _ y) => some (.c (.int k (if mn then (if y < x then y else x) else (if y > x then y else x))))
  | _, _ => none

def ymm3 : AV → AV → AV → Option AV
  | .c (.int k x), .c (.int _ y), .c (.int _ z) => some (.c (.int k (if z < (if y < x then y else x) then z else (if y < x then y else x))))
  | _, _, _ => none

/-- Cells of a value. -/
def AV.cells : AV → Option (List AV)
  | .agg xs => some xs
  | .tup _ => none
  | .und => none
  | .any => none
  | x => some [x]

def place (z : List AV) (off : Nat) (cs : List AV) : List AV := z.take off ++ cs ++ z.drop (off + cs.length)

def yfill (pl : Nat → Option (Nat × Nat)) : List AV → List (Nat × AV) → Option (List AV)
  | z, [] => some z
  | z, (i, x) :: rest =>
    match pl i, x.cells with
    | some (off, size), some cs => if cs.length = size ∧ off + cs.length ≤ z.length then yfill pl (place z off cs) rest else none
    | _, _ => none

/-- The cells of a zero value. -/
def zc (P : Program) (t : TypeId) : Option (List AV) :=
  match P.info? t with
  | some i => match i.zero with
    | some z => if z.cells.all (·.oneCell') then some (z.cells.toList.map cv1) else none
    | none => none
  | none => none

def ybuild (P : Program) (t : TypeId) (ps : List (Nat × AV)) : Option AV :=
  match P.underlying t with
  | some (.struct fs) =>
    if fs.all (fun f => (P.info? f.type).isSome) then
      match zc P t with
      | some z => (yfill (fun i => (fs[i]?).map fun f => (f.offset, P.cellsOf f.type)) z ps).map .agg
      | none => none
    else none
  | _ => none

def ycall (P : Program) (ev : Operand → AV) (c : Call) : Option AV :=
  match c.callee with
  | .builtin .len => match c.args.toList, c.argTypes.toList with | [x], [t] => ylen P t (ev x) | _, _ => none
  | .builtin .cap => match c.args.toList, c.argTypes.toList with | [x], [t] => ycap P t (ev x) | _, _ => none
  | .builtin .min => match c.args.toList with | [x, y] => ymm true (ev x) (ev y) | [x, y, z] => ymm3 (ev x) (ev y) (ev z) | _ => none
  | .builtin .max => match c.args.toList with | [x, y] => ymm false (ev x) (ev y) | _ => none
  | _ => none

/-- What an operation that only reads hands back. -/
def yl (P : Program) (ev : Operand → AV) (m : Nat → List AV) : Op → Option AV
  | .move x => some (ev x)
  | .assign x => some (ev x)
  | .pick c a b => match ev c with | .c (.bool t) => some (if t then ev a else ev b) | _ => none
  | .binOp op T x y _ => ybin P op T (ev x) (ev y)
  | .unOp op _ x => yun op (ev x)
  | .convert src dst x =>
    match P.underlying src, P.underlying dst, ev x with
    | some (.int _), some (.int k), .c (.int _ n) => some (.c (.int k (k.wrap n)))
    | _, _, _ => none
  | .load t a => yload P t m (ev a)
  | .fieldAddr s x f => yfield P s f (ev x)
  | .indexAddr t x i => yindex P t (ev x) (ev i)
  | .nilCheck x => match ev x with | .ptr l o => some (.ptr l o) | .el xs => some (.el xs) | _ => none
  | .extract t i => match ev t with | .tup xs => xs[i]? | _ => none
  | .build t ps => ybuild P t (ps.toList.map fun (i, x) => (i, ev x))
  | .slice t x lo hi mx => yslice2 P t (ev x) (lo.map ev) (hi.map ev) (mx.map ev)
  | .call c => ycall P ev c
  | .makeFunc (.func f) first caps => if first.isEmpty then some (.fn f (caps.toList.map ev)) else none
  | _ => none

end Go.Rb
