/-
  What is stated: the state of an activation as plain data, what a call promises, and what one operation does to that state. Conditions: none.
-/
import Derived.Test.YtoihccclnkhmaaaEngE
set_option linter.unusedVariables false
set_option linter.unusedSimpArgs false
set_option maxRecDepth 4000
namespace Go.Rb

structure RSt where
  t : Nat → AV
  m : Nat → List AV
  p : Nat
  xo : Nat
  xn : Nat

def evO (t : Nat → AV) : Operand → AV
  | .tmp i => t i
  | .const v => cv v
  | .func f => .fn f []
  | .global _ => .any

def setT (t : Nat → AV) (d : Nat) (v : AV) : Nat → AV := fun i => if i = d then v else t i
def setM (m : Nat → List AV) (l : Nat) (cs : List AV) : Nat → List AV := fun i => if i = l then cs else m i
def putT (t : Nat → AV) (d : Option Nat) (v : AV) : Nat → AV := match d with | some d => setT t d v | none => t

/-- What one operation does. -/
structure Eff where
  v : AV
  mem : List (Nat × List AV) := []
  p : Nat := 0
  xo : Nat := 0
  xn : Nat := 0

def memAll (m : Nat → List AV) : List (Nat × List AV) → Nat → List AV
  | [] => m
  | (l, cs) :: r => memAll (setM m l cs) r

def RSt.app (s : RSt) (d : Option Nat) (f : Eff) : RSt :=
  { t := putT s.t d f.v, m := memAll s.m f.mem, p := s.p ||| f.p, xo := s.xo ||| f.xo, xn := s.xn ||| f.xn }

/-! ### Pointers -/
mutual
/-- The local blocks to which a value points. -/
def AV.ptrs : AV → List Nat
  | .ptr l _ => [l]
  | .arr l _ len cap _ => if len = 0 ∧ cap = 0 then [] else [l]
  | .agg xs => ptrsL xs
  | .tup xs => ptrsL xs
  | .fn _ caps => ptrsL caps
  | _ => []
def ptrsL : List AV → List Nat
  | [] => []
  | x :: xs => AV.ptrs x ++ ptrsL xs
end

/-! ### The world beside the state -/

/-- Of the blocks below B all but those of X are as they were. -/
structure Fr (B : Nat) (X : Nat → Prop) (w w' : World) : Prop where
  os : w'.os = w.os
  tape : w'.tape = w.tape
  output : w'.output = w.output
  size : w.heap.size ≤ w'.heap.size
  block : ∀ k, k < B → ¬ X k → w'.heap[k]? = w.heap[k]?

theorem Fr.refl (B : Nat) (X : Nat → Prop) (w : World) : Fr B X w w := ⟨rfl, rfl, rfl, Nat.le_refl _, fun _ _ _ => rfl⟩

/-- A block of one's own: behind the first n elements nothing is read. -/
def OwnBlk (P : Program) (w : World) (S : Nat → Nat → Prop) (B : Nat) (v : Value) (e : TypeId) : Prop :=
  ∃ g n cap cur e', v = .slice (some ⟨g, 0, none⟩) n cap ∧ B ≤ g ∧ w.heap[g]? = some (.cells cur e' (0, 0)) ∧ cap * P.cellsOf e ≤ cur.size ∧ n ≤ cap ∧ cap ≤ maxLen ∧ ∀ o, S g o → o < n * P.cellsOf e

/-- A block of n cells, of which the first ones hold what is known of them. -/
def BlkR (P : Program) (E : Env) (n : Nat) (cs : Array Value) (xs : List AV) : Prop :=
  cs.size = n ∧ xs.length ≤ n ∧ ∀ (i : Nat) (v : Value) (x : AV), cs[i]? = some v → xs[i]? = some x → VR P E v x ∧ v.oneCell' = true

theorem CellsR.blk {P : Program} {E : Env} {cs : Array Value} {xs : List AV} (h : CellsR P E cs xs) : BlkR P E xs.length cs xs := ⟨h.1, Nat.le_refl _, h.2⟩

theorem BlkR.mono {P : Program} {E E' : Env} {n : Nat} {cs : Array Value} {xs : List AV} (hl : E.le E') (h : BlkR P E n cs xs) : BlkR P E' n cs xs :=
  ⟨h.1, h.2.1, fun i v x hv hx => ⟨(h.2.2 i v x hv hx).1.mono hl, (h.2.2 i v x hv hx).2⟩⟩

structure WI (P : Program) (B : Nat) (X : Nat → Prop) (w0 : World) (S0 : Nat → Nat → Prop) (E : Env) (s : RSt) : Prop where
  fr : Fr B X w0 E.w
  hB : B ≤ E.w.heap.size
  s0 : ∀ b o, S0 b o → E.S b o
  sNew : ∀ b o, E.S b o → S0 b o ∨ B ≤ b
  slt : ∀ b o, E.S b o → b < E.w.heap.size
  hA : ∀ l, E.A l ↔ s.m l ≠ []
  loc : ∀ l, s.m l ≠ [] → ∃ cs e, E.w.heap[E.β l]? = some (.cells cs e (0, 0)) ∧ BlkR P E (E.cp l) cs (s.m l) ∧ (∀ o, ¬ E.S (E.β l) o) ∧ (B ≤ E.β l ∨ X (E.β l))
  locne : ∀ l l', s.m l ≠ [] → s.m l' ≠ [] → E.β l = E.β l' → l = l'
  own : ∀ nw k v e, E.ow nw k = .reg v e → OwnBlk P E.w E.S B v e ∧ ∀ l, s.m l ≠ [] → v.ownBlock ≠ some (E.β l)
  ownne : ∀ nw k v e nw' k' v' e', E.ow nw k = .reg v e → E.ow nw' k' = .reg v' e' → v.ownBlock = v'.ownBlock → nw = nw' ∧ k = k'
  new : ∀ k, E.ow true k ≠ .none → s.p.testBit k = true
  deadn : ∀ k, E.ow true k = .dead → s.xn.testBit k = true
  deado : ∀ k, E.ow false k = .dead → s.xo.testBit k = true

theorem WI.memOK {P : Program} {B : Nat} {X : Nat → Prop} {w0 : World} {S0 : Nat → Nat → Prop} {E : Env} {s : RSt} (h : WI P B X w0 S0 E s) : MemOK P E s.m := by
  intro l hl
  obtain ⟨cs, e, hh, hc, _⟩ := h.loc l hl
  exact ⟨cs, e, _, hh, by rw [hc.1]; exact hc.2.1, hc.2.2⟩

/-! ### What a call promises -/

def nomem : Nat → List AV := fun _ => []

def HasBody (P : Program) (f : FuncId) : Prop := ∃ fn c, P.funcs[f]? = some fn ∧ fn.body = some c ∧ (fn.name == "runtime.NumGoroutine") = false

/-- **Called with values that read as 'args' (and blocks that hold 'pm'), function f returns a value that reads as r; the blocks hold pm' then; all else that was there is as it was.** -/
def Fun (P : Program) (f : FuncId) (args : List AV) (pm : Nat → List AV) (r : AV) (pm' : Nat → List AV) : Prop :=
  HasBody P f ∧ ∀ (E : Env) (vs : Array Value), (∀ nw k, E.ow nw k = .none) → (∀ l, E.A l ↔ pm l ≠ []) → (∀ b o, E.S b o → b < E.w.heap.size) →
    vs.size = args.length → (∀ (i : Nat) (v : Value) (x : AV), vs[i]? = some v → args[i]? = some x → VR P E v x) →
    (∀ l, pm l ≠ [] → ∃ cs e, E.w.heap[E.β l]? = some (.cells cs e (0, 0)) ∧ BlkR P E (E.cp l) cs (pm l) ∧ ∀ o, ¬ E.S (E.β l) o) →
    (∀ l l', pm l ≠ [] → pm l' ≠ [] → E.β l = E.β l' → l = l') →
    Calls P f vs E.w (fun e w' => ∃ v E', e = .returned v ∧ E'.w = w' ∧ (∀ l, pm l ≠ [] → pm' l ≠ [] ∧ E'.β l = E.β l ∧ E'.cp l = E.cp l) ∧ (∀ l, E'.A l ↔ pm' l ≠ []) ∧
      Fr E.w.heap.size (fun b => ∃ l, pm l ≠ [] ∧ E.β l = b) E.w w' ∧ (∀ b o, E.S b o → E'.S b o) ∧ (∀ b o, E'.S b o → E.S b o ∨ E.w.heap.size ≤ b) ∧
      (∀ b o, E'.S b o → b < w'.heap.size) ∧ VR P E' v r ∧
      (∀ l, pm' l ≠ [] → ∃ cs e, w'.heap[E'.β l]? = some (.cells cs e (0, 0)) ∧ BlkR P E' (E'.cp l) cs (pm' l) ∧ (∀ o, ¬ E'.S (E'.β l) o) ∧ (pm l ≠ [] ∨ E.w.heap.size ≤ E'.β l)) ∧
      (∀ l l', pm' l ≠ [] → pm' l' ≠ [] → E'.β l = E'.β l' → l = l') ∧
      (∀ nw k, E'.ow nw k ≠ .dead) ∧ (∀ nw k u ty, E'.ow nw k = .reg u ty → nw = false ∧ k = 0 ∧ OwnBlk P w' E'.S E.w.heap.size u ty ∧ ∀ l, pm' l ≠ [] → u.ownBlock ≠ some (E'.β l)))

/-- The knowledge x may be handed on as y. -/
def Wk (P : Program) (A : Nat → Prop) (x y : AV) : Prop :=
  ∀ (E : Env) (v : Value), (∀ l, A l → E.A l) → VR P E v x → VR P { E with A := A, ow := fun _ _ => .none } v y

inductive WkL (P : Program) (A : Nat → Prop) : List AV → List AV → Prop where
  | nil : WkL P A [] []
  | cons {x y : AV} {xs ys : List AV} (h : Wk P A x y) (t : WkL P A xs ys) : WkL P A (x :: xs) (y :: ys)

/-- A slice of the callee's own becomes one of the caller's: number d. -/
def AV.setOwn1 (d : Nat) : AV → AV
  | .own _ _ e rows => .own true d e rows
  | x => x

def AV.setOwn (d : Nat) : AV → AV
  | .tup xs => .tup (xs.map (AV.setOwn1 d))
  | x => x.setOwn1 d

def AV.noOwn1 : AV → Bool
  | .own .. => false
  | .agg _ | .tup _ => false
  | .fn _ caps => caps.isEmpty
  | _ => true

def AV.noOwnA : AV → Bool
  | .agg xs => xs.all AV.noOwn1
  | x => x.noOwn1

/-- Nothing of the callee's own in it. -/
def AV.noOwn : AV → Bool
  | .tup xs => xs.all AV.noOwnA
  | x => x.noOwnA

/-- A slice of one's own at the top, or as a part of a tuple, nowhere else. -/
def AV.ownTop : AV → Bool
  | .own .. => true
  | .tup xs => xs.all fun x => match x with | .own .. => true | x => x.noOwnA
  | x => x.noOwnA

/-! ### One operation -/

/-- Element type of the slice that is cell j of a row of type e. -/
def cellElem (P : Program) (e : TypeId) (j : Nat) : TypeId :=
  match P.underlying e with
  | some (.struct fs) => match fs.find? (fun f => f.offset == j) with | some f => elemT P f.type | none => 0
  | _ => elemT P e

def toCs (ty : Nat → TypeId) : Nat → List AV → Option (List C)
  | _, [] => some []
  | j, x :: xs => match x.toC (ty j), toCs ty (j + 1) xs with | some c, some cs => some (c :: cs) | _, _ => none

def toRows (ty : Nat → TypeId) (sz : Nat) : Nat → List AV → Option (List (List C))
  | 0, _ => some []
  | n + 1, z => match toCs ty 0 (z.take sz), toRows ty sz n (z.drop sz) with | some r, some rs => some (r :: rs) | _, _ => none

def ybs (P : Program) (t : TypeId) (n : Nat) (ps : List (Nat × AV)) : Option (List (List C)) :=
  match P.underlying t with
  | some (.slice e) =>
    if (zc P e).map (·.length) = some (P.cellsOf e) ∧ P.cellsOf e ≠ 0 ∧ n * P.cellsOf e ≤ 2 ^ 24 then
      match yfill (fun i => some (i * P.cellsOf e, P.cellsOf e)) (List.replicate (n * P.cellsOf e) .any) ps with
      | some z => toRows (cellElem P e) (P.cellsOf e) n z
      | none => none
    else none
  | _ => none

/-- Two structs of ints are held against each other. -/
def EqInts (P : Program) (T n : Nat) : Prop :=
  ∀ (op : BinOp) (xs ys : List Int) (xo yo : Operand) (w : World), (op = .eql ∨ op = .neq) → xs.length = n → ys.length = n →
    (do eqGuard op T xo yo (.agg (xs.map (Value.int .i64)).toArray) (.agg (ys.map (Value.int .i64)).toArray)
        binOp op T (.agg (xs.map (Value.int .i64)).toArray) (.agg (ys.map (Value.int .i64)).toArray) : Sem Value).run P w = .ok (.bool (if op = .eql then decide (xs = ys) else !decide (xs = ys))) w

def intsOf : List AV → Option (List Int)
  | [] => some []
  | .c (.int .i64 n) :: r => (intsOf r).map (n :: ·)
  | _ => none

def AV.ints : AV → Option (List Int)
  | .agg xs => intsOf xs
  | _ => none

def AV.base (e : TypeId) : AV → Option (List (List C))
  | .own _ _ e' rows => if e = e' then some rows else none
  | .nils => some []
  | _ => none

def maskO : AV → Nat
  | .own false k _ _ => 2 ^ k
  | _ => 0

def maskN : AV → Nat
  | .own true k _ _ => 2 ^ k
  | _ => 0

/-- **What operation o may do in a state: the operations that do not only read.** -/
def AYe (P : Program) (dr : Bool) (t : Nat → AV) (m : Nat → List AV) (p xo xn : Nat) (o : Oper) (f : Eff) : Prop :=
  match o.op with
  | .binOp op T x y _ => (op = .eql ∨ op = .neq) ∧ ∃ xs ys, (evO t x).ints = some xs ∧ (evO t y).ints = some ys ∧ EqInts P T xs.length ∧ ys.length = xs.length ∧
      f = { v := .c (.bool (if op = .eql then decide (xs = ys) else !decide (xs = ys))) }
  | .buildSlice ty n ps => ∃ rows, ybs P ty n (ps.toList.map fun (i, x) => (i, evO t x)) = some rows ∧ f = { v := .own false 0 (elemT P ty) rows }
  | .alloc e => ∃ d z, o.dst = some d ∧ zc P e = some z ∧ z ≠ [] ∧ m d = [] ∧ f = { v := .ptr d 0, mem := [(d, z)] }
  | .box e x => ∃ d z, o.dst = some d ∧ (evO t x).cells = some z ∧ z ≠ [] ∧ m d = [] ∧ f = { v := .ptr d 0, mem := [(d, z)] }
  | .store ty a x => ∃ l off cs, evO t a = .ptr l off ∧ (evO t x).cells = some cs ∧ cs.length = P.cellsOf ty ∧ cs ≠ [] ∧ (P.info? ty).isSome ∧ off + cs.length ≤ (m l).length ∧
      f = { v := .und, mem := [(l, place (m l) off cs)] }
  | .call c =>
    match c.callee with
    | .builtin .append => ∃ d x y ty e rows new, o.dst = some d ∧ c.args = #[x, y] ∧ c.argTypes = #[ty, ty] ∧ P.underlying ty = some (.slice e) ∧
        (evO t x).base e = some rows ∧ xo &&& maskO (evO t x) = 0 ∧ xn &&& maskN (evO t x) = 0 ∧ p.testBit d = false ∧ (evO t y).rows e = some new ∧
        (rows.length + new.length) * P.bytesOf e ≤ 140737488355328 ∧ rows.length + new.length ≤ maxLen ∧ (zc P e).map (·.length) = some (P.cellsOf e) ∧ P.cellsOf e ≠ 0 ∧
        f = { v := .own true d e (rows ++ new), p := 2 ^ d, xo := maskO (evO t x), xn := maskN (evO t x) }
    | .value g => ∃ fid caps, evO t g = .fn fid caps ∧
        ((∃ cargs r, WkL P (fun _ => False) (c.args.toList.map (evO t) ++ caps) cargs ∧ Fun P fid cargs nomem r nomem ∧ (dr = true → r.ptrs = []) ∧ (r.noOwn = true ∧ f = { v := r } ∨
            ∃ d, o.dst = some d ∧ r.ownTop = true ∧ p.testBit d = false ∧ f = { v := r.setOwn d, p := 2 ^ d })) ∨
         (dr = false ∧ ∃ (cargs : List AV) (r : AV) (L : List Nat) (pm pm' : Nat → List AV), WkL P (fun l => l ∈ L) (c.args.toList.map (evO t) ++ caps) cargs ∧ Fun P fid cargs pm r pm' ∧ r.noOwn = true ∧
            (∀ l ∈ L, m l ≠ [] ∧ WkL P (fun l => l ∈ L) (m l) (pm l) ∧ (pm' l).all AV.noOwn1 = true) ∧ (∀ l, l ∉ L → pm l = []) ∧ (∀ l, l ∉ L → pm' l = []) ∧ f = { v := r, mem := L.map fun l => (l, pm' l) }))
    | _ => False
  | _ => False

/-- What operation o may do in a state. -/
def AY (P : Program) (dr : Bool) (t : Nat → AV) (m : Nat → List AV) (p xo xn : Nat) (o : Oper) (f : Eff) : Prop :=
  (∃ v, yl P (evO t) m o.op = some v ∧ f = { v := v }) ∨ AYe P dr t m p xo xn o f

end Go.Rb
