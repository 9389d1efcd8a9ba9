/-
  What is proved, part by part: What is stated: the program's data as plain Lean types. What is proved: plain facts on numbers that the laws share. Conditions: none.
-/
import Derived.Test.YtfemegcfgkabnaaEB
set_option linter.unusedVariables false
set_option linter.unusedSimpArgs false
set_option maxRecDepth 4000
namespace Go.Rb

structure Pt where
  t : Int
  v : Int
deriving DecidableEq, Inhabited

structure Sm where
  n : Int
  mn : Int
  mx : Int
  tot : Int
deriving DecidableEq, Inhabited

structure Bk where
  n : Int
  fr : Int
  to : Int
  bits : List Bool
deriving DecidableEq, Inhabited

structure Rowd where
  blocks : List Bk
  head : List Pt
deriving DecidableEq, Inhabited

structure Ent where
  s : Int
  t : Int
  v : Int
deriving DecidableEq, Inhabited

structure Buc where
  start : Int
  s : Sm
deriving DecidableEq, Inhabited

structure Rc where
  kind : Int
  series : Int
  n : Int
  e : List Ent
deriving DecidableEq, Inhabited

def inR64 (n : Int) : Prop := -9223372036854775808 ≤ n ∧ n ≤ 9223372036854775807

def w64 (n : Int) : Int := IntKind.wrap .i64 n
theorem w64_of {n : Int} (h : inR64 n) : w64 n = n := wr_id h.1 h.2

def boC (b : Bool) : List C := [.bool b]
def inC (n : Int) : List C := [.int .i64 n]
def Pt.cs (p : Pt) : List C := [.int .i64 p.t, .int .i64 p.v]
def Ent.cs (p : Ent) : List C := [.int .i64 p.s, .int .i64 p.t, .int .i64 p.v]
def Sm.cs (s : Sm) : List C := [.int .i64 s.n, .int .i64 s.mn, .int .i64 s.mx, .int .i64 s.tot]
def Buc.cs (b : Buc) : List C := [.int .i64 b.start, .int .i64 b.s.n, .int .i64 b.s.mn, .int .i64 b.s.mx, .int .i64 b.s.tot]
/-- Rows of rows of type e. -/
def slC (e : TypeId) (r : List (List C)) : List C := [.sl e r]

theorem take_next {α : Type} [Inhabited α] {l : List α} {i : Nat} (h : i < l.length) : l.take (i + 1) = l.take i ++ [l.getD i default] := by
  rw [List.take_succ_eq_append_getElem h]; simp [List.getD, List.getElem?_eq_getElem h]

theorem csR0 : (∀ p : Pt, p.cs = [.int .i64 p.t, .int .i64 p.v]) ∧ (∀ p : Ent, p.cs = [.int .i64 p.s, .int .i64 p.t, .int .i64 p.v]) ∧ (∀ s : Sm, s.cs = [.int .i64 s.n, .int .i64 s.mn, .int .i64 s.mx, .int .i64 s.tot]) ∧
    (∀ b : Buc, b.cs = [.int .i64 b.start, .int .i64 b.s.n, .int .i64 b.s.mn, .int .i64 b.s.mx, .int .i64 b.s.tot]) ∧ (∀ b : Bool, boC b = [.bool b]) ∧ (∀ n : Int, inC n = [.int .i64 n]) ∧ (∀ (e : TypeId) (r : List (List C)), slC e r = [.sl e r]) :=
  ⟨fun _ => rfl, fun _ => rfl, fun _ => rfl, fun _ => rfl, fun _ => rfl, fun _ => rfl, fun _ _ => rfl⟩

theorem enR : (∀ (a b : Int) (l : List Pt), [C.int .i64 a, C.int .i64 b] :: Rw Pt.cs l = Rw Pt.cs (⟨a, b⟩ :: l)) ∧ (∀ (a b : Int), [[C.int .i64 a, C.int .i64 b]] = Rw Pt.cs [⟨a, b⟩]) ∧
    (∀ (a b c : Int) (l : List Ent), [C.int .i64 a, C.int .i64 b, C.int .i64 c] :: Rw Ent.cs l = Rw Ent.cs (⟨a, b, c⟩ :: l)) ∧ (∀ (a b c : Int), [[C.int .i64 a, C.int .i64 b, C.int .i64 c]] = Rw Ent.cs [⟨a, b, c⟩]) ∧
    (∀ (a : Bool) (l : List Bool), [C.bool a] :: Rw boC l = Rw boC (a :: l)) ∧ (∀ (a : Bool), [[C.bool a]] = Rw boC [a]) ∧
    (∀ (a : Int) (l : List Int), [C.int .i64 a] :: Rw inC l = Rw inC (a :: l)) ∧ (∀ (a : Int), [[C.int .i64 a]] = Rw inC [a]) ∧
    (∀ (e : TypeId) (r : List (List C)) (l : List (List (List C))), [C.sl e r] :: Rw (slC e) l = Rw (slC e) (r :: l)) ∧ (∀ (e : TypeId) (r : List (List C)), [[C.sl e r]] = Rw (slC e) [r]) ∧
    (∀ (a b c d e : Int) (l : List Buc), [C.int .i64 a, C.int .i64 b, C.int .i64 c, C.int .i64 d, C.int .i64 e] :: Rw Buc.cs l = Rw Buc.cs (⟨a, ⟨b, c, d, e⟩⟩ :: l)) ∧
    (∀ (a b c d e : Int), [[C.int .i64 a, C.int .i64 b, C.int .i64 c, C.int .i64 d, C.int .i64 e]] = Rw Buc.cs [⟨a, ⟨b, c, d, e⟩⟩]) :=
  ⟨fun _ _ _ => rfl, fun _ _ => rfl, fun _ _ _ _ => rfl, fun _ _ _ => rfl, fun _ _ => rfl, fun _ => rfl, fun _ _ => rfl, fun _ => rfl, fun _ _ _ => rfl, fun _ _ => rfl, fun _ _ _ _ _ _ => rfl, fun _ _ _ _ _ => rfl⟩

def Sm.av (s : Sm) : AV := .agg [.c (.int .i64 s.n), .c (.int .i64 s.mn), .c (.int .i64 s.mx), .c (.int .i64 s.tot)]
def Pt.av (p : Pt) : AV := .agg [.c (.int .i64 p.t), .c (.int .i64 p.v)]
theorem avR : (∀ s : Sm, s.av = .agg [.c (.int .i64 s.n), .c (.int .i64 s.mn), .c (.int .i64 s.mx), .c (.int .i64 s.tot)]) ∧ (∀ p : Pt, p.av = .agg [.c (.int .i64 p.t), .c (.int .i64 p.v)]) := ⟨fun _ => rfl, fun _ => rfl⟩
end Go.Rb
namespace Go.Rb
theorem at_mod {k n : Int} (h : 0 < n) : (if k.tmod n < 0 then k.tmod n + n else k.tmod n) = k % n := by
  have h1 := Int.emod_nonneg k (show n ≠ 0 by omega)
  have h2 := Int.emod_lt_of_pos k h
  have h3 : ((n.natAbs : Nat) : Int) = n := by omega
  rw [Int.tmod_eq_emod]
  by_cases hc : 0 ≤ k ∨ n ∣ k
  · simp only [hc, if_true]
    rw [if_neg (by omega)]
    omega
  · simp only [hc, if_false, h3]
    rw [if_pos (by omega)]
    omega
theorem w64_w64_l (a b : Int) : w64 (w64 a + b) = w64 (a + b) := by
  have h : ∀ n : Int, w64 n = if n % 18446744073709551616 ≥ 9223372036854775808 then n % 18446744073709551616 - 18446744073709551616 else n % 18446744073709551616 := by
    intro n
    show (if (true && decide (n % (18446744073709551616 : Int) ≥ (9223372036854775808 : Int))) = true then n % (18446744073709551616 : Int) - (18446744073709551616 : Int) else n % (18446744073709551616 : Int)) = _
    simp only [Bool.true_and, decide_eq_true_eq]
  rw [h a, h (a + b)]
  rw [h]
  split <;> split <;> split <;> omega
theorem w64_w64_r (a b : Int) : w64 (a + w64 b) = w64 (a + b) := by rw [Int.add_comm, w64_w64_l, Int.add_comm]
theorem eq_of_getD {α : Type} [Inhabited α] {a b : List α} (h : a.length = b.length) (hg : ∀ j, j < a.length → a.getD j default = b.getD j default) : a = b := by
  apply List.ext_getElem h
  intro i h1 h2
  have := hg i h1
  simpa [List.getD, List.getElem?_eq_getElem h1, List.getElem?_eq_getElem h2] using this
end Go.Rb
