/-
  What is stated: the program's data as plain Lean types, and how they are coded. Conditions: none.
-/
import Derived.Test.YtoihccclnkhmaaaEngV
set_option linter.unusedVariables false
set_option linter.unusedSimpArgs false
set_option maxRecDepth 4000
namespace Go.Rb

structure Pt where
  t : Int
  v : Int
deriving DecidableEq, Inhabited

structure Sm where
  n : Int
  mn : Int
  mx : Int
  tot : Int
deriving DecidableEq, Inhabited

def w64 (n : Int) : Int := IntKind.wrap .i64 n

def Pt.cs (p : Pt) : List C := [.int .i64 p.t, .int .i64 p.v]
def ptR (l : List Pt) : List (List C) := l.map Pt.cs
def boR (l : List Bool) : List (List C) := l.map fun b => [.bool b]
def inR (l : List Int) : List (List C) := l.map fun n => [.int .i64 n]
def Sm.av (s : Sm) : AV := .agg [.c (.int .i64 s.n), .c (.int .i64 s.mn), .c (.int .i64 s.mx), .c (.int .i64 s.tot)]
def Pt.av (p : Pt) : AV := .agg [.c (.int .i64 p.t), .c (.int .i64 p.v)]

theorem ptR_len (l : List Pt) : (ptR l).length = l.length := by simp [ptR]
theorem boR_len (l : List Bool) : (boR l).length = l.length := by simp [boR]
theorem inR_len (l : List Int) : (inR l).length = l.length := by simp [inR]

theorem lenR : (∀ l : List Pt, (ptR l).length = l.length) ∧ (∀ l : List Bool, (boR l).length = l.length) ∧ (∀ l : List Int, (inR l).length = l.length) := ⟨ptR_len, boR_len, inR_len⟩

theorem ptR_get {l : List Pt} {i : Nat} (h : i < l.length) : (ptR l).getD i [] = [.int .i64 (l.getD i default).t, .int .i64 (l.getD i default).v] := by
  simp [ptR, List.getD, List.getElem?_eq_getElem h, Pt.cs]
theorem boR_get {l : List Bool} {i : Nat} (h : i < l.length) : (boR l).getD i [] = [.bool (l.getD i default)] := by
  simp [boR, List.getD, List.getElem?_eq_getElem h]
theorem inR_get {l : List Int} {i : Nat} (h : i < l.length) : (inR l).getD i [] = [.int .i64 (l.getD i default)] := by
  simp [inR, List.getD, List.getElem?_eq_getElem h]

theorem w64_id {n : Int} (h1 : -9223372036854775808 ≤ n) (h2 : n ≤ 9223372036854775807) : IntKind.wrap .i64 n = n := by
  show (if (true && decide (n % (18446744073709551616 : Int) ≥ (9223372036854775808 : Int))) = true then n % (18446744073709551616 : Int) - (18446744073709551616 : Int) else n % (18446744073709551616 : Int)) = n
  simp only [Bool.true_and, decide_eq_true_eq]
  split <;> omega

theorem take_next {α : Type} [Inhabited α] {l : List α} {i : Nat} (h : i < l.length) : l.take (i + 1) = l.take i ++ [l.getD i default] := by
  rw [List.take_succ_eq_append_getElem h]; simp [List.getD, List.getElem?_eq_getElem h]
end Go.Rb
