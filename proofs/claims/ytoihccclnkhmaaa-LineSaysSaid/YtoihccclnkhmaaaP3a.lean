/-
  What is proved: when points rise, as a plain function. Conditions: none.
-/
import Derived.Test.YtoihccclnkhmaaaDat
set_option linter.unusedVariables false
set_option linter.unusedSimpArgs false
set_option maxRecDepth 4000
namespace Go.Rb
def PtIn (p : Pt) : Prop := 0 ≤ p.t ∧ p.t ≤ 100000 ∧ -1000000 ≤ p.v ∧ p.v ≤ 1000000
def chk : Int → List Pt → Int
  | _, [] => 0
  | last, p :: r => if p.t < 0 ∨ p.t > 100000 ∨ p.v < -1000000 ∨ p.v > 1000000 then 3 else if last ≥ p.t then 7 else chk p.t r
def checkL (l : List Pt) : Int := if l.length > 40 then 2 else chk (-1) l
def lastT (l : List Pt) (i : Nat) : Int := if i = 0 then -1 else (l.getD (i - 1) default).t
theorem drop_cons {α : Type} [Inhabited α] {l : List α} {i : Nat} (h : i < l.length) : l.drop i = l.getD i default :: l.drop (i + 1) := by
  rw [List.drop_eq_getElem_cons h]; simp [List.getD, List.getElem?_eq_getElem h]
theorem chk_step {l : List Pt} {i : Nat} (h : i < l.length) : chk (lastT l i) (l.drop i) =
    if (l.getD i default).t < 0 ∨ (l.getD i default).t > 100000 ∨ (l.getD i default).v < -1000000 ∨ (l.getD i default).v > 1000000 then 3 else if lastT l i ≥ (l.getD i default).t then 7 else chk (lastT l (i + 1)) (l.drop (i + 1)) := by
  rw [drop_cons h, chk]
  simp [lastT]
theorem chk_all : ∀ {l : List Pt} {last : Int}, chk last l = 0 → ∀ p ∈ l, PtIn p
  | [], _, _, p, hp => by cases hp
  | q :: l, last, h, p, hp => by
    rw [chk] at h
    split at h
    · cases h
    · split at h
      · cases h
      · rcases List.mem_cons.1 hp with rfl | hp
        · unfold PtIn; omega
        · exact chk_all h p hp
theorem checkL_len {l : List Pt} (h : checkL l = 0) : l.length ≤ 40 := by
  unfold checkL at h
  split at h
  · cases h
  · omega
theorem checkL_chk {l : List Pt} (h : checkL l = 0) : chk (-1) l = 0 := by
  unfold checkL at h
  split at h
  · cases h
  · exact h
theorem checkL_all {l : List Pt} (h : checkL l = 0) : ∀ p ∈ l, PtIn p := chk_all (checkL_chk h)
theorem getD_mem {α : Type} [Inhabited α] {l : List α} {i : Nat} (h : i < l.length) : l.getD i default ∈ l := by
  have : l.getD i default = l[i] := by simp [List.getD, List.getElem?_eq_getElem h]
  rw [this]; exact List.getElem_mem h
end Go.Rb
