/-
  What is stated: rows of equations by which states are reckoned, each row under one name. Conditions: none.
-/
import Derived.Test.YtoihccclnkhmaaaEngZ
set_option linter.unusedVariables false
set_option linter.unusedSimpArgs false
set_option maxRecDepth 4000
namespace Go.Rb

/-- A row of equations. -/
theorem q0 : type_of% (
  And.intro (@forget.eq_1) <|
  And.intro (@orun.eq_1) <|
  And.intro (@orun.eq_2) <|
  And.intro (@wantedA.eq_1) <|
  And.intro (@ostep.eq_1) <|
  And.intro (@yl.eq_1) <|
  And.intro (@yl.eq_2) <|
  And.intro (@yl.eq_3) <|
  And.intro (@yl.eq_4) <|
  And.intro (@yl.eq_5) <|
  And.intro (@yl.eq_6) <|
  And.intro (@yl.eq_7) <|
  And.intro (@yl.eq_8) <|
  And.intro (@yl.eq_9) <|
  And.intro (@yl.eq_10) <|
  And.intro (@yl.eq_11) <|
  And.intro (@yl.eq_12) <|
  And.intro (@yl.eq_13) <|
  And.intro (@yl.eq_14) <|
  And.intro (@yl.eq_15) <|
  And.intro (@ycall.eq_1) <|
  And.intro (@yload.eq_1) <|
  And.intro (@yload.eq_2) <|
  And.intro (@yfill.eq_1) <|
  And.intro (@yfill.eq_2) <|
  And.intro (@place.eq_1) <|
  And.intro (@AV.rows.eq_1) <|
  And.intro (@AV.rows.eq_2) <|
  And.intro (@AV.rows.eq_3) <|
  And.intro (@AV.int?.eq_1) <|
  And.intro (@St.R.eq_1) <|
  And.intro (@startA.eq_1) <|
  And.intro (@nomem.eq_1) <|
  And.intro (@ybs.eq_1) <|
  And.intro (@toRows.eq_1) <|
  And.intro (@toRows.eq_2) <|
  And.intro (@toCs.eq_1) <|
  And.intro (@toCs.eq_2) <|
  And.intro (@AV.toC.eq_1) <|
  And.intro (@AV.toC.eq_2) <|
  And.intro (@AV.toC.eq_3) <|
  And.intro (@elemT.eq_1) <|
  And.intro (@St.cut.eq_1) <|
  And.intro (@vk.eq_1) <|
  And.intro ((fun (a b : Nat) (l : List Nat) => @List.contains_cons Nat _ a b l)) <|
  And.intro ((fun (a : Nat) => @List.contains_nil Nat a _)) <|
  And.intro (@Bool.or_false) <|
  And.intro (@Bool.false_or) <|
  And.intro (@Bool.or_true) <|
  And.intro (@Bool.true_or) <|
  And.intro (@Bool.or_self) <|
  And.intro (@rk_state) <|
  And.intro (@rk_ops) <|
  And.intro (@rk_pure) <|
  And.intro ((fun {α : Type} => @List.getD_cons_zero α)) <|
  And.intro ((fun {α : Type} => @List.getD_cons_succ α)) <|
  And.intro ((fun {α : Type} => @List.getElem?_toArray α)) <|
  And.intro ((fun {α : Type} => @List.getElem?_cons_zero α)) <|
  And.intro ((fun {α : Type} => @List.getElem?_cons_succ α)) <|
  And.intro ((fun {α : Type} => @List.isEmpty_nil α)) <|
  And.intro ((fun {α : Type} => @List.isEmpty_cons α)) <|
  And.intro (@Bool.not_false) <|
  And.intro (@Bool.not_true) <|
  And.intro (@Bool.and_self) <|
  And.intro (@Bool.and_true) <|
  And.intro (@Bool.true_and) <|
  And.intro ((fun {α : Type} => @if_true α)) <|
  And.intro ((fun {α : Type} (a b : α) => @ne_eq α a b)) <|
  And.intro (@not_false_iff) <|
  And.intro (@not_true_eq_false) <|
  And.intro (@Nat.add_zero) <|
  And.intro (@Nat.zero_add) <|
  And.intro ((fun {α β : Type} => @Option.map_some α β)) <|
  And.intro ((fun {α β : Type} => @Option.map_none α β)) <|
  And.intro ((fun {α β : Type} => @Option.bind_some α β)) <|
  And.intro ((fun {α : Type} => @List.length_cons α)) <|
  And.intro ((fun {α : Type} => @List.length_nil α)) <|
  And.intro ((fun {α : Type} => @List.drop_zero α)) <|
  And.intro ((fun {α : Type} => @List.drop_succ_cons α)) <|
  And.intro ((fun {α : Type} => @List.take_succ_cons α)) <|
  And.intro ((fun {α : Type} => @List.take_zero α)) <|
  And.intro ((fun {α β : Type} => @List.map_cons α β)) <|
  And.intro ((fun {α β : Type} => @List.map_nil α β)) <|
  And.intro ((fun {α : Type} => @List.cons_append α)) <|
  And.intro ((fun {α : Type} => @List.nil_append α)) <|
  And.intro ((fun {α : Type} => @List.append_nil α)) <|
  And.intro (@and_self) <|
  And.intro (@Bool.false_eq_true) <|
  And.intro ((fun {α : Type} [BEq α] [ReflBEq α] => @beq_self_eq_true α _ _)) <|
  And.intro (@beq_true) <|
  And.intro (@beq_false) <|
  And.intro ((fun {α : Type} => @List.take_nil α)) <|
  And.intro ((fun {α : Type} => @List.drop_nil α)) <|
  And.intro (@Nat.le_refl) <|
  And.intro ((fun {α : Type} => @eq_self α)) <|
  And.intro (@decide_true) <|
  And.intro (@decide_false) <|
  And.intro ((fun {α : Type} => @List.replicate_succ α)) <|
  And.intro ((fun {α : Type} => @List.replicate_zero α)) <|
  And.intro (@Int.toNat_natCast) <|
  And.intro ((fun {α : Type} [BEq α] [LawfulBEq α] => @bne_self_eq_false α _ _)) <|
  And.intro (@Nat.testBit_or) <|
  And.intro (@tb_pow) <|
  And.intro (@le24) <|
  And.intro (@tb_zero) <|
  And.intro (@mask_pow) <|
  And.intro (@mask_zero) <|
  And.intro (@Nat.zero_or) <|
  And.intro (@false_and) <|
  And.intro (@and_false) <|
  (@Nat.zero_and)) :=
  And.intro (@forget.eq_1) <|
  And.intro (@orun.eq_1) <|
  And.intro (@orun.eq_2) <|
  And.intro (@wantedA.eq_1) <|
  And.intro (@ostep.eq_1) <|
  And.intro (@yl.eq_1) <|
  And.intro (@yl.eq_2) <|
  And.intro (@yl.eq_3) <|
  And.intro (@yl.eq_4) <|
  And.intro (@yl.eq_5) <|
  And.intro (@yl.eq_6) <|
  And.intro (@yl.eq_7) <|
  And.intro (@yl.eq_8) <|
  And.intro (@yl.eq_9) <|
  And.intro (@yl.eq_10) <|
  And.intro (@yl.eq_11) <|
  And.intro (@yl.eq_12) <|
  And.intro (@yl.eq_13) <|
  And.intro (@yl.eq_14) <|
  And.intro (@yl.eq_15) <|
  And.intro (@ycall.eq_1) <|
  And.intro (@yload.eq_1) <|
  And.intro (@yload.eq_2) <|
  And.intro (@yfill.eq_1) <|
  And.intro (@yfill.eq_2) <|
  And.intro (@place.eq_1) <|
  And.intro (@AV.rows.eq_1) <|
  And.intro (@AV.rows.eq_2) <|
  And.intro (@AV.rows.eq_3) <|
  And.intro (@AV.int?.eq_1) <|
  And.intro (@St.R.eq_1) <|
  And.intro (@startA.eq_1) <|
  And.intro (@nomem.eq_1) <|
  And.intro (@ybs.eq_1) <|
  And.intro (@toRows.eq_1) <|
  And.intro (@toRows.eq_2) <|
  And.intro (@toCs.eq_1) <|
  And.intro (@toCs.eq_2) <|
  And.intro (@AV.toC.eq_1) <|
  And.intro (@AV.toC.eq_2) <|
  And.intro (@AV.toC.eq_3) <|
  And.intro (@elemT.eq_1) <|
  And.intro (@St.cut.eq_1) <|
  And.intro (@vk.eq_1) <|
  And.intro ((fun (a b : Nat) (l : List Nat) => @List.contains_cons Nat _ a b l)) <|
  And.intro ((fun (a : Nat) => @List.contains_nil Nat a _)) <|
  And.intro (@Bool.or_false) <|
  And.intro (@Bool.false_or) <|
  And.intro (@Bool.or_true) <|
  And.intro (@Bool.true_or) <|
  And.intro (@Bool.or_self) <|
  And.intro (@rk_state) <|
  And.intro (@rk_ops) <|
  And.intro (@rk_pure) <|
  And.intro ((fun {α : Type} => @List.getD_cons_zero α)) <|
  And.intro ((fun {α : Type} => @List.getD_cons_succ α)) <|
  And.intro ((fun {α : Type} => @List.getElem?_toArray α)) <|
  And.intro ((fun {α : Type} => @List.getElem?_cons_zero α)) <|
  And.intro ((fun {α : Type} => @List.getElem?_cons_succ α)) <|
  And.intro ((fun {α : Type} => @List.isEmpty_nil α)) <|
  And.intro ((fun {α : Type} => @List.isEmpty_cons α)) <|
  And.intro (@Bool.not_false) <|
  And.intro (@Bool.not_true) <|
  And.intro (@Bool.and_self) <|
  And.intro (@Bool.and_true) <|
  And.intro (@Bool.true_and) <|
  And.intro ((fun {α : Type} => @if_true α)) <|
  And.intro ((fun {α : Type} (a b : α) => @ne_eq α a b)) <|
  And.intro (@not_false_iff) <|
  And.intro (@not_true_eq_false) <|
  And.intro (@Nat.add_zero) <|
  And.intro (@Nat.zero_add) <|
  And.intro ((fun {α β : Type} => @Option.map_some α β)) <|
  And.intro ((fun {α β : Type} => @Option.map_none α β)) <|
  And.intro ((fun {α β : Type} => @Option.bind_some α β)) <|
  And.intro ((fun {α : Type} => @List.length_cons α)) <|
  And.intro ((fun {α : Type} => @List.length_nil α)) <|
  And.intro ((fun {α : Type} => @List.drop_zero α)) <|
  And.intro ((fun {α : Type} => @List.drop_succ_cons α)) <|
  And.intro ((fun {α : Type} => @List.take_succ_cons α)) <|
  And.intro ((fun {α : Type} => @List.take_zero α)) <|
  And.intro ((fun {α β : Type} => @List.map_cons α β)) <|
  And.intro ((fun {α β : Type} => @List.map_nil α β)) <|
  And.intro ((fun {α : Type} => @List.cons_append α)) <|
  And.intro ((fun {α : Type} => @List.nil_append α)) <|
  And.intro ((fun {α : Type} => @List.append_nil α)) <|
  And.intro (@and_self) <|
  And.intro (@Bool.false_eq_true) <|
  And.intro ((fun {α : Type} [BEq α] [ReflBEq α] => @beq_self_eq_true α _ _)) <|
  And.intro (@beq_true) <|
  And.intro (@beq_false) <|
  And.intro ((fun {α : Type} => @List.take_nil α)) <|
  And.intro ((fun {α : Type} => @List.drop_nil α)) <|
  And.intro (@Nat.le_refl) <|
  And.intro ((fun {α : Type} => @eq_self α)) <|
  And.intro (@decide_true) <|
  And.intro (@decide_false) <|
  And.intro ((fun {α : Type} => @List.replicate_succ α)) <|
  And.intro ((fun {α : Type} => @List.replicate_zero α)) <|
  And.intro (@Int.toNat_natCast) <|
  And.intro ((fun {α : Type} [BEq α] [LawfulBEq α] => @bne_self_eq_false α _ _)) <|
  And.intro (@Nat.testBit_or) <|
  And.intro (@tb_pow) <|
  And.intro (@le24) <|
  And.intro (@tb_zero) <|
  And.intro (@mask_pow) <|
  And.intro (@mask_zero) <|
  And.intro (@Nat.zero_or) <|
  And.intro (@false_and) <|
  And.intro (@and_false) <|
  (@Nat.zero_and)

/-- Truth values as propositions. -/
theorem kb : (∀ (p : Prop) [Decidable p], (decide p = true) = p) ∧ (∀ (p : Prop) [Decidable p], (decide p = false) = ¬ p) ∧ (∀ (a b : Int), ((a == b) = true) = (a = b)) ∧ (∀ (a b : Int), ((a != b) = true) = ¬ (a = b)) ∧
    (∀ (a b : Int), ((a == b) = false) = ¬ (a = b)) ∧ (∀ (a b : Int), ((a != b) = false) = (a = b)) ∧ (∀ (a b : Bool), ((a == b) = true) = (a = b)) ∧ (∀ (a b : Bool), ((a != b) = true) = ¬ (a = b)) ∧
    (∀ (a b : Bool), ((a == b) = false) = ¬ (a = b)) ∧ (∀ (a b : Bool), ((a != b) = false) = (a = b)) ∧ (∀ b : Bool, ((!b) = true) = (b = false)) ∧ (∀ b : Bool, ((!b) = false) = (b = true)) ∧
    (∀ {α : Type} (a b : α), (a ≠ b) = ¬ (a = b)) ∧ (∀ (p : Prop) [Decidable p], (¬ ¬ p) = p) := by
  refine ⟨?_, ?_, ?_, ?_, ?_, ?_, ?_, ?_, ?_, ?_, ?_, ?_, ?_, ?_⟩
  all_goals intros
  all_goals simp

end Go.Rb
