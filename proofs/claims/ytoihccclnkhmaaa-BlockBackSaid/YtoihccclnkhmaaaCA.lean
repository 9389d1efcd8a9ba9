/-
  What is proved: a number brought within bounds: what at computes. Conditions: none.
-/
import Derived.Test.YtoihccclnkhmaaaTy
import Derived.Test.YtoihccclnkhmaaaPA
set_option linter.unusedVariables false
set_option linter.unusedSimpArgs false
set_option maxRecDepth 4000
namespace Go.Proofs.Y
open Go.Rb
set_option maxHeartbeats 4000000 in
set_option maxRecDepth 50000 in
theorem at_fun (k n : Int) (h : 0 < n) (hn : n ≤ 9223372036854775807) : Fun Try.prog 30 [.c (.int .i64 k), .c (.int .i64 n)] nomem (.c (.int .i64 (k % n))) nomem := by
 have h1 := Int.tmod_lt_of_pos k h
 have h2 := Int.lt_tmod_of_pos k h
 have h3 := at_mod (k := k) h
 refine fun_of_awp Try.func30 rfl (by decide +kernel) (by decide +kernel) (Nat.le_of_ble_eq_true rfl) (fun _ _ => rfl) (fun _ _ => rfl) ?_
 refine seq_reg 1 fun L1 hL1 => ?_
 simp only [qq, seval, -Nat.reducePow, reduceIte, reduceCtorEq]
 refine nil_z hL1 ?_
 refine seq_reg 2 fun L2 hL2 => ?_
 simp only [qq, seval, -Nat.reducePow, reduceIte, reduceCtorEq]
 refine aops_val (v := ?v3) rfl ?h3 ?_
 case h3 => simp only [qq, seval, -Nat.reducePow, reduceIte, reduceCtorEq]; (rw [y_rem] <;> omega)
 simp only [qq, seval, -Nat.reducePow, reduceIte, reduceCtorEq]
 refine aops_orunN 1 _ _ ?_
 simp only [qq, seval, -Nat.reducePow, reduceIte, reduceCtorEq]
 refine nil_z hL2 ?_
 refine awp_seq_k fun K4 hK4 => ?_
 refine seq_reg 2 fun L5 hL5 => ?_
 simp only [qq, seval, -Nat.reducePow, reduceIte, reduceCtorEq]
 refine nil_z hL5 ?_
 as_aux_lemma =>
  refine awp_cond (t := ?t6) ?h6 (fun hb6 => ?a6) (fun hb6 => ?b6)
  case h6 => simp only [qq, seval, -Nat.reducePow, reduceIte, reduceCtorEq]; rfl
  case a6 =>
   have hp6 := hb6
   try simp only [kb] at hp6
   refine reg 2 fun L7 hL7 => ?_
   simp only [qq, seval, -Nat.reducePow, reduceIte, reduceCtorEq, hb6]
   refine aops_val (v := ?v8) rfl ?h8 ?_
   case h8 => simp only [qq, seval, -Nat.reducePow, reduceIte, reduceCtorEq, hb6]; first | (rw [wr_id] <;> omega) | rfl
   simp only [qq, seval, -Nat.reducePow, reduceIte, reduceCtorEq, hb6]
   refine aops_orunN 1 _ _ ?_
   simp only [qq, seval, -Nat.reducePow, reduceIte, reduceCtorEq, hb6]
   refine nil_q hL7 ?_
   refine hK4 _ ?_
   refine seq_reg 2 fun L9 hL9 => ?_
   simp only [qq, seval, -Nat.reducePow, reduceIte, reduceCtorEq, hb6]
   refine nil_z hL9 ?_
   refine awp_ret ?_
   try simp only [rk_state]
   refine ⟨_, 0, by simp only [qq, seval, -Nat.reducePow, reduceIte, reduceCtorEq, resA, Try.results30, hb6]; rfl, ?_, nomem_a, nomem_a⟩
   simp only [packA]
   (repeat' (first | exact .nil | exact wkR_c | exact wkR_own | exact wkR_nils | refine wkR_int ?_ | refine wkR_bool ?_ | refine wkR_sl ?_ | refine wkR_osl ?_ | refine wkR_nsl ?_ | refine wkR_oo ?_ | refine wkR_no ?_ | refine .cons ?_ ?_ | refine wkR_agg ?_ | refine wkR_tup ?_)) <;> first | (rw [if_pos (by assumption)] at h3; exact h3) | (rw [if_neg (by assumption)] at h3; exact h3)
  case b6 =>
   have hp6 := hb6
   try simp only [kb] at hp6
   refine awp_skip ?_
   refine hK4 _ ?_
   refine seq_reg 2 fun L10 hL10 => ?_
   simp only [qq, seval, -Nat.reducePow, reduceIte, reduceCtorEq, hb6]
   refine nil_z hL10 ?_
   as_aux_lemma =>
    refine awp_ret ?_
    try simp only [rk_state]
    refine ⟨_, 0, by simp only [qq, seval, -Nat.reducePow, reduceIte, reduceCtorEq, resA, Try.results30, hb6]; rfl, ?_, nomem_a, nomem_a⟩
    simp only [packA]
    (repeat' (first | exact .nil | exact wkR_c | exact wkR_own | exact wkR_nils | refine wkR_int ?_ | refine wkR_bool ?_ | refine wkR_sl ?_ | refine wkR_osl ?_ | refine wkR_nsl ?_ | refine wkR_oo ?_ | refine wkR_no ?_ | refine .cons ?_ ?_ | refine wkR_agg ?_ | refine wkR_tup ?_)) <;> first | (rw [if_pos (by assumption)] at h3; exact h3) | (rw [if_neg (by assumption)] at h3; exact h3)
end Go.Proofs.Y
