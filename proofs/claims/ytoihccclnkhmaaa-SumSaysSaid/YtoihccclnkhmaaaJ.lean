/-
  What is proved: what functions of the sum chapter compute. Conditions: none.
-/
import Derived.Test.YtoihccclnkhmaaaTy
import Derived.Test.YtoihccclnkhmaaaDat
import Derived.Test.YtoihccclnkhmaaaOpn
import Derived.Test.YtoihccclnkhmaaaEngY
set_option linter.unusedVariables false
set_option linter.unusedSimpArgs false
set_option maxRecDepth 4000
namespace Go.Proofs.Y
open Go.Rb
def join (a b : Sm) : Sm := if a.n = 0 then b else if b.n = 0 then a else ⟨w64 (a.n + b.n), min a.mn b.mn, max a.mx b.mx, w64 (a.tot + b.tot)⟩
def joined (a b : Sm) : Sm := if a.n = 0 then b else if b.n = 0 then a else ⟨w64 (a.n + b.n), min b.mn a.mn, max b.mx a.mx, w64 (b.tot + a.tot)⟩
def sumOf (l : List Pt) : Sm := l.foldl (fun s p => join s ⟨1, p.v, p.v, p.v⟩) ⟨0, 0, 0, 0⟩
theorem sumOf_next {l : List Pt} {i : Nat} (h : i < l.length) : sumOf (l.take (i + 1)) = join ⟨(sumOf (l.take i)).n, (sumOf (l.take i)).mn, (sumOf (l.take i)).mx, (sumOf (l.take i)).tot⟩ ⟨1, (l.getD i default).v, (l.getD i default).v, (l.getD i default).v⟩ := by
  rw [take_next h]; simp [sumOf]
theorem w64_of {n : Int} (h : inR64 n) : w64 n = n := w64_id h.1 h.2
theorem join_eq (a b : Sm) : joined a b = join a b := by
  simp only [joined, join, Int.min_comm b.mn, Int.max_comm b.mx, Int.add_comm b.tot]
def sumRef (l : List Pt) : Sm := if l.length = 0 then ⟨0, 0, 0, 0⟩ else l.foldl (fun s p => ⟨s.n, min s.mn p.v, max s.mx p.v, w64 (s.tot + p.v)⟩) ⟨l.length, (l.getD 0 default).v, (l.getD 0 default).v, 0⟩
def sumRefAt (l : List Pt) (i : Nat) : Sm := (l.take i).foldl (fun s p => ⟨s.n, min s.mn p.v, max s.mx p.v, w64 (s.tot + p.v)⟩) ⟨l.length, (l.getD 0 default).v, (l.getD 0 default).v, 0⟩
theorem sumRef_next {l : List Pt} {i : Nat} (h : i < l.length) : sumRefAt l (i + 1) = ⟨(sumRefAt l i).n, min (sumRefAt l i).mn (l.getD i default).v, max (sumRefAt l i).mx (l.getD i default).v, w64 ((sumRefAt l i).tot + (l.getD i default).v)⟩ := by
  rw [sumRefAt, take_next h]; simp [sumRefAt]
theorem sumRef_at (l : List Pt) (hn : l.length < 4611686018427387904) (hk : ∀ p ∈ l, inR64 p.v) : ∀ i, 1 ≤ i → i ≤ l.length → sumOf (l.take i) = ⟨i, (sumRefAt l i).mn, (sumRefAt l i).mx, (sumRefAt l i).tot⟩ := by
  intro i h1
  induction i with
  | zero => omega
  | succ i ih =>
  intro hl
  by_cases h1 : i = 0
  · subst h1
    cases l with
    | nil => simp at hl
    | cons p l =>
      have := w64_of (hk p List.mem_cons_self)
      simp [sumOf, sumRefAt, join, this]
  · have hi : i < l.length := by omega
    have e : (i : Int) ≠ 0 := by omega
    have ew : w64 ((i : Int) + 1) = (i + 1 : Nat) := by rw [w64, w64_id] <;> push_cast <;> omega
    rw [sumOf_next hi, ih (by omega) (by omega), sumRef_next hi]
    simp only [join, e, if_false, ew]
    simp
theorem sumRef_eq (l : List Pt) (hn : l.length < 4611686018427387904) (hk : ∀ p ∈ l, inR64 p.v) (h0 : l.length ≠ 0) : sumRefAt l l.length = sumOf l := by
  have h := sumRef_at l hn hk l.length (by omega) (Nat.le_refl _)
  rw [List.take_length] at h
  have hnn : ∀ i, (sumRefAt l i).n = l.length := by
    intro i
    unfold sumRefAt
    generalize l.take i = m
    suffices ∀ s : Sm, (m.foldl (fun s p => (⟨s.n, min s.mn p.v, max s.mx p.v, w64 (s.tot + p.v)⟩ : Sm)) s).n = s.n from this _
    induction m with
    | nil => intro s; rfl
    | cons p m ih => intro s; rw [List.foldl_cons, ih]
  rw [h]
  have := hnn l.length
  rcases he : sumRefAt l l.length with ⟨a, b, c, d⟩
  rw [he] at this
  simp_all

set_option maxHeartbeats 4000000 in
theorem join_fun (a b c d a2 b2 c2 d2 : Int) : Fun Try.prog 28 [.agg [.c (.int .i64 a), .c (.int .i64 b), .c (.int .i64 c), .c (.int .i64 d)], .agg [.c (.int .i64 a2), .c (.int .i64 b2), .c (.int .i64 c2), .c (.int .i64 d2)]] nomem ((join ⟨a, b, c, d⟩ ⟨a2, b2, c2, d2⟩).av) nomem := by
  refine fun_of_awp Try.func28 rfl (by decide +kernel) (by decide +kernel) (Nat.le_of_ble_eq_true rfl) (fun _ _ => rfl) ?_
  refine awp_seq_k fun K1 hK1 => ?_
  first | refine awp_region_lit fun L2 hL2 => ?_ | refine awp_region_dr (by decide +kernel) fun L2 hL2 => ?_
  refine aops_orunN 3 _ _ ?_
  simp only [k0, Nat.reduceBEq, reduceIte, Nat.reduceEqDiff, Nat.reduceAdd, Nat.reduceLeDiff, reduceCtorEq, Nat.reduceMul, Int.reduceToNat, lenR, Nat.reduceShiftRight, Nat.reduceMod, Nat.reducePow, Nat.reduceOr, Nat.reduceAnd, tyf]
  refine aops_nil (hL2 _ ?_)
  simp only [k0, Nat.reduceBEq, reduceIte, Nat.reduceEqDiff, Nat.reduceAdd, Nat.reduceLeDiff, reduceCtorEq, Nat.reduceMul, Int.reduceToNat, lenR, Nat.reduceShiftRight, Nat.reduceMod, Nat.reducePow, Nat.reduceOr, Nat.reduceAnd, tyf]
  refine hK1 _ ?_
  refine awp_seq_k fun K3 hK3 => ?_
  refine awp_block ?_
  refine awp_seq_k fun K4 hK4 => ?_
  first | refine awp_region_lit fun L5 hL5 => ?_ | refine awp_region_dr (by decide +kernel) fun L5 hL5 => ?_
  refine aops_orunN 4 _ _ ?_
  simp only [k0, Nat.reduceBEq, reduceIte, Nat.reduceEqDiff, Nat.reduceAdd, Nat.reduceLeDiff, reduceCtorEq, Nat.reduceMul, Int.reduceToNat, lenR, Nat.reduceShiftRight, Nat.reduceMod, Nat.reducePow, Nat.reduceOr, Nat.reduceAnd, tyf]
  refine aops_nil (hL5 _ ?_)
  simp only [k0, Nat.reduceBEq, reduceIte, Nat.reduceEqDiff, Nat.reduceAdd, Nat.reduceLeDiff, reduceCtorEq, Nat.reduceMul, Int.reduceToNat, lenR, Nat.reduceShiftRight, Nat.reduceMod, Nat.reducePow, Nat.reduceOr, Nat.reduceAnd, tyf]
  refine hK4 _ ?_
  refine awp_cond (t := ?t6) ?h6 (fun hb6 => ?a6) (fun hb6 => ?b6)
  case h6 => simp only [k0, Nat.reduceBEq, reduceIte, Nat.reduceEqDiff, Nat.reduceAdd, Nat.reduceLeDiff, reduceCtorEq, Nat.reduceMul, Int.reduceToNat, lenR, Nat.reduceShiftRight, Nat.reduceMod, Nat.reducePow, Nat.reduceOr, Nat.reduceAnd, tyf]; rfl
  case a6 =>
    have hp6 := hb6
    try simp only [kb] at hp6
    refine awp_seq_k fun K7 hK7 => ?_
    first | refine awp_region_lit fun L8 hL8 => ?_ | refine awp_region_dr (by decide +kernel) fun L8 hL8 => ?_
    refine aops_orunN 2 _ _ ?_
    simp only [k0, Nat.reduceBEq, reduceIte, Nat.reduceEqDiff, Nat.reduceAdd, Nat.reduceLeDiff, reduceCtorEq, Nat.reduceMul, Int.reduceToNat, lenR, Nat.reduceShiftRight, Nat.reduceMod, Nat.reducePow, Nat.reduceOr, Nat.reduceAnd, tyf, hb6]
    refine aops_nil (hL8 _ ?_)
    simp only [k0, Nat.reduceBEq, reduceIte, Nat.reduceEqDiff, Nat.reduceAdd, Nat.reduceLeDiff, reduceCtorEq, Nat.reduceMul, Int.reduceToNat, lenR, Nat.reduceShiftRight, Nat.reduceMod, Nat.reducePow, Nat.reduceOr, Nat.reduceAnd, tyf, hb6]
    refine hK7 _ ?_
    refine awp_ret ?_
    try simp only [rk_state]
    refine ⟨_, 0, by simp only [k0, Nat.reduceBEq, reduceIte, Nat.reduceEqDiff, Nat.reduceAdd, Nat.reduceLeDiff, reduceCtorEq, Nat.reduceMul, Int.reduceToNat, lenR, Nat.reduceShiftRight, Nat.reduceMod, Nat.reducePow, Nat.reduceOr, Nat.reduceAnd, tyf, resA, Try.results28, hb6]; rfl, ?_, fun l hl => absurd rfl hl⟩
    simp only [packA]
    simp only [Sm.av]; (repeat' (first | exact .nil | exact wkR_c | exact wkR_own | exact wkR_nils | refine wkR_int ?_ | refine wkR_bool ?_ | refine wkR_sl ?_ | refine wkR_osl ?_ | refine wkR_nsl ?_ | refine wkR_oo ?_ | refine wkR_no ?_ | refine .cons ?_ ?_ | refine wkR_agg ?_ | refine wkR_tup ?_)) <;> simp_all [join, w64]
  case b6 =>
    have hp6 := hb6
    try simp only [kb] at hp6
    refine awp_seq_k fun K9 hK9 => ?_
    first | refine awp_region_lit fun L10 hL10 => ?_ | refine awp_region_dr (by decide +kernel) fun L10 hL10 => ?_
    refine aops_orunN 4 _ _ ?_
    simp only [k0, Nat.reduceBEq, reduceIte, Nat.reduceEqDiff, Nat.reduceAdd, Nat.reduceLeDiff, reduceCtorEq, Nat.reduceMul, Int.reduceToNat, lenR, Nat.reduceShiftRight, Nat.reduceMod, Nat.reducePow, Nat.reduceOr, Nat.reduceAnd, tyf, hb6]
    refine aops_nil (hL10 _ ?_)
    simp only [k0, Nat.reduceBEq, reduceIte, Nat.reduceEqDiff, Nat.reduceAdd, Nat.reduceLeDiff, reduceCtorEq, Nat.reduceMul, Int.reduceToNat, lenR, Nat.reduceShiftRight, Nat.reduceMod, Nat.reducePow, Nat.reduceOr, Nat.reduceAnd, tyf, hb6]
    refine hK9 _ ?_
    refine awp_cond (t := ?t11) ?h11 (fun hb11 => ?a11) (fun hb11 => ?b11)
    case h11 => simp only [k0, Nat.reduceBEq, reduceIte, Nat.reduceEqDiff, Nat.reduceAdd, Nat.reduceLeDiff, reduceCtorEq, Nat.reduceMul, Int.reduceToNat, lenR, Nat.reduceShiftRight, Nat.reduceMod, Nat.reducePow, Nat.reduceOr, Nat.reduceAnd, tyf, hb6]; rfl
    case a11 =>
      have hp11 := hb11
      try simp only [kb] at hp11
      refine awp_seq_k fun K12 hK12 => ?_
      first | refine awp_region_lit fun L13 hL13 => ?_ | refine awp_region_dr (by decide +kernel) fun L13 hL13 => ?_
      refine aops_orunN 2 _ _ ?_
      simp only [k0, Nat.reduceBEq, reduceIte, Nat.reduceEqDiff, Nat.reduceAdd, Nat.reduceLeDiff, reduceCtorEq, Nat.reduceMul, Int.reduceToNat, lenR, Nat.reduceShiftRight, Nat.reduceMod, Nat.reducePow, Nat.reduceOr, Nat.reduceAnd, tyf, hb6, hb11]
      refine aops_nil (hL13 _ ?_)
      simp only [k0, Nat.reduceBEq, reduceIte, Nat.reduceEqDiff, Nat.reduceAdd, Nat.reduceLeDiff, reduceCtorEq, Nat.reduceMul, Int.reduceToNat, lenR, Nat.reduceShiftRight, Nat.reduceMod, Nat.reducePow, Nat.reduceOr, Nat.reduceAnd, tyf, hb6, hb11]
      refine hK12 _ ?_
      refine awp_ret ?_
      try simp only [rk_state]
      refine ⟨_, 0, by simp only [k0, Nat.reduceBEq, reduceIte, Nat.reduceEqDiff, Nat.reduceAdd, Nat.reduceLeDiff, reduceCtorEq, Nat.reduceMul, Int.reduceToNat, lenR, Nat.reduceShiftRight, Nat.reduceMod, Nat.reducePow, Nat.reduceOr, Nat.reduceAnd, tyf, resA, Try.results28, hb6, hb11]; rfl, ?_, fun l hl => absurd rfl hl⟩
      simp only [packA]
      simp only [Sm.av]; (repeat' (first | exact .nil | exact wkR_c | exact wkR_own | exact wkR_nils | refine wkR_int ?_ | refine wkR_bool ?_ | refine wkR_sl ?_ | refine wkR_osl ?_ | refine wkR_nsl ?_ | refine wkR_oo ?_ | refine wkR_no ?_ | refine .cons ?_ ?_ | refine wkR_agg ?_ | refine wkR_tup ?_)) <;> simp_all [join, w64]
    case b11 =>
      have hp11 := hb11
      try simp only [kb] at hp11
      refine awp_skip ?_
      try simp only [rk_state]
      try simp only [rk_state]
      refine hK3 _ ?_
      refine awp_seq_k fun K14 hK14 => ?_
      first | refine awp_region_lit fun L15 hL15 => ?_ | refine awp_region_dr (by decide +kernel) fun L15 hL15 => ?_
      refine aops_orunN 22 _ _ ?_
      simp only [k0, Nat.reduceBEq, reduceIte, Nat.reduceEqDiff, Nat.reduceAdd, Nat.reduceLeDiff, reduceCtorEq, Nat.reduceMul, Int.reduceToNat, lenR, Nat.reduceShiftRight, Nat.reduceMod, Nat.reducePow, Nat.reduceOr, Nat.reduceAnd, tyf, hb6, hb11]
      refine aops_nil (hL15 _ ?_)
      simp only [k0, Nat.reduceBEq, reduceIte, Nat.reduceEqDiff, Nat.reduceAdd, Nat.reduceLeDiff, reduceCtorEq, Nat.reduceMul, Int.reduceToNat, lenR, Nat.reduceShiftRight, Nat.reduceMod, Nat.reducePow, Nat.reduceOr, Nat.reduceAnd, tyf, hb6, hb11]
      refine hK14 _ ?_
      refine awp_ret ?_
      try simp only [rk_state]
      refine ⟨_, 0, by simp only [k0, Nat.reduceBEq, reduceIte, Nat.reduceEqDiff, Nat.reduceAdd, Nat.reduceLeDiff, reduceCtorEq, Nat.reduceMul, Int.reduceToNat, lenR, Nat.reduceShiftRight, Nat.reduceMod, Nat.reducePow, Nat.reduceOr, Nat.reduceAnd, tyf, resA, Try.results28, hb6, hb11]; rfl, ?_, fun l hl => absurd rfl hl⟩
      simp only [packA]
      simp only [Sm.av]; (repeat' (first | exact .nil | exact wkR_c | exact wkR_own | exact wkR_nils | refine wkR_int ?_ | refine wkR_bool ?_ | refine wkR_sl ?_ | refine wkR_osl ?_ | refine wkR_nsl ?_ | refine wkR_oo ?_ | refine wkR_no ?_ | refine .cons ?_ ?_ | refine wkR_agg ?_ | refine wkR_tup ?_)) <;> simp_all [join, w64]
set_option maxHeartbeats 4000000 in
theorem joined_fun (a b c d a2 b2 c2 d2 : Int) : Fun Try.prog 29 [.agg [.c (.int .i64 a), .c (.int .i64 b), .c (.int .i64 c), .c (.int .i64 d)], .agg [.c (.int .i64 a2), .c (.int .i64 b2), .c (.int .i64 c2), .c (.int .i64 d2)]] nomem ((join ⟨a, b, c, d⟩ ⟨a2, b2, c2, d2⟩).av) nomem := by
  refine fun_of_awp Try.func29 rfl (by decide +kernel) (by decide +kernel) (Nat.le_of_ble_eq_true rfl) (fun _ _ => rfl) ?_
  refine awp_seq_k fun K1 hK1 => ?_
  first | refine awp_region_lit fun L2 hL2 => ?_ | refine awp_region_dr (by decide +kernel) fun L2 hL2 => ?_
  refine aops_orunN 3 _ _ ?_
  simp only [k0, Nat.reduceBEq, reduceIte, Nat.reduceEqDiff, Nat.reduceAdd, Nat.reduceLeDiff, reduceCtorEq, Nat.reduceMul, Int.reduceToNat, lenR, Nat.reduceShiftRight, Nat.reduceMod, Nat.reducePow, Nat.reduceOr, Nat.reduceAnd, tyf]
  refine aops_nil (hL2 _ ?_)
  simp only [k0, Nat.reduceBEq, reduceIte, Nat.reduceEqDiff, Nat.reduceAdd, Nat.reduceLeDiff, reduceCtorEq, Nat.reduceMul, Int.reduceToNat, lenR, Nat.reduceShiftRight, Nat.reduceMod, Nat.reducePow, Nat.reduceOr, Nat.reduceAnd, tyf]
  refine hK1 _ ?_
  refine awp_seq_k fun K3 hK3 => ?_
  refine awp_seq_k fun K4 hK4 => ?_
  first | refine awp_region_lit fun L5 hL5 => ?_ | refine awp_region_dr (by decide +kernel) fun L5 hL5 => ?_
  refine aops_orunN 3 _ _ ?_
  simp only [k0, Nat.reduceBEq, reduceIte, Nat.reduceEqDiff, Nat.reduceAdd, Nat.reduceLeDiff, reduceCtorEq, Nat.reduceMul, Int.reduceToNat, lenR, Nat.reduceShiftRight, Nat.reduceMod, Nat.reducePow, Nat.reduceOr, Nat.reduceAnd, tyf]
  refine aops_nil (hL5 _ ?_)
  simp only [k0, Nat.reduceBEq, reduceIte, Nat.reduceEqDiff, Nat.reduceAdd, Nat.reduceLeDiff, reduceCtorEq, Nat.reduceMul, Int.reduceToNat, lenR, Nat.reduceShiftRight, Nat.reduceMod, Nat.reducePow, Nat.reduceOr, Nat.reduceAnd, tyf]
  refine hK4 _ ?_
  refine awp_cond (t := ?t6) ?h6 (fun hb6 => ?a6) (fun hb6 => ?b6)
  case h6 => simp only [k0, Nat.reduceBEq, reduceIte, Nat.reduceEqDiff, Nat.reduceAdd, Nat.reduceLeDiff, reduceCtorEq, Nat.reduceMul, Int.reduceToNat, lenR, Nat.reduceShiftRight, Nat.reduceMod, Nat.reducePow, Nat.reduceOr, Nat.reduceAnd, tyf]; rfl
  case a6 =>
    have hp6 := hb6
    try simp only [kb] at hp6
    refine awp_seq_k fun K7 hK7 => ?_
    first | refine awp_region_lit fun L8 hL8 => ?_ | refine awp_region_dr (by decide +kernel) fun L8 hL8 => ?_
    refine aops_orunN 2 _ _ ?_
    simp only [k0, Nat.reduceBEq, reduceIte, Nat.reduceEqDiff, Nat.reduceAdd, Nat.reduceLeDiff, reduceCtorEq, Nat.reduceMul, Int.reduceToNat, lenR, Nat.reduceShiftRight, Nat.reduceMod, Nat.reducePow, Nat.reduceOr, Nat.reduceAnd, tyf, hb6]
    refine aops_nil (hL8 _ ?_)
    simp only [k0, Nat.reduceBEq, reduceIte, Nat.reduceEqDiff, Nat.reduceAdd, Nat.reduceLeDiff, reduceCtorEq, Nat.reduceMul, Int.reduceToNat, lenR, Nat.reduceShiftRight, Nat.reduceMod, Nat.reducePow, Nat.reduceOr, Nat.reduceAnd, tyf, hb6]
    refine hK7 _ ?_
    refine awp_ret ?_
    try simp only [rk_state]
    refine ⟨_, 0, by simp only [k0, Nat.reduceBEq, reduceIte, Nat.reduceEqDiff, Nat.reduceAdd, Nat.reduceLeDiff, reduceCtorEq, Nat.reduceMul, Int.reduceToNat, lenR, Nat.reduceShiftRight, Nat.reduceMod, Nat.reducePow, Nat.reduceOr, Nat.reduceAnd, tyf, resA, Try.results29, hb6]; rfl, ?_, fun l hl => absurd rfl hl⟩
    simp only [packA]
    rw [← join_eq]; simp only [Sm.av]; (repeat' (first | exact .nil | exact wkR_c | exact wkR_own | exact wkR_nils | refine wkR_int ?_ | refine wkR_bool ?_ | refine wkR_sl ?_ | refine wkR_osl ?_ | refine wkR_nsl ?_ | refine wkR_oo ?_ | refine wkR_no ?_ | refine .cons ?_ ?_ | refine wkR_agg ?_ | refine wkR_tup ?_)) <;> simp_all [joined, w64]
  case b6 =>
    have hp6 := hb6
    try simp only [kb] at hp6
    refine awp_skip ?_
    try simp only [rk_state]
    refine hK3 _ ?_
    refine awp_seq_k fun K9 hK9 => ?_
    refine awp_seq_k fun K10 hK10 => ?_
    first | refine awp_region_lit fun L11 hL11 => ?_ | refine awp_region_dr (by decide +kernel) fun L11 hL11 => ?_
    refine aops_orunN 3 _ _ ?_
    simp only [k0, Nat.reduceBEq, reduceIte, Nat.reduceEqDiff, Nat.reduceAdd, Nat.reduceLeDiff, reduceCtorEq, Nat.reduceMul, Int.reduceToNat, lenR, Nat.reduceShiftRight, Nat.reduceMod, Nat.reducePow, Nat.reduceOr, Nat.reduceAnd, tyf, hb6]
    refine aops_nil (hL11 _ ?_)
    simp only [k0, Nat.reduceBEq, reduceIte, Nat.reduceEqDiff, Nat.reduceAdd, Nat.reduceLeDiff, reduceCtorEq, Nat.reduceMul, Int.reduceToNat, lenR, Nat.reduceShiftRight, Nat.reduceMod, Nat.reducePow, Nat.reduceOr, Nat.reduceAnd, tyf, hb6]
    refine hK10 _ ?_
    refine awp_cond (t := ?t12) ?h12 (fun hb12 => ?a12) (fun hb12 => ?b12)
    case h12 => simp only [k0, Nat.reduceBEq, reduceIte, Nat.reduceEqDiff, Nat.reduceAdd, Nat.reduceLeDiff, reduceCtorEq, Nat.reduceMul, Int.reduceToNat, lenR, Nat.reduceShiftRight, Nat.reduceMod, Nat.reducePow, Nat.reduceOr, Nat.reduceAnd, tyf, hb6]; rfl
    case a12 =>
      have hp12 := hb12
      try simp only [kb] at hp12
      first | refine awp_region_lit fun L13 hL13 => ?_ | refine awp_region_dr (by decide +kernel) fun L13 hL13 => ?_
      refine aops_orunN 22 _ _ ?_
      simp only [k0, Nat.reduceBEq, reduceIte, Nat.reduceEqDiff, Nat.reduceAdd, Nat.reduceLeDiff, reduceCtorEq, Nat.reduceMul, Int.reduceToNat, lenR, Nat.reduceShiftRight, Nat.reduceMod, Nat.reducePow, Nat.reduceOr, Nat.reduceAnd, tyf, hb6, hb12]
      refine aops_nil (hL13 _ ?_)
      simp only [k0, Nat.reduceBEq, reduceIte, Nat.reduceEqDiff, Nat.reduceAdd, Nat.reduceLeDiff, reduceCtorEq, Nat.reduceMul, Int.reduceToNat, lenR, Nat.reduceShiftRight, Nat.reduceMod, Nat.reducePow, Nat.reduceOr, Nat.reduceAnd, tyf, hb6, hb12]
      refine hK9 _ ?_
      refine awp_seq_k fun K14 hK14 => ?_
      first | refine awp_region_lit fun L15 hL15 => ?_ | refine awp_region_dr (by decide +kernel) fun L15 hL15 => ?_
      refine aops_orunN 2 _ _ ?_
      simp only [k0, Nat.reduceBEq, reduceIte, Nat.reduceEqDiff, Nat.reduceAdd, Nat.reduceLeDiff, reduceCtorEq, Nat.reduceMul, Int.reduceToNat, lenR, Nat.reduceShiftRight, Nat.reduceMod, Nat.reducePow, Nat.reduceOr, Nat.reduceAnd, tyf, hb6, hb12]
      refine aops_nil (hL15 _ ?_)
      simp only [k0, Nat.reduceBEq, reduceIte, Nat.reduceEqDiff, Nat.reduceAdd, Nat.reduceLeDiff, reduceCtorEq, Nat.reduceMul, Int.reduceToNat, lenR, Nat.reduceShiftRight, Nat.reduceMod, Nat.reducePow, Nat.reduceOr, Nat.reduceAnd, tyf, hb6, hb12]
      refine hK14 _ ?_
      refine awp_ret ?_
      try simp only [rk_state]
      refine ⟨_, 0, by simp only [k0, Nat.reduceBEq, reduceIte, Nat.reduceEqDiff, Nat.reduceAdd, Nat.reduceLeDiff, reduceCtorEq, Nat.reduceMul, Int.reduceToNat, lenR, Nat.reduceShiftRight, Nat.reduceMod, Nat.reducePow, Nat.reduceOr, Nat.reduceAnd, tyf, resA, Try.results29, hb6, hb12]; rfl, ?_, fun l hl => absurd rfl hl⟩
      simp only [packA]
      rw [← join_eq]; simp only [Sm.av]; (repeat' (first | exact .nil | exact wkR_c | exact wkR_own | exact wkR_nils | refine wkR_int ?_ | refine wkR_bool ?_ | refine wkR_sl ?_ | refine wkR_osl ?_ | refine wkR_nsl ?_ | refine wkR_oo ?_ | refine wkR_no ?_ | refine .cons ?_ ?_ | refine wkR_agg ?_ | refine wkR_tup ?_)) <;> simp_all [joined, w64]
    case b12 =>
      have hp12 := hb12
      try simp only [kb] at hp12
      refine awp_skip ?_
      try simp only [rk_state]
      refine hK9 _ ?_
      refine awp_seq_k fun K16 hK16 => ?_
      first | refine awp_region_lit fun L17 hL17 => ?_ | refine awp_region_dr (by decide +kernel) fun L17 hL17 => ?_
      refine aops_orunN 2 _ _ ?_
      simp only [k0, Nat.reduceBEq, reduceIte, Nat.reduceEqDiff, Nat.reduceAdd, Nat.reduceLeDiff, reduceCtorEq, Nat.reduceMul, Int.reduceToNat, lenR, Nat.reduceShiftRight, Nat.reduceMod, Nat.reducePow, Nat.reduceOr, Nat.reduceAnd, tyf, hb6, hb12]
      refine aops_nil (hL17 _ ?_)
      simp only [k0, Nat.reduceBEq, reduceIte, Nat.reduceEqDiff, Nat.reduceAdd, Nat.reduceLeDiff, reduceCtorEq, Nat.reduceMul, Int.reduceToNat, lenR, Nat.reduceShiftRight, Nat.reduceMod, Nat.reducePow, Nat.reduceOr, Nat.reduceAnd, tyf, hb6, hb12]
      refine hK16 _ ?_
      refine awp_ret ?_
      try simp only [rk_state]
      refine ⟨_, 0, by simp only [k0, Nat.reduceBEq, reduceIte, Nat.reduceEqDiff, Nat.reduceAdd, Nat.reduceLeDiff, reduceCtorEq, Nat.reduceMul, Int.reduceToNat, lenR, Nat.reduceShiftRight, Nat.reduceMod, Nat.reducePow, Nat.reduceOr, Nat.reduceAnd, tyf, resA, Try.results29, hb6, hb12]; rfl, ?_, fun l hl => absurd rfl hl⟩
      simp only [packA]
      rw [← join_eq]; simp only [Sm.av]; (repeat' (first | exact .nil | exact wkR_c | exact wkR_own | exact wkR_nils | refine wkR_int ?_ | refine wkR_bool ?_ | refine wkR_sl ?_ | refine wkR_osl ?_ | refine wkR_nsl ?_ | refine wkR_oo ?_ | refine wkR_no ?_ | refine .cons ?_ ?_ | refine wkR_agg ?_ | refine wkR_tup ?_)) <;> simp_all [joined, w64]
set_option maxHeartbeats 4000000 in
theorem of_fun (ps : List Pt) (hn : ps.length < 4611686018427387904) : Fun Try.prog 26 [.c (.sl 34 (ptR ps))] nomem ((sumOf ps).av) nomem := by
  refine fun_of_awp Try.func26 rfl (by decide +kernel) (by decide +kernel) (Nat.le_of_ble_eq_true rfl) (fun _ _ => rfl) ?_
  refine awp_seq_k fun K1 hK1 => ?_
  first | refine awp_region_lit fun L2 hL2 => ?_ | refine awp_region_dr (by decide +kernel) fun L2 hL2 => ?_
  refine aops_orunN 1 _ _ ?_
  simp only [k0, Nat.reduceBEq, reduceIte, Nat.reduceEqDiff, Nat.reduceAdd, Nat.reduceLeDiff, reduceCtorEq, Nat.reduceMul, Int.reduceToNat, lenR, Nat.reduceShiftRight, Nat.reduceMod, Nat.reducePow, Nat.reduceOr, Nat.reduceAnd, tyf]
  refine aops_nil (hL2 _ ?_)
  simp only [k0, Nat.reduceBEq, reduceIte, Nat.reduceEqDiff, Nat.reduceAdd, Nat.reduceLeDiff, reduceCtorEq, Nat.reduceMul, Int.reduceToNat, lenR, Nat.reduceShiftRight, Nat.reduceMod, Nat.reducePow, Nat.reduceOr, Nat.reduceAnd, tyf]
  refine hK1 _ ?_
  refine awp_seq_k fun K3 hK3 => ?_
  first | refine awp_region_lit fun L4 hL4 => ?_ | refine awp_region_dr (by decide +kernel) fun L4 hL4 => ?_
  refine aops_orunN 1 _ _ ?_
  simp only [k0, Nat.reduceBEq, reduceIte, Nat.reduceEqDiff, Nat.reduceAdd, Nat.reduceLeDiff, reduceCtorEq, Nat.reduceMul, Int.reduceToNat, lenR, Nat.reduceShiftRight, Nat.reduceMod, Nat.reducePow, Nat.reduceOr, Nat.reduceAnd, tyf]
  refine aops_nil (hL4 _ ?_)
  simp only [k0, Nat.reduceBEq, reduceIte, Nat.reduceEqDiff, Nat.reduceAdd, Nat.reduceLeDiff, reduceCtorEq, Nat.reduceMul, Int.reduceToNat, lenR, Nat.reduceShiftRight, Nat.reduceMod, Nat.reducePow, Nat.reduceOr, Nat.reduceAnd, tyf]
  refine hK3 _ ?_
  refine awp_seq_k fun K5 hK5 => ?_
  refine awp_seq_k fun K6 hK6 => ?_
  first | refine awp_region_lit fun L7 hL7 => ?_ | refine awp_region_dr (by decide +kernel) fun L7 hL7 => ?_
  refine aops_orunN 3 _ _ ?_
  simp only [k0, Nat.reduceBEq, reduceIte, Nat.reduceEqDiff, Nat.reduceAdd, Nat.reduceLeDiff, reduceCtorEq, Nat.reduceMul, Int.reduceToNat, lenR, Nat.reduceShiftRight, Nat.reduceMod, Nat.reducePow, Nat.reduceOr, Nat.reduceAnd, tyf]
  refine aops_nil (hL7 _ ?_)
  simp only [k0, Nat.reduceBEq, reduceIte, Nat.reduceEqDiff, Nat.reduceAdd, Nat.reduceLeDiff, reduceCtorEq, Nat.reduceMul, Int.reduceToNat, lenR, Nat.reduceShiftRight, Nat.reduceMod, Nat.reducePow, Nat.reduceOr, Nat.reduceAnd, tyf]
  refine hK6 _ ?_
  refine awp_block ?_
  refine awp_loopW (W := [9, 10, 11, 5, 12, 13, 14, 15, 16, 17, 18, 19, 20, 21, 8]) (M := [5]) rfl rfl (fun k s => ∃ (i : Nat), k = ps.length - i ∧ i ≤ ps.length ∧ s.t 8 = .c (.int .i64 (i : Int)) ∧ s.m 2 = [.c (.int .i64 0), .c (.int .i64 0), .c (.int .i64 0), .c (.int .i64 0)] ∧ s.m 3 = [.c (.int .i64 (sumOf (ps.take i)).n), .c (.int .i64 (sumOf (ps.take i)).mn), .c (.int .i64 (sumOf (ps.take i)).mx), .c (.int .i64 (sumOf (ps.take i)).tot)] ∧ s.m 5 = []) ((fun (i : Nat) => ps.length - i) (0)) ?i8 ?r8
  case i8 =>
    refine ⟨0, rfl, ?_, ?_, ?_, ?_, ?_⟩
    · omega
    · simp only [k0, Nat.reduceBEq, reduceIte, Nat.reduceEqDiff, Nat.reduceAdd, Nat.reduceLeDiff, reduceCtorEq, Nat.reduceMul, Int.reduceToNat, lenR, Nat.reduceShiftRight, Nat.reduceMod, Nat.reducePow, Nat.reduceOr, Nat.reduceAnd, tyf, k0]; rfl
    · simp only [k0, Nat.reduceBEq, reduceIte, Nat.reduceEqDiff, Nat.reduceAdd, Nat.reduceLeDiff, reduceCtorEq, Nat.reduceMul, Int.reduceToNat, lenR, Nat.reduceShiftRight, Nat.reduceMod, Nat.reducePow, Nat.reduceOr, Nat.reduceAnd, tyf, k0]
    · simp only [k0, Nat.reduceBEq, reduceIte, Nat.reduceEqDiff, Nat.reduceAdd, Nat.reduceLeDiff, reduceCtorEq, Nat.reduceMul, Int.reduceToNat, lenR, Nat.reduceShiftRight, Nat.reduceMod, Nat.reducePow, Nat.reduceOr, Nat.reduceAnd, tyf, k0]; rfl
    · simp only [k0, Nat.reduceBEq, reduceIte, Nat.reduceEqDiff, Nat.reduceAdd, Nat.reduceLeDiff, reduceCtorEq, Nat.reduceMul, Int.reduceToNat, lenR, Nat.reduceShiftRight, Nat.reduceMod, Nat.reducePow, Nat.reduceOr, Nat.reduceAnd, tyf, k0]
  case r8 =>
    rintro k s hf ⟨i, rfl, hq8_0, s8t8, s8m2, s8m3, s8z5⟩ K8 hK8
    have s8f2 := hf 2 rfl
    simp only [k0, Nat.reduceBEq, reduceIte, Nat.reduceEqDiff, Nat.reduceAdd, Nat.reduceLeDiff, reduceCtorEq, Nat.reduceMul, Int.reduceToNat, lenR, Nat.reduceShiftRight, Nat.reduceMod, Nat.reducePow, Nat.reduceOr, Nat.reduceAnd, tyf, k0] at s8f2
    have s8f3 := hf 3 rfl
    simp only [k0, Nat.reduceBEq, reduceIte, Nat.reduceEqDiff, Nat.reduceAdd, Nat.reduceLeDiff, reduceCtorEq, Nat.reduceMul, Int.reduceToNat, lenR, Nat.reduceShiftRight, Nat.reduceMod, Nat.reducePow, Nat.reduceOr, Nat.reduceAnd, tyf, k0] at s8f3
    have s8f6 := hf 6 rfl
    simp only [k0, Nat.reduceBEq, reduceIte, Nat.reduceEqDiff, Nat.reduceAdd, Nat.reduceLeDiff, reduceCtorEq, Nat.reduceMul, Int.reduceToNat, lenR, Nat.reduceShiftRight, Nat.reduceMod, Nat.reducePow, Nat.reduceOr, Nat.reduceAnd, tyf, k0] at s8f6
    have s8f7 := hf 7 rfl
    simp only [k0, Nat.reduceBEq, reduceIte, Nat.reduceEqDiff, Nat.reduceAdd, Nat.reduceLeDiff, reduceCtorEq, Nat.reduceMul, Int.reduceToNat, lenR, Nat.reduceShiftRight, Nat.reduceMod, Nat.reducePow, Nat.reduceOr, Nat.reduceAnd, tyf, k0] at s8f7
    clear hf
    refine awp_seq_k fun K9 hK9 => ?_
    first | refine awp_region_lit fun L10 hL10 => ?_ | refine awp_region_dr (by decide +kernel) fun L10 hL10 => ?_
    refine aops_orunN 1 _ _ ?_
    simp only [k0, Nat.reduceBEq, reduceIte, Nat.reduceEqDiff, Nat.reduceAdd, Nat.reduceLeDiff, reduceCtorEq, Nat.reduceMul, Int.reduceToNat, lenR, Nat.reduceShiftRight, Nat.reduceMod, Nat.reducePow, Nat.reduceOr, Nat.reduceAnd, tyf, s8t8, s8m2, s8m3, s8z5, s8f2, s8f3, s8f6, s8f7]
    refine aops_nil (hL10 _ ?_)
    simp only [k0, Nat.reduceBEq, reduceIte, Nat.reduceEqDiff, Nat.reduceAdd, Nat.reduceLeDiff, reduceCtorEq, Nat.reduceMul, Int.reduceToNat, lenR, Nat.reduceShiftRight, Nat.reduceMod, Nat.reducePow, Nat.reduceOr, Nat.reduceAnd, tyf, s8t8, s8m2, s8m3, s8z5, s8f2, s8f3, s8f6, s8f7]
    refine hK9 _ ?_
    refine awp_seq_k fun K11 hK11 => ?_
    refine awp_cond (t := ?t12) ?h12 (fun hb12 => ?a12) (fun hb12 => ?b12)
    case h12 => simp only [k0, Nat.reduceBEq, reduceIte, Nat.reduceEqDiff, Nat.reduceAdd, Nat.reduceLeDiff, reduceCtorEq, Nat.reduceMul, Int.reduceToNat, lenR, Nat.reduceShiftRight, Nat.reduceMod, Nat.reducePow, Nat.reduceOr, Nat.reduceAnd, tyf, s8t8, s8m2, s8m3, s8z5, s8f2, s8f3, s8f6, s8f7]; rfl
    case a12 =>
      have hp12 := hb12
      try simp only [kb] at hp12
      refine awp_skip ?_
      try simp only [rk_state]
      refine hK11 _ ?_
      refine awp_seq_k fun K13 hK13 => ?_
      refine awp_block ?_
      refine awp_seq_k fun K14 hK14 => ?_
      have s0 : (0:Int) ≤ (i:Int) := Int.natCast_nonneg i
      have s1 : (i:Int) < (ps.length : Int) := by assumption
      have hlt : i < ps.length := by omega
      have s2 := ptR_get hlt
      first | refine awp_region_lit fun L15 hL15 => ?_ | refine awp_region_dr (by decide +kernel) fun L15 hL15 => ?_
      refine aops_orunN 4 _ _ ?_
      simp only [k0, Nat.reduceBEq, reduceIte, Nat.reduceEqDiff, Nat.reduceAdd, Nat.reduceLeDiff, reduceCtorEq, Nat.reduceMul, Int.reduceToNat, lenR, Nat.reduceShiftRight, Nat.reduceMod, Nat.reducePow, Nat.reduceOr, Nat.reduceAnd, tyf, s8t8, s8m2, s8m3, s8z5, s8f2, s8f3, s8f6, s8f7, hb12, s0, s1, s2]
      refine aops_nil (hL15 _ ?_)
      simp only [k0, Nat.reduceBEq, reduceIte, Nat.reduceEqDiff, Nat.reduceAdd, Nat.reduceLeDiff, reduceCtorEq, Nat.reduceMul, Int.reduceToNat, lenR, Nat.reduceShiftRight, Nat.reduceMod, Nat.reducePow, Nat.reduceOr, Nat.reduceAnd, tyf, s8t8, s8m2, s8m3, s8z5, s8f2, s8f3, s8f6, s8f7, hb12, s0, s1, s2]
      refine hK14 _ ?_
      first | refine awp_region_lit fun L16 hL16 => ?_ | refine awp_region_dr (by decide +kernel) fun L16 hL16 => ?_
      refine aops_orunN 8 _ _ ?_
      simp only [k0, Nat.reduceBEq, reduceIte, Nat.reduceEqDiff, Nat.reduceAdd, Nat.reduceLeDiff, reduceCtorEq, Nat.reduceMul, Int.reduceToNat, lenR, Nat.reduceShiftRight, Nat.reduceMod, Nat.reducePow, Nat.reduceOr, Nat.reduceAnd, tyf, s8t8, s8m2, s8m3, s8z5, s8f2, s8f3, s8f6, s8f7, hb12, s0, s1, s2]
      refine aops_call (join_fun _ _ _ _ _ _ _ _) rfl rfl rfl rfl (by (try simp only [k0, Nat.reduceBEq, reduceIte, Nat.reduceEqDiff, Nat.reduceAdd, Nat.reduceLeDiff, reduceCtorEq, Nat.reduceMul, Int.reduceToNat, lenR, Nat.reduceShiftRight, Nat.reduceMod, Nat.reducePow, Nat.reduceOr, Nat.reduceAnd, tyf, s8t8, s8m2, s8m3, s8z5, s8f2, s8f3, s8f6, s8f7, hb12, s0, s1, s2]); (repeat' (first | exact .nil | exact wk_c | exact wk_ownc | exact wk_nilsc | exact wk_nils | exact wk_fn | refine .cons ?_ ?_ | refine wk_agg ?_ | refine wk_fnL ?_))) rfl rfl ?_
      simp only [k0, Nat.reduceBEq, reduceIte, Nat.reduceEqDiff, Nat.reduceAdd, Nat.reduceLeDiff, reduceCtorEq, Nat.reduceMul, Int.reduceToNat, lenR, Nat.reduceShiftRight, Nat.reduceMod, Nat.reducePow, Nat.reduceOr, Nat.reduceAnd, tyf, Sm.av, s8t8, s8m2, s8m3, s8z5, s8f2, s8f3, s8f6, s8f7, hb12, s0, s1, s2]
      refine aops_orunN 1 _ _ ?_
      simp only [k0, Nat.reduceBEq, reduceIte, Nat.reduceEqDiff, Nat.reduceAdd, Nat.reduceLeDiff, reduceCtorEq, Nat.reduceMul, Int.reduceToNat, lenR, Nat.reduceShiftRight, Nat.reduceMod, Nat.reducePow, Nat.reduceOr, Nat.reduceAnd, tyf, s8t8, s8m2, s8m3, s8z5, s8f2, s8f3, s8f6, s8f7, hb12, s0, s1, s2]
      refine aops_nil (hL16 _ ?_)
      simp only [k0, Nat.reduceBEq, reduceIte, Nat.reduceEqDiff, Nat.reduceAdd, Nat.reduceLeDiff, reduceCtorEq, Nat.reduceMul, Int.reduceToNat, lenR, Nat.reduceShiftRight, Nat.reduceMod, Nat.reducePow, Nat.reduceOr, Nat.reduceAnd, tyf, s8t8, s8m2, s8m3, s8z5, s8f2, s8f3, s8f6, s8f7, hb12, s0, s1, s2]
      try simp only [rk_state]
      refine hK13 _ ?_
      first | refine awp_region_lit fun L18 hL18 => ?_ | refine awp_region_dr (by decide +kernel) fun L18 hL18 => ?_
      refine aops_orunN 2 _ _ ?_
      simp only [k0, Nat.reduceBEq, reduceIte, Nat.reduceEqDiff, Nat.reduceAdd, Nat.reduceLeDiff, reduceCtorEq, Nat.reduceMul, Int.reduceToNat, lenR, Nat.reduceShiftRight, Nat.reduceMod, Nat.reducePow, Nat.reduceOr, Nat.reduceAnd, tyf, s8t8, s8m2, s8m3, s8z5, s8f2, s8f3, s8f6, s8f7, hb12, s0, s1, s2]
      refine aops_nil (hL18 _ ?_)
      simp only [k0, Nat.reduceBEq, reduceIte, Nat.reduceEqDiff, Nat.reduceAdd, Nat.reduceLeDiff, reduceCtorEq, Nat.reduceMul, Int.reduceToNat, lenR, Nat.reduceShiftRight, Nat.reduceMod, Nat.reducePow, Nat.reduceOr, Nat.reduceAnd, tyf, s8t8, s8m2, s8m3, s8z5, s8f2, s8f3, s8f6, s8f7, hb12, s0, s1, s2]
      have sn := sumOf_next hlt
      have sw : IntKind.wrap .i64 ((i:Int) + 1) = ((i + 1 : Nat) : Int) := by rw [w64_id] <;> push_cast <;> omega
      refine hK8 _ ((fun (i : Nat) => ps.length - i) (i + 1)) ?_ ⟨i + 1, rfl, ?_, ?_, ?_, ?_, ?_⟩
      · (try simp only []); omega
      · omega
      · simp only [k0, Nat.reduceBEq, reduceIte, Nat.reduceEqDiff, Nat.reduceAdd, Nat.reduceLeDiff, reduceCtorEq, Nat.reduceMul, Int.reduceToNat, lenR, Nat.reduceShiftRight, Nat.reduceMod, Nat.reducePow, Nat.reduceOr, Nat.reduceAnd, tyf, s8t8, s8m2, s8m3, s8z5, s8f2, s8f3, s8f6, s8f7, hb12, s0, s1, s2, sn, sw, k0]
      · simp only [k0, Nat.reduceBEq, reduceIte, Nat.reduceEqDiff, Nat.reduceAdd, Nat.reduceLeDiff, reduceCtorEq, Nat.reduceMul, Int.reduceToNat, lenR, Nat.reduceShiftRight, Nat.reduceMod, Nat.reducePow, Nat.reduceOr, Nat.reduceAnd, tyf, s8t8, s8m2, s8m3, s8z5, s8f2, s8f3, s8f6, s8f7, hb12, s0, s1, s2, sn, sw, k0]
      · simp only [k0, Nat.reduceBEq, reduceIte, Nat.reduceEqDiff, Nat.reduceAdd, Nat.reduceLeDiff, reduceCtorEq, Nat.reduceMul, Int.reduceToNat, lenR, Nat.reduceShiftRight, Nat.reduceMod, Nat.reducePow, Nat.reduceOr, Nat.reduceAnd, tyf, s8t8, s8m2, s8m3, s8z5, s8f2, s8f3, s8f6, s8f7, hb12, s0, s1, s2, sn, sw, k0]
      · simp only [k0, Nat.reduceBEq, reduceIte, Nat.reduceEqDiff, Nat.reduceAdd, Nat.reduceLeDiff, reduceCtorEq, Nat.reduceMul, Int.reduceToNat, lenR, Nat.reduceShiftRight, Nat.reduceMod, Nat.reducePow, Nat.reduceOr, Nat.reduceAnd, tyf, s8t8, s8m2, s8m3, s8z5, s8f2, s8f3, s8f6, s8f7, hb12, s0, s1, s2, sn, sw, k0]
    case b12 =>
      have hp12 := hb12
      try simp only [kb] at hp12
      refine awp_exit ?_
      simp only [rk_state, reduceIte, Nat.reduceEqDiff]
      refine hK5 _ ?_
      refine awp_seq_k fun K19 hK19 => ?_
      first | refine awp_region_lit fun L20 hL20 => ?_ | refine awp_region_dr (by decide +kernel) fun L20 hL20 => ?_
      refine aops_orunN 2 _ _ ?_
      simp only [k0, Nat.reduceBEq, reduceIte, Nat.reduceEqDiff, Nat.reduceAdd, Nat.reduceLeDiff, reduceCtorEq, Nat.reduceMul, Int.reduceToNat, lenR, Nat.reduceShiftRight, Nat.reduceMod, Nat.reducePow, Nat.reduceOr, Nat.reduceAnd, tyf, s8t8, s8m2, s8m3, s8z5, s8f2, s8f3, s8f6, s8f7, hb12]
      refine aops_nil (hL20 _ ?_)
      simp only [k0, Nat.reduceBEq, reduceIte, Nat.reduceEqDiff, Nat.reduceAdd, Nat.reduceLeDiff, reduceCtorEq, Nat.reduceMul, Int.reduceToNat, lenR, Nat.reduceShiftRight, Nat.reduceMod, Nat.reducePow, Nat.reduceOr, Nat.reduceAnd, tyf, s8t8, s8m2, s8m3, s8z5, s8f2, s8f3, s8f6, s8f7, hb12]
      refine hK19 _ ?_
      refine awp_ret ?_
      try simp only [rk_state]
      refine ⟨_, 0, by simp only [k0, Nat.reduceBEq, reduceIte, Nat.reduceEqDiff, Nat.reduceAdd, Nat.reduceLeDiff, reduceCtorEq, Nat.reduceMul, Int.reduceToNat, lenR, Nat.reduceShiftRight, Nat.reduceMod, Nat.reducePow, Nat.reduceOr, Nat.reduceAnd, tyf, resA, Try.results26, s8t8, s8m2, s8m3, s8z5, s8f2, s8f3, s8f6, s8f7, hb12]; rfl, ?_, fun l hl => absurd rfl hl⟩
      simp only [packA]
      have e : ps.take i = ps := List.take_of_length_le (by omega); simp only [Sm.av, e]; (repeat' (first | exact .nil | exact wkR_c | exact wkR_own | exact wkR_nils | refine wkR_int ?_ | refine wkR_bool ?_ | refine wkR_sl ?_ | refine wkR_osl ?_ | refine wkR_nsl ?_ | refine wkR_oo ?_ | refine wkR_no ?_ | refine .cons ?_ ?_ | refine wkR_agg ?_ | refine wkR_tup ?_))
set_option maxHeartbeats 4000000 in
theorem refof_fun (ps : List Pt) (hn : ps.length < 4611686018427387904) (hk : ∀ p ∈ ps, inR64 p.v) : Fun Try.prog 27 [.c (.sl 34 (ptR ps))] nomem ((sumOf ps).av) nomem := by
  refine fun_of_awp Try.func27 rfl (by decide +kernel) (by decide +kernel) (Nat.le_of_ble_eq_true rfl) (fun _ _ => rfl) ?_
  refine awp_seq_k fun K1 hK1 => ?_
  first | refine awp_region_lit fun L2 hL2 => ?_ | refine awp_region_dr (by decide +kernel) fun L2 hL2 => ?_
  refine aops_orunN 1 _ _ ?_
  simp only [k0, Nat.reduceBEq, reduceIte, Nat.reduceEqDiff, Nat.reduceAdd, Nat.reduceLeDiff, reduceCtorEq, Nat.reduceMul, Int.reduceToNat, lenR, Nat.reduceShiftRight, Nat.reduceMod, Nat.reducePow, Nat.reduceOr, Nat.reduceAnd, tyf]
  refine aops_nil (hL2 _ ?_)
  simp only [k0, Nat.reduceBEq, reduceIte, Nat.reduceEqDiff, Nat.reduceAdd, Nat.reduceLeDiff, reduceCtorEq, Nat.reduceMul, Int.reduceToNat, lenR, Nat.reduceShiftRight, Nat.reduceMod, Nat.reducePow, Nat.reduceOr, Nat.reduceAnd, tyf]
  refine hK1 _ ?_
  refine awp_seq_k fun K3 hK3 => ?_
  refine awp_seq_k fun K4 hK4 => ?_
  first | refine awp_region_lit fun L5 hL5 => ?_ | refine awp_region_dr (by decide +kernel) fun L5 hL5 => ?_
  refine aops_orunN 3 _ _ ?_
  simp only [k0, Nat.reduceBEq, reduceIte, Nat.reduceEqDiff, Nat.reduceAdd, Nat.reduceLeDiff, reduceCtorEq, Nat.reduceMul, Int.reduceToNat, lenR, Nat.reduceShiftRight, Nat.reduceMod, Nat.reducePow, Nat.reduceOr, Nat.reduceAnd, tyf]
  refine aops_nil (hL5 _ ?_)
  simp only [k0, Nat.reduceBEq, reduceIte, Nat.reduceEqDiff, Nat.reduceAdd, Nat.reduceLeDiff, reduceCtorEq, Nat.reduceMul, Int.reduceToNat, lenR, Nat.reduceShiftRight, Nat.reduceMod, Nat.reducePow, Nat.reduceOr, Nat.reduceAnd, tyf]
  refine hK4 _ ?_
  refine awp_cond (t := ?t6) ?h6 (fun hb6 => ?a6) (fun hb6 => ?b6)
  case h6 => simp only [k0, Nat.reduceBEq, reduceIte, Nat.reduceEqDiff, Nat.reduceAdd, Nat.reduceLeDiff, reduceCtorEq, Nat.reduceMul, Int.reduceToNat, lenR, Nat.reduceShiftRight, Nat.reduceMod, Nat.reducePow, Nat.reduceOr, Nat.reduceAnd, tyf]; rfl
  case a6 =>
    have hp6 := hb6
    try simp only [kb] at hp6
    refine awp_seq_k fun K7 hK7 => ?_
    first | refine awp_region_lit fun L8 hL8 => ?_ | refine awp_region_dr (by decide +kernel) fun L8 hL8 => ?_
    refine aops_orunN 2 _ _ ?_
    simp only [k0, Nat.reduceBEq, reduceIte, Nat.reduceEqDiff, Nat.reduceAdd, Nat.reduceLeDiff, reduceCtorEq, Nat.reduceMul, Int.reduceToNat, lenR, Nat.reduceShiftRight, Nat.reduceMod, Nat.reducePow, Nat.reduceOr, Nat.reduceAnd, tyf, hb6]
    refine aops_nil (hL8 _ ?_)
    simp only [k0, Nat.reduceBEq, reduceIte, Nat.reduceEqDiff, Nat.reduceAdd, Nat.reduceLeDiff, reduceCtorEq, Nat.reduceMul, Int.reduceToNat, lenR, Nat.reduceShiftRight, Nat.reduceMod, Nat.reducePow, Nat.reduceOr, Nat.reduceAnd, tyf, hb6]
    refine hK7 _ ?_
    refine awp_ret ?_
    try simp only [rk_state]
    refine ⟨_, 0, by simp only [k0, Nat.reduceBEq, reduceIte, Nat.reduceEqDiff, Nat.reduceAdd, Nat.reduceLeDiff, reduceCtorEq, Nat.reduceMul, Int.reduceToNat, lenR, Nat.reduceShiftRight, Nat.reduceMod, Nat.reducePow, Nat.reduceOr, Nat.reduceAnd, tyf, resA, Try.results27, hb6]; rfl, ?_, fun l hl => absurd rfl hl⟩
    simp only [packA]
    first | (have e : ps = [] := by (apply List.eq_nil_of_length_eq_zero; omega)); subst e; simp only [Sm.av]; (repeat' (first | exact .nil | exact wkR_c | exact wkR_own | exact wkR_nils | refine wkR_int ?_ | refine wkR_bool ?_ | refine wkR_sl ?_ | refine wkR_osl ?_ | refine wkR_nsl ?_ | refine wkR_oo ?_ | refine wkR_no ?_ | refine .cons ?_ ?_ | refine wkR_agg ?_ | refine wkR_tup ?_)); all_goals rfl | (have e : i = ps.length := by omega); subst e; rw [sumRef_eq ps hn hk (by omega)]; simp only [Sm.av]; (repeat' (first | exact .nil | exact wkR_c | exact wkR_own | exact wkR_nils | refine wkR_int ?_ | refine wkR_bool ?_ | refine wkR_sl ?_ | refine wkR_osl ?_ | refine wkR_nsl ?_ | refine wkR_oo ?_ | refine wkR_no ?_ | refine .cons ?_ ?_ | refine wkR_agg ?_ | refine wkR_tup ?_))
  case b6 =>
    have hp6 := hb6
    try simp only [kb] at hp6
    refine awp_skip ?_
    try simp only [rk_state]
    refine hK3 _ ?_
    refine awp_seq_k fun K9 hK9 => ?_
    have s0 : (0:Int) ≤ 0 := Int.le_refl 0
    have hne : ps.length ≠ 0 := by omega
    have s1 : (0:Int) < (ps.length : Int) := by omega
    have s2 := ptR_get (l := ps) (i := 0) (by omega)
    first | refine awp_region_lit fun L10 hL10 => ?_ | refine awp_region_dr (by decide +kernel) fun L10 hL10 => ?_
    refine aops_orunN 13 _ _ ?_
    simp only [k0, Nat.reduceBEq, reduceIte, Nat.reduceEqDiff, Nat.reduceAdd, Nat.reduceLeDiff, reduceCtorEq, Nat.reduceMul, Int.reduceToNat, lenR, Nat.reduceShiftRight, Nat.reduceMod, Nat.reducePow, Nat.reduceOr, Nat.reduceAnd, tyf, hb6, s0, s1, s2]
    refine aops_nil (hL10 _ ?_)
    simp only [k0, Nat.reduceBEq, reduceIte, Nat.reduceEqDiff, Nat.reduceAdd, Nat.reduceLeDiff, reduceCtorEq, Nat.reduceMul, Int.reduceToNat, lenR, Nat.reduceShiftRight, Nat.reduceMod, Nat.reducePow, Nat.reduceOr, Nat.reduceAnd, tyf, hb6, s0, s1, s2]
    refine hK9 _ ?_
    refine awp_seq_k fun K11 hK11 => ?_
    refine awp_seq_k fun K12 hK12 => ?_
    first | refine awp_region_lit fun L13 hL13 => ?_ | refine awp_region_dr (by decide +kernel) fun L13 hL13 => ?_
    refine aops_orunN 3 _ _ ?_
    simp only [k0, Nat.reduceBEq, reduceIte, Nat.reduceEqDiff, Nat.reduceAdd, Nat.reduceLeDiff, reduceCtorEq, Nat.reduceMul, Int.reduceToNat, lenR, Nat.reduceShiftRight, Nat.reduceMod, Nat.reducePow, Nat.reduceOr, Nat.reduceAnd, tyf, hb6, s0, s1, s2]
    refine aops_nil (hL13 _ ?_)
    simp only [k0, Nat.reduceBEq, reduceIte, Nat.reduceEqDiff, Nat.reduceAdd, Nat.reduceLeDiff, reduceCtorEq, Nat.reduceMul, Int.reduceToNat, lenR, Nat.reduceShiftRight, Nat.reduceMod, Nat.reducePow, Nat.reduceOr, Nat.reduceAnd, tyf, hb6, s0, s1, s2]
    refine hK12 _ ?_
    refine awp_block ?_
    refine awp_loopW (W := [24, 25, 26, 5, 27, 28, 29, 30, 31, 32, 33, 34, 35, 36, 37, 38, 39, 40, 41, 42, 43, 44, 45, 23]) (M := [5]) rfl rfl (fun k s => ∃ (i : Nat), k = ps.length - i ∧ i ≤ ps.length ∧ s.t 23 = .c (.int .i64 (i : Int)) ∧ s.m 2 = [.c (.int .i64 0), .c (.int .i64 0), .c (.int .i64 0), .c (.int .i64 0)] ∧ s.m 3 = [.c (.int .i64 (sumRefAt ps i).n), .c (.int .i64 (sumRefAt ps i).mn), .c (.int .i64 (sumRefAt ps i).mx), .c (.int .i64 (sumRefAt ps i).tot)] ∧ s.m 5 = []) ((fun (i : Nat) => ps.length - i) (0)) ?i14 ?r14
    case i14 =>
      refine ⟨0, rfl, ?_, ?_, ?_, ?_, ?_⟩
      · omega
      · simp only [k0, Nat.reduceBEq, reduceIte, Nat.reduceEqDiff, Nat.reduceAdd, Nat.reduceLeDiff, reduceCtorEq, Nat.reduceMul, Int.reduceToNat, lenR, Nat.reduceShiftRight, Nat.reduceMod, Nat.reducePow, Nat.reduceOr, Nat.reduceAnd, tyf, hb6, s0, s1, s2, k0]; rfl
      · simp only [k0, Nat.reduceBEq, reduceIte, Nat.reduceEqDiff, Nat.reduceAdd, Nat.reduceLeDiff, reduceCtorEq, Nat.reduceMul, Int.reduceToNat, lenR, Nat.reduceShiftRight, Nat.reduceMod, Nat.reducePow, Nat.reduceOr, Nat.reduceAnd, tyf, hb6, s0, s1, s2, k0]
      · simp only [k0, Nat.reduceBEq, reduceIte, Nat.reduceEqDiff, Nat.reduceAdd, Nat.reduceLeDiff, reduceCtorEq, Nat.reduceMul, Int.reduceToNat, lenR, Nat.reduceShiftRight, Nat.reduceMod, Nat.reducePow, Nat.reduceOr, Nat.reduceAnd, tyf, hb6, s0, s1, s2, k0]; rfl
      · simp only [k0, Nat.reduceBEq, reduceIte, Nat.reduceEqDiff, Nat.reduceAdd, Nat.reduceLeDiff, reduceCtorEq, Nat.reduceMul, Int.reduceToNat, lenR, Nat.reduceShiftRight, Nat.reduceMod, Nat.reducePow, Nat.reduceOr, Nat.reduceAnd, tyf, hb6, s0, s1, s2, k0]
    case r14 =>
      rintro k s hf ⟨i, rfl, hq14_0, s14t23, s14m2, s14m3, s14z5⟩ K14 hK14
      have s14f2 := hf 2 rfl
      simp only [k0, Nat.reduceBEq, reduceIte, Nat.reduceEqDiff, Nat.reduceAdd, Nat.reduceLeDiff, reduceCtorEq, Nat.reduceMul, Int.reduceToNat, lenR, Nat.reduceShiftRight, Nat.reduceMod, Nat.reducePow, Nat.reduceOr, Nat.reduceAnd, tyf, hb6, s0, s1, s2, k0] at s14f2
      have s14f3 := hf 3 rfl
      simp only [k0, Nat.reduceBEq, reduceIte, Nat.reduceEqDiff, Nat.reduceAdd, Nat.reduceLeDiff, reduceCtorEq, Nat.reduceMul, Int.reduceToNat, lenR, Nat.reduceShiftRight, Nat.reduceMod, Nat.reducePow, Nat.reduceOr, Nat.reduceAnd, tyf, hb6, s0, s1, s2, k0] at s14f3
      have s14f21 := hf 21 rfl
      simp only [k0, Nat.reduceBEq, reduceIte, Nat.reduceEqDiff, Nat.reduceAdd, Nat.reduceLeDiff, reduceCtorEq, Nat.reduceMul, Int.reduceToNat, lenR, Nat.reduceShiftRight, Nat.reduceMod, Nat.reducePow, Nat.reduceOr, Nat.reduceAnd, tyf, hb6, s0, s1, s2, k0] at s14f21
      have s14f22 := hf 22 rfl
      simp only [k0, Nat.reduceBEq, reduceIte, Nat.reduceEqDiff, Nat.reduceAdd, Nat.reduceLeDiff, reduceCtorEq, Nat.reduceMul, Int.reduceToNat, lenR, Nat.reduceShiftRight, Nat.reduceMod, Nat.reducePow, Nat.reduceOr, Nat.reduceAnd, tyf, hb6, s0, s1, s2, k0] at s14f22
      clear hf
      refine awp_seq_k fun K15 hK15 => ?_
      first | refine awp_region_lit fun L16 hL16 => ?_ | refine awp_region_dr (by decide +kernel) fun L16 hL16 => ?_
      refine aops_orunN 1 _ _ ?_
      simp only [k0, Nat.reduceBEq, reduceIte, Nat.reduceEqDiff, Nat.reduceAdd, Nat.reduceLeDiff, reduceCtorEq, Nat.reduceMul, Int.reduceToNat, lenR, Nat.reduceShiftRight, Nat.reduceMod, Nat.reducePow, Nat.reduceOr, Nat.reduceAnd, tyf, hb6, s0, s1, s2, s14t23, s14m2, s14m3, s14z5, s14f2, s14f3, s14f21, s14f22]
      refine aops_nil (hL16 _ ?_)
      simp only [k0, Nat.reduceBEq, reduceIte, Nat.reduceEqDiff, Nat.reduceAdd, Nat.reduceLeDiff, reduceCtorEq, Nat.reduceMul, Int.reduceToNat, lenR, Nat.reduceShiftRight, Nat.reduceMod, Nat.reducePow, Nat.reduceOr, Nat.reduceAnd, tyf, hb6, s0, s1, s2, s14t23, s14m2, s14m3, s14z5, s14f2, s14f3, s14f21, s14f22]
      refine hK15 _ ?_
      refine awp_seq_k fun K17 hK17 => ?_
      refine awp_cond (t := ?t18) ?h18 (fun hb18 => ?a18) (fun hb18 => ?b18)
      case h18 => simp only [k0, Nat.reduceBEq, reduceIte, Nat.reduceEqDiff, Nat.reduceAdd, Nat.reduceLeDiff, reduceCtorEq, Nat.reduceMul, Int.reduceToNat, lenR, Nat.reduceShiftRight, Nat.reduceMod, Nat.reducePow, Nat.reduceOr, Nat.reduceAnd, tyf, hb6, s0, s1, s2, s14t23, s14m2, s14m3, s14z5, s14f2, s14f3, s14f21, s14f22]; rfl
      case a18 =>
        have hp18 := hb18
        try simp only [kb] at hp18
        refine awp_skip ?_
        try simp only [rk_state]
        refine hK17 _ ?_
        refine awp_seq_k fun K19 hK19 => ?_
        refine awp_block ?_
        refine awp_seq_k fun K20 hK20 => ?_
        have s60 : (0:Int) ≤ (i:Int) := Int.natCast_nonneg i
        have s61 : (i:Int) < (ps.length : Int) := by assumption
        have hlt : i < ps.length := by omega
        have s62 := ptR_get hlt
        first | refine awp_region_lit fun L21 hL21 => ?_ | refine awp_region_dr (by decide +kernel) fun L21 hL21 => ?_
        refine aops_orunN 4 _ _ ?_
        simp only [k0, Nat.reduceBEq, reduceIte, Nat.reduceEqDiff, Nat.reduceAdd, Nat.reduceLeDiff, reduceCtorEq, Nat.reduceMul, Int.reduceToNat, lenR, Nat.reduceShiftRight, Nat.reduceMod, Nat.reducePow, Nat.reduceOr, Nat.reduceAnd, tyf, hb6, s0, s1, s2, s14t23, s14m2, s14m3, s14z5, s14f2, s14f3, s14f21, s14f22, hb18, s60, s61, s62]
        refine aops_nil (hL21 _ ?_)
        simp only [k0, Nat.reduceBEq, reduceIte, Nat.reduceEqDiff, Nat.reduceAdd, Nat.reduceLeDiff, reduceCtorEq, Nat.reduceMul, Int.reduceToNat, lenR, Nat.reduceShiftRight, Nat.reduceMod, Nat.reducePow, Nat.reduceOr, Nat.reduceAnd, tyf, hb6, s0, s1, s2, s14t23, s14m2, s14m3, s14z5, s14f2, s14f3, s14f21, s14f22, hb18, s60, s61, s62]
        refine hK20 _ ?_
        refine awp_region_drk [(3, some 3), (5, some 5), (27, some 3), (29, some 5), (32, some 3), (34, some 5), (37, some 3), (39, some 5), (42, some 3), (43, some 3), (44, some 3)] [27, 29, 32, 34, 37, 39, 42, 43, 44] (by decide +kernel) (by decide +kernel) (by simp only [k0, Nat.reduceBEq, reduceIte, Nat.reduceEqDiff, Nat.reduceAdd, Nat.reduceLeDiff, reduceCtorEq, Nat.reduceMul, Int.reduceToNat, lenR, Nat.reduceShiftRight, Nat.reduceMod, Nat.reducePow, Nat.reduceOr, Nat.reduceAnd, tyf, hb6, s0, s1, s2, s14t23, s14m2, s14m3, s14z5, s14f2, s14f3, s14f21, s14f22, hb18, s60, s61, s62, k0, List.all_cons, List.all_nil, forget, AV.tb]) fun L22 hL22 => ?_
        skip
        refine aops_orunN 21 _ _ ?_
        simp only [k0, Nat.reduceBEq, reduceIte, Nat.reduceEqDiff, Nat.reduceAdd, Nat.reduceLeDiff, reduceCtorEq, Nat.reduceMul, Int.reduceToNat, lenR, Nat.reduceShiftRight, Nat.reduceMod, Nat.reducePow, Nat.reduceOr, Nat.reduceAnd, tyf, hb6, s0, s1, s2, s14t23, s14m2, s14m3, s14z5, s14f2, s14f3, s14f21, s14f22, hb18, s60, s61, s62]
        refine aops_nil (hL22 _ ?_)
        simp only [k0, Nat.reduceBEq, reduceIte, Nat.reduceEqDiff, Nat.reduceAdd, Nat.reduceLeDiff, reduceCtorEq, Nat.reduceMul, Int.reduceToNat, lenR, Nat.reduceShiftRight, Nat.reduceMod, Nat.reducePow, Nat.reduceOr, Nat.reduceAnd, tyf, hb6, s0, s1, s2, s14t23, s14m2, s14m3, s14z5, s14f2, s14f3, s14f21, s14f22, hb18, s60, s61, s62]
        try simp only [rk_state]
        refine hK19 _ ?_
        first | refine awp_region_lit fun L23 hL23 => ?_ | refine awp_region_dr (by decide +kernel) fun L23 hL23 => ?_
        refine aops_orunN 2 _ _ ?_
        simp only [k0, Nat.reduceBEq, reduceIte, Nat.reduceEqDiff, Nat.reduceAdd, Nat.reduceLeDiff, reduceCtorEq, Nat.reduceMul, Int.reduceToNat, lenR, Nat.reduceShiftRight, Nat.reduceMod, Nat.reducePow, Nat.reduceOr, Nat.reduceAnd, tyf, hb6, s0, s1, s2, s14t23, s14m2, s14m3, s14z5, s14f2, s14f3, s14f21, s14f22, hb18, s60, s61, s62]
        refine aops_nil (hL23 _ ?_)
        simp only [k0, Nat.reduceBEq, reduceIte, Nat.reduceEqDiff, Nat.reduceAdd, Nat.reduceLeDiff, reduceCtorEq, Nat.reduceMul, Int.reduceToNat, lenR, Nat.reduceShiftRight, Nat.reduceMod, Nat.reducePow, Nat.reduceOr, Nat.reduceAnd, tyf, hb6, s0, s1, s2, s14t23, s14m2, s14m3, s14z5, s14f2, s14f3, s14f21, s14f22, hb18, s60, s61, s62]
        have sn := sumRef_next hlt
        have sw : IntKind.wrap .i64 ((i:Int) + 1) = ((i + 1 : Nat) : Int) := by rw [w64_id] <;> push_cast <;> omega
        refine hK14 _ ((fun (i : Nat) => ps.length - i) (i + 1)) ?_ ⟨i + 1, rfl, ?_, ?_, ?_, ?_, ?_⟩
        · (try simp only []); omega
        · omega
        · simp only [k0, Nat.reduceBEq, reduceIte, Nat.reduceEqDiff, Nat.reduceAdd, Nat.reduceLeDiff, reduceCtorEq, Nat.reduceMul, Int.reduceToNat, lenR, Nat.reduceShiftRight, Nat.reduceMod, Nat.reducePow, Nat.reduceOr, Nat.reduceAnd, tyf, hb6, s0, s1, s2, s14t23, s14m2, s14m3, s14z5, s14f2, s14f3, s14f21, s14f22, hb18, s60, s61, s62, sn, sw, k0]
        · simp only [k0, Nat.reduceBEq, reduceIte, Nat.reduceEqDiff, Nat.reduceAdd, Nat.reduceLeDiff, reduceCtorEq, Nat.reduceMul, Int.reduceToNat, lenR, Nat.reduceShiftRight, Nat.reduceMod, Nat.reducePow, Nat.reduceOr, Nat.reduceAnd, tyf, hb6, s0, s1, s2, s14t23, s14m2, s14m3, s14z5, s14f2, s14f3, s14f21, s14f22, hb18, s60, s61, s62, sn, sw, k0]
        · simp only [k0, Nat.reduceBEq, reduceIte, Nat.reduceEqDiff, Nat.reduceAdd, Nat.reduceLeDiff, reduceCtorEq, Nat.reduceMul, Int.reduceToNat, lenR, Nat.reduceShiftRight, Nat.reduceMod, Nat.reducePow, Nat.reduceOr, Nat.reduceAnd, tyf, hb6, s0, s1, s2, s14t23, s14m2, s14m3, s14z5, s14f2, s14f3, s14f21, s14f22, hb18, s60, s61, s62, sn, sw, k0] <;> rfl
        · simp only [k0, Nat.reduceBEq, reduceIte, Nat.reduceEqDiff, Nat.reduceAdd, Nat.reduceLeDiff, reduceCtorEq, Nat.reduceMul, Int.reduceToNat, lenR, Nat.reduceShiftRight, Nat.reduceMod, Nat.reducePow, Nat.reduceOr, Nat.reduceAnd, tyf, hb6, s0, s1, s2, s14t23, s14m2, s14m3, s14z5, s14f2, s14f3, s14f21, s14f22, hb18, s60, s61, s62, sn, sw, k0]
      case b18 =>
        have hp18 := hb18
        try simp only [kb] at hp18
        refine awp_exit ?_
        simp only [rk_state, reduceIte, Nat.reduceEqDiff]
        refine hK11 _ ?_
        refine awp_seq_k fun K24 hK24 => ?_
        first | refine awp_region_lit fun L25 hL25 => ?_ | refine awp_region_dr (by decide +kernel) fun L25 hL25 => ?_
        refine aops_orunN 2 _ _ ?_
        simp only [k0, Nat.reduceBEq, reduceIte, Nat.reduceEqDiff, Nat.reduceAdd, Nat.reduceLeDiff, reduceCtorEq, Nat.reduceMul, Int.reduceToNat, lenR, Nat.reduceShiftRight, Nat.reduceMod, Nat.reducePow, Nat.reduceOr, Nat.reduceAnd, tyf, hb6, s0, s1, s2, s14t23, s14m2, s14m3, s14z5, s14f2, s14f3, s14f21, s14f22, hb18]
        refine aops_nil (hL25 _ ?_)
        simp only [k0, Nat.reduceBEq, reduceIte, Nat.reduceEqDiff, Nat.reduceAdd, Nat.reduceLeDiff, reduceCtorEq, Nat.reduceMul, Int.reduceToNat, lenR, Nat.reduceShiftRight, Nat.reduceMod, Nat.reducePow, Nat.reduceOr, Nat.reduceAnd, tyf, hb6, s0, s1, s2, s14t23, s14m2, s14m3, s14z5, s14f2, s14f3, s14f21, s14f22, hb18]
        refine hK24 _ ?_
        refine awp_ret ?_
        try simp only [rk_state]
        refine ⟨_, 0, by simp only [k0, Nat.reduceBEq, reduceIte, Nat.reduceEqDiff, Nat.reduceAdd, Nat.reduceLeDiff, reduceCtorEq, Nat.reduceMul, Int.reduceToNat, lenR, Nat.reduceShiftRight, Nat.reduceMod, Nat.reducePow, Nat.reduceOr, Nat.reduceAnd, tyf, resA, Try.results27, hb6, s0, s1, s2, s14t23, s14m2, s14m3, s14z5, s14f2, s14f3, s14f21, s14f22, hb18]; rfl, ?_, fun l hl => absurd rfl hl⟩
        simp only [packA]
        first | (have e : ps = [] := by (apply List.eq_nil_of_length_eq_zero; omega)); subst e; simp only [Sm.av]; (repeat' (first | exact .nil | exact wkR_c | exact wkR_own | exact wkR_nils | refine wkR_int ?_ | refine wkR_bool ?_ | refine wkR_sl ?_ | refine wkR_osl ?_ | refine wkR_nsl ?_ | refine wkR_oo ?_ | refine wkR_no ?_ | refine .cons ?_ ?_ | refine wkR_agg ?_ | refine wkR_tup ?_)); all_goals rfl | (have e : i = ps.length := by omega); subst e; rw [sumRef_eq ps hn hk (by omega)]; simp only [Sm.av]; (repeat' (first | exact .nil | exact wkR_c | exact wkR_own | exact wkR_nils | refine wkR_int ?_ | refine wkR_bool ?_ | refine wkR_sl ?_ | refine wkR_osl ?_ | refine wkR_nsl ?_ | refine wkR_oo ?_ | refine wkR_no ?_ | refine .cons ?_ ?_ | refine wkR_agg ?_ | refine wkR_tup ?_))
set_option maxHeartbeats 4000000 in
theorem points_fun  : Fun Try.prog 92 [] nomem (.own false 0 34 (ptR [⟨10, 5⟩, ⟨20, 5⟩, ⟨30, 7⟩])) nomem := by
  refine fun_of_awp Try.func92 rfl (by decide +kernel) (by decide +kernel) (Nat.le_of_ble_eq_true rfl) (fun _ _ => rfl) ?_
  refine awp_seq_k fun K1 hK1 => ?_
  first | refine awp_region_lit fun L2 hL2 => ?_ | refine awp_region_dr (by decide +kernel) fun L2 hL2 => ?_
  refine aops_orunN 1 _ _ ?_
  simp only [k0, Nat.reduceBEq, reduceIte, Nat.reduceEqDiff, Nat.reduceAdd, Nat.reduceLeDiff, reduceCtorEq, Nat.reduceMul, Int.reduceToNat, lenR, Nat.reduceShiftRight, Nat.reduceMod, Nat.reducePow, Nat.reduceOr, Nat.reduceAnd, tyf]
  refine aops_nil (hL2 _ ?_)
  simp only [k0, Nat.reduceBEq, reduceIte, Nat.reduceEqDiff, Nat.reduceAdd, Nat.reduceLeDiff, reduceCtorEq, Nat.reduceMul, Int.reduceToNat, lenR, Nat.reduceShiftRight, Nat.reduceMod, Nat.reducePow, Nat.reduceOr, Nat.reduceAnd, tyf]
  refine hK1 _ ?_
  refine awp_seq_k fun K3 hK3 => ?_
  first | refine awp_region_lit fun L4 hL4 => ?_ | refine awp_region_dr (by decide +kernel) fun L4 hL4 => ?_
  refine aops_orunN 5 _ _ ?_
  simp only [k0, Nat.reduceBEq, reduceIte, Nat.reduceEqDiff, Nat.reduceAdd, Nat.reduceLeDiff, reduceCtorEq, Nat.reduceMul, Int.reduceToNat, lenR, Nat.reduceShiftRight, Nat.reduceMod, Nat.reducePow, Nat.reduceOr, Nat.reduceAnd, tyf]
  refine aops_nil (hL4 _ ?_)
  simp only [k0, Nat.reduceBEq, reduceIte, Nat.reduceEqDiff, Nat.reduceAdd, Nat.reduceLeDiff, reduceCtorEq, Nat.reduceMul, Int.reduceToNat, lenR, Nat.reduceShiftRight, Nat.reduceMod, Nat.reducePow, Nat.reduceOr, Nat.reduceAnd, tyf]
  refine hK3 _ ?_
  refine awp_ret ?_
  try simp only [rk_state]
  refine ⟨_, 0, by simp only [k0, Nat.reduceBEq, reduceIte, Nat.reduceEqDiff, Nat.reduceAdd, Nat.reduceLeDiff, reduceCtorEq, Nat.reduceMul, Int.reduceToNat, lenR, Nat.reduceShiftRight, Nat.reduceMod, Nat.reducePow, Nat.reduceOr, Nat.reduceAnd, tyf, resA, Try.results92]; rfl, ?_, fun l hl => absurd rfl hl⟩
  simp only [packA]
  exact wkR_own
set_option maxHeartbeats 4000000 in
theorem added_fun  : Fun Try.prog 25 [] nomem (.c (.bool true)) nomem := by
  refine fun_of_awp Try.func25 rfl (by decide +kernel) (by decide +kernel) (Nat.le_of_ble_eq_true rfl) (fun _ _ => rfl) ?_
  refine awp_seq_k fun K1 hK1 => ?_
  first | refine awp_region_lit fun L2 hL2 => ?_ | refine awp_region_dr (by decide +kernel) fun L2 hL2 => ?_
  refine aops_orunN 1 _ _ ?_
  simp only [k0, Nat.reduceBEq, reduceIte, Nat.reduceEqDiff, Nat.reduceAdd, Nat.reduceLeDiff, reduceCtorEq, Nat.reduceMul, Int.reduceToNat, lenR, Nat.reduceShiftRight, Nat.reduceMod, Nat.reducePow, Nat.reduceOr, Nat.reduceAnd, tyf]
  refine aops_nil (hL2 _ ?_)
  simp only [k0, Nat.reduceBEq, reduceIte, Nat.reduceEqDiff, Nat.reduceAdd, Nat.reduceLeDiff, reduceCtorEq, Nat.reduceMul, Int.reduceToNat, lenR, Nat.reduceShiftRight, Nat.reduceMod, Nat.reducePow, Nat.reduceOr, Nat.reduceAnd, tyf]
  refine hK1 _ ?_
  refine awp_seq_k fun K3 hK3 => ?_
  have s1 : sumOf [⟨10, 5⟩, ⟨20, 5⟩, ⟨30, 7⟩] = ⟨3, 5, 7, 17⟩ := by decide +kernel
  first | refine awp_region_lit fun L4 hL4 => ?_ | refine awp_region_dr (by decide +kernel) fun L4 hL4 => ?_
  refine aops_call_own points_fun rfl rfl rfl rfl (by (try simp only [k0, Nat.reduceBEq, reduceIte, Nat.reduceEqDiff, Nat.reduceAdd, Nat.reduceLeDiff, reduceCtorEq, Nat.reduceMul, Int.reduceToNat, lenR, Nat.reduceShiftRight, Nat.reduceMod, Nat.reducePow, Nat.reduceOr, Nat.reduceAnd, tyf, s1]); (repeat' (first | exact .nil | exact wk_c | exact wk_ownc | exact wk_nilsc | exact wk_nils | exact wk_fn | refine .cons ?_ ?_ | refine wk_agg ?_ | refine wk_fnL ?_))) rfl rfl rfl (by simp only [k0, Nat.reduceBEq, reduceIte, Nat.reduceEqDiff, Nat.reduceAdd, Nat.reduceLeDiff, reduceCtorEq, Nat.reduceMul, Int.reduceToNat, lenR, Nat.reduceShiftRight, Nat.reduceMod, Nat.reducePow, Nat.reduceOr, Nat.reduceAnd, tyf, s1, k0]) ?_
  simp only [k0, Nat.reduceBEq, reduceIte, Nat.reduceEqDiff, Nat.reduceAdd, Nat.reduceLeDiff, reduceCtorEq, Nat.reduceMul, Int.reduceToNat, lenR, Nat.reduceShiftRight, Nat.reduceMod, Nat.reducePow, Nat.reduceOr, Nat.reduceAnd, tyf, s1, k0, AV.setOwn, AV.setOwn1]
  refine aops_call (of_fun _ ?s6_0) rfl rfl rfl rfl (by (try simp only [k0, Nat.reduceBEq, reduceIte, Nat.reduceEqDiff, Nat.reduceAdd, Nat.reduceLeDiff, reduceCtorEq, Nat.reduceMul, Int.reduceToNat, lenR, Nat.reduceShiftRight, Nat.reduceMod, Nat.reducePow, Nat.reduceOr, Nat.reduceAnd, tyf, s1]); (repeat' (first | exact .nil | exact wk_c | exact wk_ownc | exact wk_nilsc | exact wk_nils | exact wk_fn | refine .cons ?_ ?_ | refine wk_agg ?_ | refine wk_fnL ?_))) rfl rfl ?m6
  case s6_0 => first | assumption | (simp; done) | (simp only [List.length_take, List.length_drop]; omega)
  simp only [k0, Nat.reduceBEq, reduceIte, Nat.reduceEqDiff, Nat.reduceAdd, Nat.reduceLeDiff, reduceCtorEq, Nat.reduceMul, Int.reduceToNat, lenR, Nat.reduceShiftRight, Nat.reduceMod, Nat.reducePow, Nat.reduceOr, Nat.reduceAnd, tyf, Sm.av, s1]
  refine aops_orunN 2 _ _ ?_
  simp only [k0, Nat.reduceBEq, reduceIte, Nat.reduceEqDiff, Nat.reduceAdd, Nat.reduceLeDiff, reduceCtorEq, Nat.reduceMul, Int.reduceToNat, lenR, Nat.reduceShiftRight, Nat.reduceMod, Nat.reducePow, Nat.reduceOr, Nat.reduceAnd, tyf, s1]
  refine aops_nil (hL4 _ ?_)
  simp only [k0, Nat.reduceBEq, reduceIte, Nat.reduceEqDiff, Nat.reduceAdd, Nat.reduceLeDiff, reduceCtorEq, Nat.reduceMul, Int.reduceToNat, lenR, Nat.reduceShiftRight, Nat.reduceMod, Nat.reducePow, Nat.reduceOr, Nat.reduceAnd, tyf, s1]
  refine hK3 _ ?_
  refine awp_seq_k fun K7 hK7 => ?_
  have s2 : sumOf [] = ⟨0, 0, 0, 0⟩ := rfl
  have s3 : join ⟨3, 5, 7, 17⟩ ⟨0, 0, 0, 0⟩ = ⟨3, 5, 7, 17⟩ := by decide +kernel
  first | refine awp_region_lit fun L8 hL8 => ?_ | refine awp_region_dr (by decide +kernel) fun L8 hL8 => ?_
  refine aops_orunN 2 _ _ ?_
  simp only [k0, Nat.reduceBEq, reduceIte, Nat.reduceEqDiff, Nat.reduceAdd, Nat.reduceLeDiff, reduceCtorEq, Nat.reduceMul, Int.reduceToNat, lenR, Nat.reduceShiftRight, Nat.reduceMod, Nat.reducePow, Nat.reduceOr, Nat.reduceAnd, tyf, s1, s2, s3]
  refine aops_eq (xs := ?xs9) (ys := ?ys9) eqi24 rfl rfl (by decide) ?hx9 ?hy9 ?hn9 ?hm9 ?hh9
  case hx9 => simp only [k0, Nat.reduceBEq, reduceIte, Nat.reduceEqDiff, Nat.reduceAdd, Nat.reduceLeDiff, reduceCtorEq, Nat.reduceMul, Int.reduceToNat, lenR, Nat.reduceShiftRight, Nat.reduceMod, Nat.reducePow, Nat.reduceOr, Nat.reduceAnd, tyf, s1, s2, s3, AV.ints, intsOf]; rfl
  case hy9 => simp only [k0, Nat.reduceBEq, reduceIte, Nat.reduceEqDiff, Nat.reduceAdd, Nat.reduceLeDiff, reduceCtorEq, Nat.reduceMul, Int.reduceToNat, lenR, Nat.reduceShiftRight, Nat.reduceMod, Nat.reducePow, Nat.reduceOr, Nat.reduceAnd, tyf, s1, s2, s3, AV.ints, intsOf]; rfl
  case hn9 => rfl
  case hm9 => rfl
  simp only [k0, Nat.reduceBEq, reduceIte, Nat.reduceEqDiff, Nat.reduceAdd, Nat.reduceLeDiff, reduceCtorEq, Nat.reduceMul, Int.reduceToNat, lenR, Nat.reduceShiftRight, Nat.reduceMod, Nat.reducePow, Nat.reduceOr, Nat.reduceAnd, tyf, s1, s2, s3]
  refine aops_orunN 1 _ _ ?_
  simp only [k0, Nat.reduceBEq, reduceIte, Nat.reduceEqDiff, Nat.reduceAdd, Nat.reduceLeDiff, reduceCtorEq, Nat.reduceMul, Int.reduceToNat, lenR, Nat.reduceShiftRight, Nat.reduceMod, Nat.reducePow, Nat.reduceOr, Nat.reduceAnd, tyf, s1, s2, s3]
  refine aops_call (of_fun [] (by simp)) (by simp only [k0, Nat.reduceBEq, reduceIte, Nat.reduceEqDiff, Nat.reduceAdd, Nat.reduceLeDiff, reduceCtorEq, Nat.reduceMul, Int.reduceToNat, lenR, Nat.reduceShiftRight, Nat.reduceMod, Nat.reducePow, Nat.reduceOr, Nat.reduceAnd, tyf, s1, s2, s3]) rfl rfl rfl (by (try simp only [k0, Nat.reduceBEq, reduceIte, Nat.reduceEqDiff, Nat.reduceAdd, Nat.reduceLeDiff, reduceCtorEq, Nat.reduceMul, Int.reduceToNat, lenR, Nat.reduceShiftRight, Nat.reduceMod, Nat.reducePow, Nat.reduceOr, Nat.reduceAnd, tyf, s1, s2, s3]); (repeat' (first | exact .nil | exact wk_c | exact wk_ownc | exact wk_nilsc | exact wk_nils | exact wk_fn | refine .cons ?_ ?_ | refine wk_agg ?_ | refine wk_fnL ?_))) rfl rfl ?_
  simp only [k0, Nat.reduceBEq, reduceIte, Nat.reduceEqDiff, Nat.reduceAdd, Nat.reduceLeDiff, reduceCtorEq, Nat.reduceMul, Int.reduceToNat, lenR, Nat.reduceShiftRight, Nat.reduceMod, Nat.reducePow, Nat.reduceOr, Nat.reduceAnd, tyf, Sm.av, s1, s2, s3]
  refine aops_orunN 1 _ _ ?_
  simp only [k0, Nat.reduceBEq, reduceIte, Nat.reduceEqDiff, Nat.reduceAdd, Nat.reduceLeDiff, reduceCtorEq, Nat.reduceMul, Int.reduceToNat, lenR, Nat.reduceShiftRight, Nat.reduceMod, Nat.reducePow, Nat.reduceOr, Nat.reduceAnd, tyf, s1, s2, s3]
  refine aops_eq (xs := ?xs11) (ys := ?ys11) eqi24 (by simp only [k0, Nat.reduceBEq, reduceIte, Nat.reduceEqDiff, Nat.reduceAdd, Nat.reduceLeDiff, reduceCtorEq, Nat.reduceMul, Int.reduceToNat, lenR, Nat.reduceShiftRight, Nat.reduceMod, Nat.reducePow, Nat.reduceOr, Nat.reduceAnd, tyf, s1, s2, s3]) rfl (by decide) ?hx11 ?hy11 ?hn11 ?hm11 ?hh11
  case hx11 => simp only [k0, Nat.reduceBEq, reduceIte, Nat.reduceEqDiff, Nat.reduceAdd, Nat.reduceLeDiff, reduceCtorEq, Nat.reduceMul, Int.reduceToNat, lenR, Nat.reduceShiftRight, Nat.reduceMod, Nat.reducePow, Nat.reduceOr, Nat.reduceAnd, tyf, s1, s2, s3, AV.ints, intsOf]; rfl
  case hy11 => simp only [k0, Nat.reduceBEq, reduceIte, Nat.reduceEqDiff, Nat.reduceAdd, Nat.reduceLeDiff, reduceCtorEq, Nat.reduceMul, Int.reduceToNat, lenR, Nat.reduceShiftRight, Nat.reduceMod, Nat.reducePow, Nat.reduceOr, Nat.reduceAnd, tyf, s1, s2, s3, AV.ints, intsOf]; rfl
  case hn11 => rfl
  case hm11 => rfl
  simp only [k0, Nat.reduceBEq, reduceIte, Nat.reduceEqDiff, Nat.reduceAdd, Nat.reduceLeDiff, reduceCtorEq, Nat.reduceMul, Int.reduceToNat, lenR, Nat.reduceShiftRight, Nat.reduceMod, Nat.reducePow, Nat.reduceOr, Nat.reduceAnd, tyf, s1, s2, s3]
  refine aops_orunN 2 _ _ ?_
  simp only [k0, Nat.reduceBEq, reduceIte, Nat.reduceEqDiff, Nat.reduceAdd, Nat.reduceLeDiff, reduceCtorEq, Nat.reduceMul, Int.reduceToNat, lenR, Nat.reduceShiftRight, Nat.reduceMod, Nat.reducePow, Nat.reduceOr, Nat.reduceAnd, tyf, s1, s2, s3]
  refine aops_orunN 2 _ _ ?_
  simp only [k0, Nat.reduceBEq, reduceIte, Nat.reduceEqDiff, Nat.reduceAdd, Nat.reduceLeDiff, reduceCtorEq, Nat.reduceMul, Int.reduceToNat, lenR, Nat.reduceShiftRight, Nat.reduceMod, Nat.reducePow, Nat.reduceOr, Nat.reduceAnd, tyf, s1, s2, s3]
  refine aops_call (join_fun _ _ _ _ _ _ _ _) (by simp only [k0, Nat.reduceBEq, reduceIte, Nat.reduceEqDiff, Nat.reduceAdd, Nat.reduceLeDiff, reduceCtorEq, Nat.reduceMul, Int.reduceToNat, lenR, Nat.reduceShiftRight, Nat.reduceMod, Nat.reducePow, Nat.reduceOr, Nat.reduceAnd, tyf, s1, s2, s3]) rfl rfl rfl (by (try simp only [k0, Nat.reduceBEq, reduceIte, Nat.reduceEqDiff, Nat.reduceAdd, Nat.reduceLeDiff, reduceCtorEq, Nat.reduceMul, Int.reduceToNat, lenR, Nat.reduceShiftRight, Nat.reduceMod, Nat.reducePow, Nat.reduceOr, Nat.reduceAnd, tyf, s1, s2, s3]); (repeat' (first | exact .nil | exact wk_c | exact wk_ownc | exact wk_nilsc | exact wk_nils | exact wk_fn | refine .cons ?_ ?_ | refine wk_agg ?_ | refine wk_fnL ?_))) rfl rfl ?_
  simp only [k0, Nat.reduceBEq, reduceIte, Nat.reduceEqDiff, Nat.reduceAdd, Nat.reduceLeDiff, reduceCtorEq, Nat.reduceMul, Int.reduceToNat, lenR, Nat.reduceShiftRight, Nat.reduceMod, Nat.reducePow, Nat.reduceOr, Nat.reduceAnd, tyf, Sm.av, s1, s2, s3]
  refine aops_orunN 1 _ _ ?_
  simp only [k0, Nat.reduceBEq, reduceIte, Nat.reduceEqDiff, Nat.reduceAdd, Nat.reduceLeDiff, reduceCtorEq, Nat.reduceMul, Int.reduceToNat, lenR, Nat.reduceShiftRight, Nat.reduceMod, Nat.reducePow, Nat.reduceOr, Nat.reduceAnd, tyf, s1, s2, s3]
  refine aops_eq (xs := ?xs13) (ys := ?ys13) eqi24 (by simp only [k0, Nat.reduceBEq, reduceIte, Nat.reduceEqDiff, Nat.reduceAdd, Nat.reduceLeDiff, reduceCtorEq, Nat.reduceMul, Int.reduceToNat, lenR, Nat.reduceShiftRight, Nat.reduceMod, Nat.reducePow, Nat.reduceOr, Nat.reduceAnd, tyf, s1, s2, s3]) rfl (by decide) ?hx13 ?hy13 ?hn13 ?hm13 ?hh13
  case hx13 => simp only [k0, Nat.reduceBEq, reduceIte, Nat.reduceEqDiff, Nat.reduceAdd, Nat.reduceLeDiff, reduceCtorEq, Nat.reduceMul, Int.reduceToNat, lenR, Nat.reduceShiftRight, Nat.reduceMod, Nat.reducePow, Nat.reduceOr, Nat.reduceAnd, tyf, s1, s2, s3, AV.ints, intsOf]; rfl
  case hy13 => simp only [k0, Nat.reduceBEq, reduceIte, Nat.reduceEqDiff, Nat.reduceAdd, Nat.reduceLeDiff, reduceCtorEq, Nat.reduceMul, Int.reduceToNat, lenR, Nat.reduceShiftRight, Nat.reduceMod, Nat.reducePow, Nat.reduceOr, Nat.reduceAnd, tyf, s1, s2, s3, AV.ints, intsOf]; rfl
  case hn13 => rfl
  case hm13 => rfl
  simp only [k0, Nat.reduceBEq, reduceIte, Nat.reduceEqDiff, Nat.reduceAdd, Nat.reduceLeDiff, reduceCtorEq, Nat.reduceMul, Int.reduceToNat, lenR, Nat.reduceShiftRight, Nat.reduceMod, Nat.reducePow, Nat.reduceOr, Nat.reduceAnd, tyf, s1, s2, s3]
  refine aops_orunN 2 _ _ ?_
  simp only [k0, Nat.reduceBEq, reduceIte, Nat.reduceEqDiff, Nat.reduceAdd, Nat.reduceLeDiff, reduceCtorEq, Nat.reduceMul, Int.reduceToNat, lenR, Nat.reduceShiftRight, Nat.reduceMod, Nat.reducePow, Nat.reduceOr, Nat.reduceAnd, tyf, s1, s2, s3]
  refine aops_nil (hL8 _ ?_)
  simp only [k0, Nat.reduceBEq, reduceIte, Nat.reduceEqDiff, Nat.reduceAdd, Nat.reduceLeDiff, reduceCtorEq, Nat.reduceMul, Int.reduceToNat, lenR, Nat.reduceShiftRight, Nat.reduceMod, Nat.reducePow, Nat.reduceOr, Nat.reduceAnd, tyf, s1, s2, s3]
  refine hK7 _ ?_
  refine awp_ret ?_
  try simp only [rk_state]
  refine ⟨_, 0, by simp only [k0, Nat.reduceBEq, reduceIte, Nat.reduceEqDiff, Nat.reduceAdd, Nat.reduceLeDiff, reduceCtorEq, Nat.reduceMul, Int.reduceToNat, lenR, Nat.reduceShiftRight, Nat.reduceMod, Nat.reducePow, Nat.reduceOr, Nat.reduceAnd, tyf, resA, Try.results25, s1, s2, s3]; rfl, ?_, fun l hl => absurd rfl hl⟩
  simp only [packA]
  (repeat' (first | exact .nil | exact wkR_c | exact wkR_own | exact wkR_nils | refine wkR_int ?_ | refine wkR_bool ?_ | refine wkR_sl ?_ | refine wkR_osl ?_ | refine wkR_nsl ?_ | refine wkR_oo ?_ | refine wkR_no ?_ | refine .cons ?_ ?_ | refine wkR_agg ?_ | refine wkR_tup ?_))
set_option maxHeartbeats 4000000 in
theorem sumSays_fun (ps : List Pt) (a b c d a2 b2 c2 d2 : Int) (hn : ps.length < 4611686018427387904) (hk : ∀ p ∈ ps, inR64 p.v) : Fun Try.prog 3 [.c (.sl 34 (ptR ps)), .agg [.c (.int .i64 a), .c (.int .i64 b), .c (.int .i64 c), .c (.int .i64 d)], .agg [.c (.int .i64 a2), .c (.int .i64 b2), .c (.int .i64 c2), .c (.int .i64 d2)]] nomem (.c (.bool true)) nomem := by
  refine fun_of_awp Try.func3 rfl (by decide +kernel) (by decide +kernel) (Nat.le_of_ble_eq_true rfl) (fun _ _ => rfl) ?_
  refine awp_seq_k fun K1 hK1 => ?_
  first | refine awp_region_lit fun L2 hL2 => ?_ | refine awp_region_dr (by decide +kernel) fun L2 hL2 => ?_
  refine aops_orunN 3 _ _ ?_
  simp only [k0, Nat.reduceBEq, reduceIte, Nat.reduceEqDiff, Nat.reduceAdd, Nat.reduceLeDiff, reduceCtorEq, Nat.reduceMul, Int.reduceToNat, lenR, Nat.reduceShiftRight, Nat.reduceMod, Nat.reducePow, Nat.reduceOr, Nat.reduceAnd, tyf]
  refine aops_nil (hL2 _ ?_)
  simp only [k0, Nat.reduceBEq, reduceIte, Nat.reduceEqDiff, Nat.reduceAdd, Nat.reduceLeDiff, reduceCtorEq, Nat.reduceMul, Int.reduceToNat, lenR, Nat.reduceShiftRight, Nat.reduceMod, Nat.reducePow, Nat.reduceOr, Nat.reduceAnd, tyf]
  refine hK1 _ ?_
  refine awp_seq_k fun K3 hK3 => ?_
  first | refine awp_region_lit fun L4 hL4 => ?_ | refine awp_region_dr (by decide +kernel) fun L4 hL4 => ?_
  refine aops_call added_fun rfl rfl rfl rfl (by (try simp only [k0, Nat.reduceBEq, reduceIte, Nat.reduceEqDiff, Nat.reduceAdd, Nat.reduceLeDiff, reduceCtorEq, Nat.reduceMul, Int.reduceToNat, lenR, Nat.reduceShiftRight, Nat.reduceMod, Nat.reducePow, Nat.reduceOr, Nat.reduceAnd, tyf]); (repeat' (first | exact .nil | exact wk_c | exact wk_ownc | exact wk_nilsc | exact wk_nils | exact wk_fn | refine .cons ?_ ?_ | refine wk_agg ?_ | refine wk_fnL ?_))) rfl rfl ?_
  simp only [k0, Nat.reduceBEq, reduceIte, Nat.reduceEqDiff, Nat.reduceAdd, Nat.reduceLeDiff, reduceCtorEq, Nat.reduceMul, Int.reduceToNat, lenR, Nat.reduceShiftRight, Nat.reduceMod, Nat.reducePow, Nat.reduceOr, Nat.reduceAnd, tyf]
  refine aops_orunN 1 _ _ ?_
  simp only [k0, Nat.reduceBEq, reduceIte, Nat.reduceEqDiff, Nat.reduceAdd, Nat.reduceLeDiff, reduceCtorEq, Nat.reduceMul, Int.reduceToNat, lenR, Nat.reduceShiftRight, Nat.reduceMod, Nat.reducePow, Nat.reduceOr, Nat.reduceAnd, tyf]
  refine aops_orunN 1 _ _ ?_
  simp only [k0, Nat.reduceBEq, reduceIte, Nat.reduceEqDiff, Nat.reduceAdd, Nat.reduceLeDiff, reduceCtorEq, Nat.reduceMul, Int.reduceToNat, lenR, Nat.reduceShiftRight, Nat.reduceMod, Nat.reducePow, Nat.reduceOr, Nat.reduceAnd, tyf]
  refine aops_call (of_fun _ ?s6_0) (by simp only [k0, Nat.reduceBEq, reduceIte, Nat.reduceEqDiff, Nat.reduceAdd, Nat.reduceLeDiff, reduceCtorEq, Nat.reduceMul, Int.reduceToNat, lenR, Nat.reduceShiftRight, Nat.reduceMod, Nat.reducePow, Nat.reduceOr, Nat.reduceAnd, tyf]) rfl rfl rfl (by (try simp only [k0, Nat.reduceBEq, reduceIte, Nat.reduceEqDiff, Nat.reduceAdd, Nat.reduceLeDiff, reduceCtorEq, Nat.reduceMul, Int.reduceToNat, lenR, Nat.reduceShiftRight, Nat.reduceMod, Nat.reducePow, Nat.reduceOr, Nat.reduceAnd, tyf]); (repeat' (first | exact .nil | exact wk_c | exact wk_ownc | exact wk_nilsc | exact wk_nils | exact wk_fn | refine .cons ?_ ?_ | refine wk_agg ?_ | refine wk_fnL ?_))) rfl rfl ?m6
  case s6_0 => first | assumption | (simp; done) | (simp only [List.length_take, List.length_drop]; omega)
  simp only [k0, Nat.reduceBEq, reduceIte, Nat.reduceEqDiff, Nat.reduceAdd, Nat.reduceLeDiff, reduceCtorEq, Nat.reduceMul, Int.reduceToNat, lenR, Nat.reduceShiftRight, Nat.reduceMod, Nat.reducePow, Nat.reduceOr, Nat.reduceAnd, tyf, Sm.av]
  refine aops_orunN 1 _ _ ?_
  simp only [k0, Nat.reduceBEq, reduceIte, Nat.reduceEqDiff, Nat.reduceAdd, Nat.reduceLeDiff, reduceCtorEq, Nat.reduceMul, Int.reduceToNat, lenR, Nat.reduceShiftRight, Nat.reduceMod, Nat.reducePow, Nat.reduceOr, Nat.reduceAnd, tyf]
  refine aops_call (refof_fun _ ?s7_0 ?s7_1) (by simp only [k0, Nat.reduceBEq, reduceIte, Nat.reduceEqDiff, Nat.reduceAdd, Nat.reduceLeDiff, reduceCtorEq, Nat.reduceMul, Int.reduceToNat, lenR, Nat.reduceShiftRight, Nat.reduceMod, Nat.reducePow, Nat.reduceOr, Nat.reduceAnd, tyf]) rfl rfl rfl (by (try simp only [k0, Nat.reduceBEq, reduceIte, Nat.reduceEqDiff, Nat.reduceAdd, Nat.reduceLeDiff, reduceCtorEq, Nat.reduceMul, Int.reduceToNat, lenR, Nat.reduceShiftRight, Nat.reduceMod, Nat.reducePow, Nat.reduceOr, Nat.reduceAnd, tyf]); (repeat' (first | exact .nil | exact wk_c | exact wk_ownc | exact wk_nilsc | exact wk_nils | exact wk_fn | refine .cons ?_ ?_ | refine wk_agg ?_ | refine wk_fnL ?_))) rfl rfl ?m7
  case s7_0 => first | assumption | (simp; done) | (simp only [List.length_take, List.length_drop]; omega)
  case s7_1 => assumption
  simp only [k0, Nat.reduceBEq, reduceIte, Nat.reduceEqDiff, Nat.reduceAdd, Nat.reduceLeDiff, reduceCtorEq, Nat.reduceMul, Int.reduceToNat, lenR, Nat.reduceShiftRight, Nat.reduceMod, Nat.reducePow, Nat.reduceOr, Nat.reduceAnd, tyf, Sm.av]
  refine aops_eq (xs := ?xs8) (ys := ?ys8) eqi24 (by simp only [k0, Nat.reduceBEq, reduceIte, Nat.reduceEqDiff, Nat.reduceAdd, Nat.reduceLeDiff, reduceCtorEq, Nat.reduceMul, Int.reduceToNat, lenR, Nat.reduceShiftRight, Nat.reduceMod, Nat.reducePow, Nat.reduceOr, Nat.reduceAnd, tyf]) rfl (by decide) ?hx8 ?hy8 ?hn8 ?hm8 ?hh8
  case hx8 => simp only [k0, Nat.reduceBEq, reduceIte, Nat.reduceEqDiff, Nat.reduceAdd, Nat.reduceLeDiff, reduceCtorEq, Nat.reduceMul, Int.reduceToNat, lenR, Nat.reduceShiftRight, Nat.reduceMod, Nat.reducePow, Nat.reduceOr, Nat.reduceAnd, tyf, AV.ints, intsOf]; rfl
  case hy8 => simp only [k0, Nat.reduceBEq, reduceIte, Nat.reduceEqDiff, Nat.reduceAdd, Nat.reduceLeDiff, reduceCtorEq, Nat.reduceMul, Int.reduceToNat, lenR, Nat.reduceShiftRight, Nat.reduceMod, Nat.reducePow, Nat.reduceOr, Nat.reduceAnd, tyf, AV.ints, intsOf]; rfl
  case hn8 => rfl
  case hm8 => rfl
  simp only [k0, Nat.reduceBEq, reduceIte, Nat.reduceEqDiff, Nat.reduceAdd, Nat.reduceLeDiff, reduceCtorEq, Nat.reduceMul, Int.reduceToNat, lenR, Nat.reduceShiftRight, Nat.reduceMod, Nat.reducePow, Nat.reduceOr, Nat.reduceAnd, tyf]
  refine aops_orunN 2 _ _ ?_
  simp only [k0, Nat.reduceBEq, reduceIte, Nat.reduceEqDiff, Nat.reduceAdd, Nat.reduceLeDiff, reduceCtorEq, Nat.reduceMul, Int.reduceToNat, lenR, Nat.reduceShiftRight, Nat.reduceMod, Nat.reducePow, Nat.reduceOr, Nat.reduceAnd, tyf]
  refine aops_orunN 2 _ _ ?_
  simp only [k0, Nat.reduceBEq, reduceIte, Nat.reduceEqDiff, Nat.reduceAdd, Nat.reduceLeDiff, reduceCtorEq, Nat.reduceMul, Int.reduceToNat, lenR, Nat.reduceShiftRight, Nat.reduceMod, Nat.reducePow, Nat.reduceOr, Nat.reduceAnd, tyf]
  refine aops_call (join_fun _ _ _ _ _ _ _ _) (by simp only [k0, Nat.reduceBEq, reduceIte, Nat.reduceEqDiff, Nat.reduceAdd, Nat.reduceLeDiff, reduceCtorEq, Nat.reduceMul, Int.reduceToNat, lenR, Nat.reduceShiftRight, Nat.reduceMod, Nat.reducePow, Nat.reduceOr, Nat.reduceAnd, tyf]) rfl rfl rfl (by (try simp only [k0, Nat.reduceBEq, reduceIte, Nat.reduceEqDiff, Nat.reduceAdd, Nat.reduceLeDiff, reduceCtorEq, Nat.reduceMul, Int.reduceToNat, lenR, Nat.reduceShiftRight, Nat.reduceMod, Nat.reducePow, Nat.reduceOr, Nat.reduceAnd, tyf]); (repeat' (first | exact .nil | exact wk_c | exact wk_ownc | exact wk_nilsc | exact wk_nils | exact wk_fn | refine .cons ?_ ?_ | refine wk_agg ?_ | refine wk_fnL ?_))) rfl rfl ?_
  simp only [k0, Nat.reduceBEq, reduceIte, Nat.reduceEqDiff, Nat.reduceAdd, Nat.reduceLeDiff, reduceCtorEq, Nat.reduceMul, Int.reduceToNat, lenR, Nat.reduceShiftRight, Nat.reduceMod, Nat.reducePow, Nat.reduceOr, Nat.reduceAnd, tyf, Sm.av]
  refine aops_orunN 2 _ _ ?_
  simp only [k0, Nat.reduceBEq, reduceIte, Nat.reduceEqDiff, Nat.reduceAdd, Nat.reduceLeDiff, reduceCtorEq, Nat.reduceMul, Int.reduceToNat, lenR, Nat.reduceShiftRight, Nat.reduceMod, Nat.reducePow, Nat.reduceOr, Nat.reduceAnd, tyf]
  refine aops_call (joined_fun _ _ _ _ _ _ _ _) (by simp only [k0, Nat.reduceBEq, reduceIte, Nat.reduceEqDiff, Nat.reduceAdd, Nat.reduceLeDiff, reduceCtorEq, Nat.reduceMul, Int.reduceToNat, lenR, Nat.reduceShiftRight, Nat.reduceMod, Nat.reducePow, Nat.reduceOr, Nat.reduceAnd, tyf]) rfl rfl rfl (by (try simp only [k0, Nat.reduceBEq, reduceIte, Nat.reduceEqDiff, Nat.reduceAdd, Nat.reduceLeDiff, reduceCtorEq, Nat.reduceMul, Int.reduceToNat, lenR, Nat.reduceShiftRight, Nat.reduceMod, Nat.reducePow, Nat.reduceOr, Nat.reduceAnd, tyf]); (repeat' (first | exact .nil | exact wk_c | exact wk_ownc | exact wk_nilsc | exact wk_nils | exact wk_fn | refine .cons ?_ ?_ | refine wk_agg ?_ | refine wk_fnL ?_))) rfl rfl ?_
  simp only [k0, Nat.reduceBEq, reduceIte, Nat.reduceEqDiff, Nat.reduceAdd, Nat.reduceLeDiff, reduceCtorEq, Nat.reduceMul, Int.reduceToNat, lenR, Nat.reduceShiftRight, Nat.reduceMod, Nat.reducePow, Nat.reduceOr, Nat.reduceAnd, tyf, Sm.av]
  refine aops_eq (xs := ?xs11) (ys := ?ys11) eqi24 (by simp only [k0, Nat.reduceBEq, reduceIte, Nat.reduceEqDiff, Nat.reduceAdd, Nat.reduceLeDiff, reduceCtorEq, Nat.reduceMul, Int.reduceToNat, lenR, Nat.reduceShiftRight, Nat.reduceMod, Nat.reducePow, Nat.reduceOr, Nat.reduceAnd, tyf]) rfl (by decide) ?hx11 ?hy11 ?hn11 ?hm11 ?hh11
  case hx11 => simp only [k0, Nat.reduceBEq, reduceIte, Nat.reduceEqDiff, Nat.reduceAdd, Nat.reduceLeDiff, reduceCtorEq, Nat.reduceMul, Int.reduceToNat, lenR, Nat.reduceShiftRight, Nat.reduceMod, Nat.reducePow, Nat.reduceOr, Nat.reduceAnd, tyf, AV.ints, intsOf]; rfl
  case hy11 => simp only [k0, Nat.reduceBEq, reduceIte, Nat.reduceEqDiff, Nat.reduceAdd, Nat.reduceLeDiff, reduceCtorEq, Nat.reduceMul, Int.reduceToNat, lenR, Nat.reduceShiftRight, Nat.reduceMod, Nat.reducePow, Nat.reduceOr, Nat.reduceAnd, tyf, AV.ints, intsOf]; rfl
  case hn11 => rfl
  case hm11 => rfl
  simp only [k0, Nat.reduceBEq, reduceIte, Nat.reduceEqDiff, Nat.reduceAdd, Nat.reduceLeDiff, reduceCtorEq, Nat.reduceMul, Int.reduceToNat, lenR, Nat.reduceShiftRight, Nat.reduceMod, Nat.reducePow, Nat.reduceOr, Nat.reduceAnd, tyf]
  refine aops_orunN 2 _ _ ?_
  simp only [k0, Nat.reduceBEq, reduceIte, Nat.reduceEqDiff, Nat.reduceAdd, Nat.reduceLeDiff, reduceCtorEq, Nat.reduceMul, Int.reduceToNat, lenR, Nat.reduceShiftRight, Nat.reduceMod, Nat.reducePow, Nat.reduceOr, Nat.reduceAnd, tyf]
  refine aops_nil (hL4 _ ?_)
  simp only [k0, Nat.reduceBEq, reduceIte, Nat.reduceEqDiff, Nat.reduceAdd, Nat.reduceLeDiff, reduceCtorEq, Nat.reduceMul, Int.reduceToNat, lenR, Nat.reduceShiftRight, Nat.reduceMod, Nat.reducePow, Nat.reduceOr, Nat.reduceAnd, tyf]
  refine hK3 _ ?_
  refine awp_ret ?_
  try simp only [rk_state]
  refine ⟨_, 0, by simp only [k0, Nat.reduceBEq, reduceIte, Nat.reduceEqDiff, Nat.reduceAdd, Nat.reduceLeDiff, reduceCtorEq, Nat.reduceMul, Int.reduceToNat, lenR, Nat.reduceShiftRight, Nat.reduceMod, Nat.reducePow, Nat.reduceOr, Nat.reduceAnd, tyf, resA, Try.results3]; rfl, ?_, fun l hl => absurd rfl hl⟩
  simp only [packA]
  (repeat' (first | exact .nil | exact wkR_c | exact wkR_own | exact wkR_nils | refine wkR_int ?_ | refine wkR_bool ?_ | refine wkR_sl ?_ | refine wkR_osl ?_ | refine wkR_nsl ?_ | refine wkR_oo ?_ | refine wkR_no ?_ | refine .cons ?_ ?_ | refine wkR_agg ?_ | refine wkR_tup ?_))
end Go.Proofs.Y
