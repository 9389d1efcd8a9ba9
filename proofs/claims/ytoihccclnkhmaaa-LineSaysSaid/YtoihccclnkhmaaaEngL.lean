/-
  What is proved: every operation that the state of an activation speaks of does to memory what the state says. Conditions: none.
-/
import Derived.Test.YtoihccclnkhmaaaEngK
set_option linter.unusedVariables false
set_option linter.unusedSimpArgs false
set_option maxRecDepth 4000
namespace Go.Rb

theorem memAll_map (m pm : Nat → List AV) : ∀ (L : List Nat) (l : Nat), memAll m (L.map fun l => (l, pm l)) l = if l ∈ L then pm l else m l
  | [], l => by simp [memAll]
  | x :: L, l => by
    simp only [List.map_cons, memAll, memAll_map _ pm L l, setM]
    by_cases h1 : l ∈ L
    · simp [h1]
    · by_cases h2 : l = x
      · subst h2; simp
      · simp [h1, h2]

theorem act_put {P : Program} {E E' : Env} {a : Act} {t : Nat → AV} {dst : Option Nat} {v : Value} {x : AV} (ht : ∀ i, VR P E (a.tmps.getD i undef) (t i)) (hle : E.le E') (hv : VR P E' v x)
    (hd : ∀ d, dst = some d → d < a.tmps.size) : ∀ i, VR P E' ((a.put dst v).tmps.getD i undef) (putT t dst x i) := by
  intro i
  cases dst with
  | none => exact (ht i).mono hle
  | some d =>
    simp only [Act.put, putT, setT]
    by_cases h1 : i = d
    · subst h1
      have := hd i rfl
      simp [Array.getD, this]
      exact hv
    · rw [if_neg h1]
      have h2 : (a.tmps.setIfInBounds d v).getD i undef = a.tmps.getD i undef := by
        simp only [Array.getD_eq_getD_getElem?, Array.getElem?_setIfInBounds_ne (Ne.symm h1)]
      rw [h2]
      exact (ht i).mono hle

section
variable {P : Program} {B : Nat} {X : Nat → Prop} {w0 : World} {S0 : Nat → Nat → Prop} {E : Env} {s : RSt}

/-- What a call leaves. -/
theorem wi_call (h : WI P B X w0 S0 E s) {L : List Nat} {pm' : Nat → List AV} {w' : World} {S' : Nat → Nat → Prop} {id : Option Nat} {st : OwnSt} {s' : RSt}
    (hFr : Fr E.w.heap.size (fun b => ∃ l, (l ∈ L ∧ s.m l ≠ []) ∧ E.β l = b) E.w w') (hS1 : ∀ b o, E.S b o → S' b o) (hS2 : ∀ b o, S' b o → E.S b o ∨ E.w.heap.size ≤ b) (hS3 : ∀ b o, S' b o → b < w'.heap.size)
    (hst : st = .none ∨ ∃ v e, st = .reg v e ∧ OwnBlk P w' S' E.w.heap.size v e) (hid : ∀ d, id = some d → s.p.testBit d = false)
    (hpm : ∀ l, l ∈ L → s.m l ≠ [] → pm' l ≠ [] ∧ ∃ cs e, w'.heap[E.β l]? = some (.cells cs e (0, 0)) ∧ BlkR P (envApp E w' S' none id st) (E.cp l) cs (pm' l)) (hL : ∀ l ∈ L, s.m l ≠ [])
    (hm : ∀ l, s'.m l = if l ∈ L then pm' l else s.m l) (hp : ∀ k, s.p.testBit k = true ∨ id = some k → s'.p.testBit k = true) (hxo : s'.xo = s.xo) (hxn : s'.xn = s.xn) :
    WI P B X w0 S0 (envApp E w' S' none id st) s' ∧ E.le (envApp E w' S' none id st) := by
  have hlt : ∀ l, s.m l ≠ [] → E.β l < E.w.heap.size := by
    intro l hl
    obtain ⟨cs, e, hh, _⟩ := h.loc l hl
    exact (Array.getElem?_eq_some_iff.1 hh).1
  have hcell : ∀ b o u, E.S b o → E.w.cell? ⟨b, o, none⟩ = some u → w'.cell? ⟨b, o, none⟩ = some u := by
    intro b o u hs hc
    rw [World.cell_of_block (hFr.block b (h.slt b o hs) ?_)]
    · exact hc
    · rintro ⟨l, ⟨_, hl⟩, rfl⟩
      obtain ⟨_, _, _, _, hns, _⟩ := h.loc l hl
      exact hns o hs
  have hle : E.le (envApp E w' S' none id st) := by
    refine ⟨hcell, hS1, fun l hl => ⟨hl, rfl, rfl⟩, fun nw k v e hr => ?_, fun nw k hr => ?_⟩
    · show (if nw = true ∧ id = some k then st else if (none : Option (Bool × Nat)) = some (nw, k) then OwnSt.dead else E.ow nw k) = _ ∨ (if nw = true ∧ id = some k then st else if (none : Option (Bool × Nat)) = some (nw, k) then OwnSt.dead else E.ow nw k) = _
      split
      · rename_i hc
        obtain ⟨rfl, hk⟩ := hc
        have h1 := h.new k (by rw [hr]; simp)
        rw [hid k hk] at h1
        cases h1
      · simp [hr]
    · show (if nw = true ∧ id = some k then st else if (none : Option (Bool × Nat)) = some (nw, k) then OwnSt.dead else E.ow nw k) = _
      split
      · rename_i hc
        obtain ⟨rfl, hk⟩ := hc
        have h1 := h.new k (by rw [hr]; simp)
        rw [hid k hk] at h1
        cases h1
      · simp [hr]
  have hmem : ∀ l, s'.m l ≠ [] ↔ s.m l ≠ [] := by
    intro l
    rw [hm]
    by_cases h1 : l ∈ L
    · rw [if_pos h1]; exact ⟨fun _ => hL l h1, fun h2 => (hpm l h1 h2).1⟩
    · rw [if_neg h1]
  have hreg : ∀ nw k v e, (envApp E w' S' none id st).ow nw k = .reg v e → (nw = true ∧ id = some k ∧ st = .reg v e) ∨ E.ow nw k = .reg v e := by
    intro nw k v e hr
    simp only [envApp] at hr
    split at hr
    · rename_i hc; exact .inl ⟨hc.1, hc.2, hr⟩
    · split at hr
      · cases hr
      · exact .inr hr
  refine ⟨⟨⟨hFr.os.trans h.fr.os, hFr.tape.trans h.fr.tape, hFr.output.trans h.fr.output, Nat.le_trans h.fr.size hFr.size, fun k hk hX => ?_⟩, Nat.le_trans h.hB hFr.size, fun b o hb => hS1 b o (h.s0 b o hb), ?_, hS3, fun l => (h.hA l).trans (hmem l).symm, ?_, ?_, ?_, ?_, ?_, ?_, ?_⟩, hle⟩
  · refine (hFr.block k (Nat.lt_of_lt_of_le hk h.hB) ?_).trans (h.fr.block k hk hX)
    rintro ⟨l, ⟨_, hl⟩, rfl⟩
    obtain ⟨_, _, _, _, _, hb⟩ := h.loc l hl
    rcases hb with hb | hb
    · omega
    · exact hX hb
  · intro b o hb
    rcases hS2 b o hb with h1 | h1
    · exact h.sNew b o h1
    · exact .inr (Nat.le_trans h.hB h1)
  · intro l hl
    have hl0 := (hmem l).1 hl
    obtain ⟨cs, e, hh, hc, hs, hb⟩ := h.loc l hl0
    have hns : ∀ o, ¬ S' (E.β l) o := by
      intro o ho
      rcases hS2 _ _ ho with h1 | h1
      · exact hs o h1
      · have := hlt l hl0; omega
    by_cases h1 : l ∈ L
    · obtain ⟨_, cs', e', hh', hc'⟩ := hpm l h1 hl0
      refine ⟨cs', e', hh', ?_, hns, hb⟩
      rw [hm, if_pos h1]; exact hc'
    · refine ⟨cs, e, ?_, ?_, hns, hb⟩
      · refine (hFr.block _ (hlt l hl0) ?_).trans hh
        rintro ⟨l', ⟨hl', hm'⟩, he⟩
        have := h.locne l' l hm' hl0 he
        subst this
        exact h1 hl'
      · rw [hm, if_neg h1]
        exact hc.mono hle
  · intro l l' hl hl' he
    exact h.locne l l' ((hmem l).1 hl) ((hmem l').1 hl') he
  · intro nw k v e hr
    rcases hreg nw k v e hr with ⟨_, _, hst'⟩ | hr'
    · rcases hst with h1 | ⟨v', e', h1, hown⟩
      · rw [h1] at hst'; cases hst'
      · rw [h1] at hst'
        cases hst'
        obtain ⟨g, n, cap, cur, e2, rfl, hB, rest⟩ := hown
        refine ⟨⟨g, n, cap, cur, e2, rfl, Nat.le_trans h.hB hB, rest⟩, fun l hl => ?_⟩
        intro hbl
        cases hbl
        have := hlt l ((hmem l).1 hl)
        exact absurd this (Nat.not_lt.2 hB)
    · obtain ⟨⟨g, n, cap, cur, e2, rfl, hB, hg, hsz, hn, hcap, hs⟩, hl⟩ := h.own nw k v e hr'
      have hglt : g < E.w.heap.size := (Array.getElem?_eq_some_iff.1 hg).1
      refine ⟨⟨g, n, cap, cur, e2, rfl, hB, (hFr.block g hglt ?_).trans hg, hsz, hn, hcap, ?_⟩, fun l hl' => hl l ((hmem l).1 hl')⟩
      · rintro ⟨l, ⟨_, hl'⟩, he⟩
        exact hl l hl' (by simp [Value.ownBlock, he])
      · intro o ho
        rcases hS2 _ _ ho with h1 | h1
        · exact hs o h1
        · omega
  · intro nw k v e nw' k' v' e' hr hr' hv
    have fresh : ∀ v e nw k v' e', st = .reg v e → E.ow nw k = .reg v' e' → v.ownBlock = v'.ownBlock → False := by
      intro v e nw k v' e' h1 h2 h3
      rcases hst with h4 | ⟨v1, e1, h4, hown⟩
      · rw [h4] at h1; cases h1
      · rw [h4] at h1
        cases h1
        obtain ⟨g, hg1, hg2, _⟩ := ownBlk_block hown
        obtain ⟨g', hg3, _, hg4⟩ := ownBlk_block (h.own nw k v' e' h2).1
        rw [hg1, hg3] at h3
        cases h3
        omega
    rcases hreg nw k v e hr with ⟨rfl, hk, hs1⟩ | hr1 <;> rcases hreg nw' k' v' e' hr' with ⟨rfl, hk', hs2⟩ | hr2
    · rw [hk] at hk'; cases hk'; exact ⟨rfl, rfl⟩
    · exact (fresh v e nw' k' v' e' hs1 hr2 hv).elim
    · exact (fresh v' e' nw k v e hs2 hr1 hv.symm).elim
    · exact h.ownne nw k v e nw' k' v' e' hr1 hr2 hv
  · intro k hk
    simp only [envApp] at hk
    split at hk
    · rename_i hc; exact hp k (.inr hc.2)
    · split at hk
      · rename_i ho; cases ho
      · exact hp k (.inl (h.new k hk))
  · intro k hk
    rw [hxn]
    simp only [envApp] at hk
    split at hk
    · rename_i hc
      rcases hst with h1 | ⟨v1, e1, h1, _⟩ <;> rw [h1] at hk <;> cases hk
    · split at hk
      · rename_i ho; cases ho
      · exact h.deadn k hk
  · intro k hk
    rw [hxo]
    simp only [envApp] at hk
    split at hk
    · rename_i hc; simp at hc
    · split at hk
      · rename_i ho; cases ho
      · exact h.deado k hk

theorem wkL_get {A : Nat → Prop} : ∀ {xs ys : List AV}, WkL P A xs ys → xs.length = ys.length ∧ ∀ (i : Nat) (x y : AV), xs[i]? = some x → ys[i]? = some y → Wk P A x y
  | _, _, .nil => ⟨rfl, fun i x y hx => by simp at hx⟩
  | _, _, .cons h t => by
    obtain ⟨h1, h2⟩ := wkL_get t
    refine ⟨by simp [h1], fun i x y hx hy => ?_⟩
    cases i with
    | zero => simp at hx hy; subst hx hy; exact h
    | succ i => exact h2 i x y (by simpa using hx) (by simpa using hy)

theorem run_callFunc {w : World} {f : FuncId} (h : HasBody P f) (args : Array Value) : (callFunc f args).run P w = .ok (.enter f args) w := by
  obtain ⟨fn, c, hf, hb, hn⟩ := h
  have hp : (program : Sem Program).run P w = .ok P w := rfl
  simp only [callFunc, Sem.run_bind, hp, Result.andThen_ok, hf, hn, hb, Bool.false_eq_true, if_false, Option.isNone_some, Sem.run_pure]

set_option maxHeartbeats 2000000 in
/-- **What the state says of an operation is so.** -/
theorem ay_sound (h : WI P B X w0 S0 E s) {a : Act} {o : Oper} {f : Eff} {dr : Bool} (ht : ∀ i, VR P E (a.tmps.getD i undef) (s.t i)) (hdst : ∀ d, o.dst = some d → d < a.tmps.size)
    (hay : AY P dr s.t s.m s.p s.xo s.xn o f) {K : Act → World → Prop} {Q : Exit → Act → World → Prop}
    (hK : ∀ (E' : Env) (v : Value), E.le E' → WI P B X w0 S0 E' (s.app o.dst f) → (∀ i, VR P E' ((a.put o.dst v).tmps.getD i undef) ((s.app o.dst f).t i)) → K (a.put o.dst v) E'.w) : o.wp P a E.w K Q := by
  have hev : ∀ x, VR P E (a.eval x) (evO s.t x) := by
    intro x
    cases x with
    | tmp i => exact ht i
    | const v => exact vr_cv P E v
    | func f => exact .fn f #[] [] rfl (by simp)
    | global g => exact .any _
  rcases hay with ⟨v, hv, rfl⟩ | hay
  · obtain ⟨u, hr, hu⟩ := yl_sound h.memOK (fun x _ => hev x) hv
    unfold Oper.wp
    rw [hr]
    refine hK E u (Env.le.refl E) ?_ (act_put ht (Env.le.refl E) hu hdst)
    simpa [RSt.app, memAll] using (show WI P B X w0 S0 E { s with t := putT s.t o.dst v } from ⟨h.fr, h.hB, h.s0, h.sNew, h.slt, h.hA, h.loc, h.locne, h.own, h.ownne, h.new, h.deadn, h.deado⟩)
  obtain ⟨dst, op, ty, pos, after, guard⟩ := o
  have wiT : ∀ {E' : Env} {s1 s2 : RSt}, WI P B X w0 S0 E' s1 → s2.m = s1.m → s2.p = s1.p → s2.xo = s1.xo → s2.xn = s1.xn → WI P B X w0 S0 E' s2 := by
    intro E' s1 s2 h1 e1 e2 e3 e4
    obtain ⟨t2, m2, p2, xo2, xn2⟩ := s2
    simp only at e1 e2 e3 e4
    subst e1 e2 e3 e4
    exact ⟨h1.fr, h1.hB, h1.s0, h1.sNew, h1.slt, h1.hA, h1.loc, h1.locne, h1.own, h1.ownne, h1.new, h1.deadn, h1.deado⟩
  unfold AYe at hay
  simp only at hay
  split at hay
  · -- structs of ints
    rename_i op' T x y yt
    obtain ⟨hop, xs, ys, hx, hy, heq, hlen, rfl⟩ := hay
    have ints : ∀ (z : Operand) (zs : List Int), (evO s.t z).ints = some zs → a.eval z = .agg (zs.map (Value.int .i64)).toArray := by
      intro z zs hz
      have hvz := hev z
      generalize evO s.t z = q at *
      generalize a.eval z = u at *
      unfold AV.ints at hz
      split at hz
      · rename_i qs
        cases hvz with
        | agg vs _ hn h1 hr =>
        have key : ∀ (qs : List AV) (zs : List Int), intsOf qs = some zs → qs = zs.map fun n => .c (.int .i64 n) := by
          intro qs
          induction qs with
          | nil => intro zs h; simp [intsOf] at h; subst h; rfl
          | cons q qs ih =>
            intro zs h
            unfold intsOf at h
            split at h
            · rename_i h0; cases h0
            · rename_i n r h0
              cases h0
              cases hr' : intsOf qs with
              | none => simp [hr'] at h
              | some zs' => simp [hr'] at h; subst h; simp [ih zs' hr']
            · cases h
        have hk := key qs zs hz
        congr 1
        apply Array.ext_getElem?
        intro i
        by_cases hi : i < vs.size
        · have h2 := Array.getElem?_eq_getElem hi
          have hi' : i < qs.length := by omega
          have h3 := List.getElem?_eq_getElem hi'
          have h4 := hr i _ _ h2 h3
          have h5 : i < zs.length := by rw [hk] at hi'; simpa using hi'
          have h6 : qs[i] = .c (.int .i64 zs[i]) := by
            have : qs[i]? = (zs.map fun n => AV.c (.int .i64 n))[i]? := by rw [hk]
            rw [h3, List.getElem?_map, List.getElem?_eq_getElem h5] at this
            simpa using this
          rw [h6] at h4
          rw [h2, vr_int h4]
          simp [h5]
        · have hi' : ¬ i < zs.length := by
            have : qs.length = zs.length := by rw [hk]; simp
            omega
          simp [Array.getElem?_eq_none (by omega : vs.size ≤ i), hi']
      · cases hz
    unfold Oper.wp
    have hr := heq op' xs ys x y E.w hop rfl hlen
    rw [← ints x xs hx, ← ints y ys hy] at hr
    rw [show (execOp a.eval { dst, op := .binOp op' T x y yt, type := ty, pos, after, guard }).run P E.w = _ from run_val hr]
    exact hK E _ (Env.le.refl E) (wiT h rfl (by simp [RSt.app]) (by simp [RSt.app]) (by simp [RSt.app])) (act_put ht (Env.le.refl E) (.c _ _ (.bool _)) hdst)
  · rename_i t n ps
    obtain ⟨rows, hrows, rfl⟩ := hay
    have hparts : ∀ (i : Nat) (p : Nat × AV) (q : Nat × Value), (ps.toList.map fun (i, x) => (i, evO s.t x))[i]? = some p → (ps.map fun (i, x) => (i, a.eval x))[i]? = some q → p.1 = q.1 ∧ VR P E q.2 p.2 := by
      intro i p q hp hq
      rw [List.getElem?_map, Option.map_eq_some_iff, Array.getElem?_toList] at hp
      rw [Array.getElem?_map, Option.map_eq_some_iff] at hq
      obtain ⟨r, hr, rfl⟩ := hp
      obtain ⟨r', hr', rfl⟩ := hq
      rw [hr] at hr'
      cases hr'
      exact ⟨rfl, hev _⟩
    obtain ⟨v', E', hr, hle, hwi, hv⟩ := buildSlice_sound h (vs := ps.map fun (i, x) => (i, a.eval x)) (by simp) hparts hrows
    unfold Oper.wp
    rw [show (execOp a.eval { dst, op := .buildSlice t n ps, type := ty, pos, after, guard }).run P E.w = .ok (.value v') E'.w by
      simp only [execOp, Sem.run_bind, hr, Result.andThen_ok, Sem.run_pure]]
    exact hK E' v' hle (wiT hwi rfl (by simp [RSt.app]) (by simp [RSt.app]) (by simp [RSt.app])) (act_put ht hle hv hdst)
  · rename_i e
    obtain ⟨d, z, hd, hz, hne, hm, rfl⟩ := hay
    obtain ⟨zv, hzr, hzc⟩ := run_zeroValue E hz
    obtain ⟨hwi, hle, hv⟩ := wi_new (e := e) (s' := s.app dst { v := .ptr d 0, mem := [(d, z)] }) h hm hne (hzc.1.symm ▸ hzc.blk) rfl (by simp [RSt.app]) (by simp [RSt.app]) (by simp [RSt.app])
    unfold Oper.wp
    rw [show (execOp a.eval { dst, op := .alloc e, type := ty, pos, after, guard }).run P E.w = .ok (.value (.pointer (some ⟨E.w.heap.size, 0, none⟩))) (E.w.alloc (.cells zv.cells e)) by
      simp only [execOp, Instr.alloc, Sem.run_bind, hzr, Result.andThen_ok, newVar, newRow, newObj, Sem.run_pure]; rfl]
    exact hK _ _ hle hwi (act_put ht hle hv hdst)
  · rename_i e x
    obtain ⟨d, z, hd, hz, hne, hm, rfl⟩ := hay
    obtain ⟨hwi, hle, hv⟩ := wi_new (e := e) (s' := s.app dst { v := .ptr d 0, mem := [(d, z)] }) h hm hne (((hev x).cells hz).1.symm ▸ ((hev x).cells hz).blk) rfl (by simp [RSt.app]) (by simp [RSt.app]) (by simp [RSt.app])
    unfold Oper.wp
    rw [show (execOp a.eval { dst, op := .box e x, type := ty, pos, after, guard }).run P E.w = .ok (.value (.pointer (some ⟨E.w.heap.size, 0, none⟩))) (E.w.alloc (.cells (a.eval x).cells e)) by
      simp only [execOp, Instr.box, Sem.run_bind, newVar, newRow, newObj, Sem.run_pure]; rfl]
    exact hK _ _ hle hwi (act_put ht hle hv hdst)
  · rename_i t ad x
    obtain ⟨l, off, cs, had, hcs, hlen, hne, hinf, hfit, rfl⟩ := hay
    have hva := hev ad
    rw [had] at hva
    have hml : s.m l ≠ [] := by
      intro h0
      rw [h0] at hfit
      simp at hfit
      exact hne hfit.2
    obtain ⟨cur, e, hh, hcr, _⟩ := h.loc l hml
    have hcx := (hev x).cells hcs
    obtain ⟨hwi, hle⟩ := wi_store (s' := s.app dst { v := .und, mem := [(l, place (s.m l) off cs)] }) h hml hcx hfit hh hcr rfl (by simp [RSt.app]) (by simp [RSt.app]) (by simp [RSt.app])
    have hcell1 : ∀ v ∈ (a.eval x).cells.toList, v.oneCell' = true := by
      intro v hv
      obtain ⟨i, hi⟩ := List.getElem?_of_mem hv
      have hi' : (a.eval x).cells[i]? = some v := by simpa using hi
      have h1 : i < cs.length := by rw [← hcx.1]; exact (Array.getElem?_eq_some_iff.1 hi').1
      exact (hcx.2 i v _ hi' (List.getElem?_eq_getElem h1)).2
    have hsize : (a.eval x).cells.size = P.cellsOf t := by rw [hcx.1, hlen]
    have hst := run_storeCells_at P (E.β l) off e (a.eval x).cells.toList 0 cur E.w hh (by have h1 := hcr.1; have h2 := hcr.2.1; simp [hcx.1]; omega) hcell1
    have hput : (cur.toList.take (off + 0) ++ (a.eval x).cells.toList ++ cur.toList.drop (off + 0 + (a.eval x).cells.toList.length)).toArray = putCells cur off (a.eval x).cells.toList 0 := by
      apply Array.ext_getElem?
      intro k
      rw [putCells_get _ _ _ _ _ (by have h1 := hcr.1; have h2 := hcr.2.1; simp [hcx.1]; omega)]
      have h1 : (cur.toList.take off).length = off := by have h1 := hcr.1; have h2 := hcr.2.1; simp; omega
      simp only [Nat.add_zero, List.getElem?_toArray, List.append_assoc]
      rw [List.getElem?_append, h1]
      by_cases h2 : k < off
      · rw [if_pos h2, if_neg (by omega), List.getElem?_take, if_pos h2]; simp
      · rw [if_neg h2, List.getElem?_append]
        by_cases h3 : k - off < (a.eval x).cells.toList.length
        · rw [if_pos h3, if_pos (by omega)]
        · rw [if_neg h3, if_neg (by omega), List.getElem?_drop]
          have : off + (a.eval x).cells.toList.length + (k - off - (a.eval x).cells.toList.length) = k := by omega
          rw [this]; simp
    unfold Oper.wp
    rw [show (execOp a.eval { dst, op := .store t ad x, type := ty, pos, after, guard }).run P E.w = .ok .skip (E.w.setRow (E.β l) (putCells cur off (a.eval x).cells.toList 0)) by
      generalize hq : a.eval ad = q at *
      cases hva
      simp only [execOp, hq, Instr.storeAt, Instr.sureAddr, Sem.run_bind, Sem.run_pure, Result.andThen_ok, storeVar, run_sizeOf hinf, hsize, ne_eq, not_true_eq_false, if_false, hst, hput]]
    exact hK _ undef hle hwi (act_put ht hle .und hdst)
  · -- calls
    rename_i c
    obtain ⟨callee, args, ts⟩ := c
    simp only at hay
    split at hay
    · obtain ⟨d, x, y, ty', e, rows, new, hd, hargs, hts, hu, hb, hxo, hxn, hp, hr, hbytes, hmax, hz, hz0, rfl⟩ := hay
      subst hargs hts hd
      obtain ⟨v', E', hrun, hle, hwi, hv⟩ := append_sound (tt := ty) h hu (hev x) hb hxo hxn hp (hev y) hr hbytes hmax hz hz0
      unfold Oper.wp
      rw [show (execOp a.eval { dst := some d, op := .call { callee := .builtin .append, args := #[x, y], argTypes := #[ty', ty'] }, type := ty, pos, after, guard }).run P E.w = .ok (.value v') E'.w by
        simp [execOp, resolve, invoke, builtin, hrun]]
      exact hK E' v' hle (wiT hwi rfl rfl rfl rfl) (act_put ht hle hv hdst)
    · rename_i g
      obtain ⟨fid, caps, hg, hcall⟩ := hay
      have hvg := hev g
      rw [hg] at hvg
      generalize hq : a.eval g = q at *
      cases hvg with
      | fn _ cs _ hcn hcr =>
      -- the arguments' values
      have hvals : ∀ (i : Nat) (v : Value) (z : AV), (args.map a.eval ++ cs)[i]? = some v → (args.toList.map (evO s.t) ++ caps)[i]? = some z → VR P E v z := by
        intro i v z hv hz
        rw [Array.getElem?_append] at hv
        rw [List.getElem?_append] at hz
        simp only [Array.size_map, List.length_map, Array.length_toList] at hv hz
        split at hv
        · rename_i hi
          rw [if_pos hi] at hz
          rw [Array.getElem?_map, Option.map_eq_some_iff] at hv
          rw [List.getElem?_map, Option.map_eq_some_iff, Array.getElem?_toList] at hz
          obtain ⟨r, hr, rfl⟩ := hv
          obtain ⟨r', hr', rfl⟩ := hz
          rw [hr] at hr'
          cases hr'
          exact hev r
        · rename_i hi
          rw [if_neg hi] at hz
          exact hcr _ v z hv hz
      have hsz : (args.map a.eval ++ cs).size = (args.toList.map (evO s.t) ++ caps).length := by simp [hcn]
      -- one lemma for both forms of a call
      have main : ∀ (L : List Nat) (cargs : List AV) (r : AV) (pm pm' : Nat → List AV), WkL P (fun l => l ∈ L) (args.toList.map (evO s.t) ++ caps) cargs →
          Fun P fid cargs pm r pm' → (∀ l ∈ L, s.m l ≠ [] ∧ WkL P (fun l => l ∈ L) (s.m l) (pm l) ∧ (pm' l).all AV.noOwn1 = true) → (∀ l, l ∉ L → pm l = []) → (∀ l, l ∉ L → pm' l = []) →
          (f = { v := r, mem := L.map fun l => (l, pm' l) } ∧ r.noOwn = true ∨ L = [] ∧ ∃ d, dst = some d ∧ r.ownTop = true ∧ s.p.testBit d = false ∧ f = { v := r.setOwn d, p := 2 ^ d }) →
          Oper.wp P { dst, op := .call { callee := .value g, args, argTypes := ts }, type := ty, pos, after, guard } a E.w K Q := by
        intro L cargs r pm pm' hwk hfun hL hL0 hL0' hf
        obtain ⟨hwl, hwi⟩ := wkL_get hwk
        obtain ⟨hbody, hF⟩ := hfun
        have hpml : ∀ l, l ∈ L ↔ pm l ≠ [] := by
          intro l
          constructor
          · intro h1 h2
            obtain ⟨h3, h4, _⟩ := hL l h1
            have := (wkL_get h4).1
            rw [h2] at this
            exact h3 (List.eq_nil_of_length_eq_zero this)
          · intro h1
            by_cases h2 : l ∈ L
            · exact h2
            · exact absurd (hL0 l h2) h1
        have hEA : ∀ l, l ∈ L → E.A l := fun l hl => (h.hA l).2 (hL l hl).1
        have hcalls := hF { E with A := fun l => l ∈ L, ow := fun _ _ => .none } (args.map a.eval ++ cs) (fun _ _ => rfl) hpml h.slt (by rw [hsz, hwl])
          (fun i v z hv hz => by
            have hi : i < (args.toList.map (evO s.t) ++ caps).length := by rw [hwl]; exact (List.getElem?_eq_some_iff.1 hz).1
            have h1 := List.getElem?_eq_getElem hi
            exact hwi i _ z h1 hz E v hEA (hvals i v _ hv h1))
          (fun l hl => by
            have hl' := (hpml l).2 hl
            obtain ⟨h3, h4, _⟩ := hL l hl'
            obtain ⟨cs', e', hh, hc, hs, _⟩ := h.loc l h3
            obtain ⟨h5, h6⟩ := wkL_get h4
            refine ⟨cs', e', hh, ⟨hc.1, by rw [← h5]; exact hc.2.1, fun i v x hv hx => ?_⟩, hs⟩
            have hi : i < (s.m l).length := by rw [h5]; exact (List.getElem?_eq_some_iff.1 hx).1
            have h7 := List.getElem?_eq_getElem hi
            exact ⟨h6 i _ x h7 hx E v hEA (hc.2.2 i v _ hv h7).1, (hc.2.2 i v _ hv h7).2⟩)
          (fun l l' hl hl' he => h.locne l l' (hL l ((hpml l).2 hl)).1 (hL l' ((hpml l').2 hl')).1 he)
        unfold Oper.wp
        rw [show (execOp a.eval { dst, op := .call { callee := .value g, args, argTypes := ts }, type := ty, pos, after, guard }).run P E.w = .ok (.enter fid (args.map a.eval ++ cs)) E.w by
          simp only [execOp, resolve, hq, Deferred.ofValue, Sem.run_bind, Sem.run_pure, Result.andThen_ok, invoke, Array.empty_append]
          exact run_callFunc hbody _]
        refine hcalls.mono ?_
        rintro e w' ⟨v, E', rfl, rfl, hβ, hA, hFr, hS1, hS2, hS3, hv, hpm', _, hdead, hown⟩
        simp only at hβ hFr hS1 hS2 hown
        have hA2 : ∀ l, E'.A l → E.A l ∧ E.β l = E'.β l ∧ E.cp l = E'.cp l := by
          intro l hl
          have h1 := (hA l).1 hl
          have h2 : l ∈ L := by
            by_cases h3 : l ∈ L
            · exact h3
            · exact absurd (hL0' l h3) h1
          obtain ⟨_, h4, h5⟩ := hβ l ((hpml l).1 h2)
          exact ⟨hEA l h2, h4.symm, h5.symm⟩
        have hFr' : Fr E.w.heap.size (fun b => ∃ l, (l ∈ L ∧ s.m l ≠ []) ∧ E.β l = b) E.w E'.w := by
          refine ⟨hFr.os, hFr.tape, hFr.output, hFr.size, fun k hk hX => hFr.block k hk ?_⟩
          rintro ⟨l, hl, he⟩
          exact hX ⟨l, ⟨(hpml l).2 hl, (hL l ((hpml l).2 hl)).1⟩, he⟩
        rcases hf with ⟨rfl, hno⟩ | ⟨rfl, d, hd, htop, hp, rfl⟩
        · obtain ⟨hwi, hle⟩ := wi_call (id := none) (st := .none) (s' := s.app dst { v := r, mem := L.map fun l => (l, pm' l) }) h hFr' hS1 hS2 hS3 (.inl rfl) (fun d hd => by cases hd)
            (fun l hl _ => by
              obtain ⟨h1, hb1, hb2⟩ := hβ l ((hpml l).1 hl)
              obtain ⟨cs', e', hh, hc, _⟩ := hpm' l h1
              rw [hb1] at hh
              rw [hb2] at hc
              refine ⟨h1, cs', e', hh, hc.1, hc.2.1, fun i v x hv hx => ⟨?_, (hc.2.2 i v x hv hx).2⟩⟩
              have hno1 := List.all_eq_true.1 (hL l hl).2.2 x (List.mem_of_getElem? hx)
              exact vr_noOwn1 hno1 (hc.2.2 i v x hv hx).1 rfl rfl hA2)
            (fun l hl => (hL l hl).1) (fun l => memAll_map _ _ _ _) (fun k hk => by rcases hk with hk | hk; exact (by simpa [RSt.app] using hk); cases hk) (by simp [RSt.app]) (by simp [RSt.app])
          exact hK (envApp E E'.w E'.S none none .none) v hle hwi (act_put ht hle (vr_noOwn hno hv rfl rfl hA2) hdst)
        · subst hd
          have hst : ∃ st, (st = OwnSt.none ∨ ∃ v e, st = .reg v e ∧ OwnBlk P E'.w E'.S E.w.heap.size v e) ∧ ∀ nw k u ty, E'.ow nw k = .reg u ty → st = .reg u ty := by
            refine ⟨E'.ow false 0, ?_, fun nw k u ty hr => ?_⟩
            · cases h1 : E'.ow false 0 with
              | none => exact .inl rfl
              | dead => exact absurd h1 (hdead _ _)
              | reg u ty => exact .inr ⟨u, ty, rfl, (hown _ _ _ _ h1).2.2.1⟩
            · obtain ⟨rfl, rfl, _⟩ := hown _ _ _ _ hr
              exact hr
          obtain ⟨st, hst1, hst2⟩ := hst
          obtain ⟨hwi, hle⟩ := wi_call (L := []) (pm' := pm') (id := some d) (st := st) (s' := s.app (some d) { v := r.setOwn d, p := 2 ^ d }) h hFr' hS1 hS2 hS3 hst1 (fun d' hd => by cases hd; exact hp)
            (fun l hl _ => by simp at hl) (fun l hl => by simp at hl) (fun l => by simp [RSt.app, memAll])
            (fun k hk => by
              rcases hk with hk | hk
              · exact testBit_or_left hk
              · cases hk; exact testBit_or_right Nat.testBit_two_pow_self) (by simp [RSt.app]) (by simp [RSt.app])
          refine hK (envApp E E'.w E'.S none (some d) st) v hle hwi (act_put ht hle (vr_setOwn htop hv rfl rfl hA2 hdead ?_) hdst)
          intro nw k u ty hr
          simp [envApp, hst2 nw k u ty hr]
      rcases hcall with ⟨cargs, r, hwk, hfun, _, hf⟩ | ⟨_, cargs, r, L, pm, pm', hwk, hfun, hno, hL, hL0, hL0', rfl⟩
      · refine main [] cargs r nomem nomem ?_ hfun (fun l hl => by simp at hl) (fun _ _ => rfl) (fun _ _ => rfl) ?_
        · have : (fun l => l ∈ ([] : List Nat)) = fun _ => False := by funext l; simp
          rw [this]; exact hwk
        · rcases hf with ⟨hno, rfl⟩ | hf
          · exact .inl ⟨rfl, hno⟩
          · exact .inr ⟨rfl, hf⟩
      · exact main L cargs r pm pm' hwk hfun hL hL0 hL0' (.inl ⟨rfl, hno⟩)
    · exact hay.elim
  · exact hay.elim
end

end Go.Rb
