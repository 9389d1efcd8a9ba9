/-
  What is proved: append to a slice of one's own, as the state of an activation has it. Conditions: none.
-/
import Derived.Test.YtoihccclnkhmaaaEngG
set_option linter.unusedVariables false
set_option linter.unusedSimpArgs false
set_option maxRecDepth 4000
namespace Go.Rb

theorem zc_info {P : Program} {e : TypeId} {n : Nat} (h : (zc P e).map (·.length) = some n) : ∃ i z, P.info? e = some i ∧ i.zero = some z ∧ z.cells.size = n ∧ (∀ v ∈ z.cells, v.oneCell' = true) := by
  unfold zc at h
  split at h
  · rename_i i hi
    split at h
    · rename_i z hz
      split at h
      · rename_i ha
        simp only [Array.all_eq_true_iff_forall_mem] at ha
        simp at h
        exact ⟨i, z, hi, hz, h, ha⟩
      · simp at h
    · simp at h
  · simp at h

theorem run_append_zero {P : Program} {w : World} {t ty e : TypeId} (hu : P.underlying t = some (.slice e)) (hi : (P.info? e).isSome) (a b : Option Addr) (n c c' : Nat) (hn : n ≤ c) :
    (Builtin.append_ #[t, t] ty #[.slice a n c, .slice b 0 c']).run P w = .ok (.slice a n c) w := by
  cases hq : P.info? e with
  | none => simp [hq] at hi
  | some i => cases a <;> cases b <;> simp [Builtin.append_, run_underlying hu, sizeOf, typeInfo, hq, Builtin.lenOf, Builtin.firstCells, loadCells, loadCellsFrom, storeCells, hn]

theorem zeroCells_size (z : Array Value) (n : Nat) : (Builtin.zeroCells z n).size = n * z.size := by simp [Builtin.zeroCells]

section
variable {P : Program} {B : Nat} {X : Nat → Prop} {w0 : World} {S0 : Nat → Nat → Prop} {E : Env} {s : RSt}

/-- What an append leaves where it has made a new array. -/
theorem grow_env (h : WI P B X w0 S0 E s) {e : TypeId} {rows new : List (List C)} {olds news Z : List Value} {cap d : Nat} {old : Option (Bool × Nat)} {s' : RSt}
    (hsz : ∀ r ∈ rows ++ new, r.length = P.cellsOf e) (hlo : olds.length = rows.length * P.cellsOf e) (hln : news.length = new.length * P.cellsOf e)
    (hcap : rows.length + new.length ≤ cap) (hmax : cap ≤ maxLen) (hZ : Z.length = (cap - (rows.length + new.length)) * P.cellsOf e)
    (hro : ∀ (i j : Nat) (r : List C) (c : C) (v : Value), rows[i]? = some r → r[j]? = some c → olds[i * P.cellsOf e + j]? = some v → Rd P E.w E.S v c)
    (hrn : ∀ (i j : Nat) (r : List C) (c : C) (v : Value), new[i]? = some r → r[j]? = some c → news[i * P.cellsOf e + j]? = some v → Rd P E.w E.S v c)
    (hid : s.p.testBit d = false) (hm : s'.m = s.m) (hp : ∀ k, s.p.testBit k = true ∨ some d = some k → s'.p.testBit k = true)
    (hxn : ∀ k, s.xn.testBit k = true ∨ old = some (true, k) → s'.xn.testBit k = true) (hxo : ∀ k, s.xo.testBit k = true ∨ old = some (false, k) → s'.xo.testBit k = true)
    (holdp : ∀ k, old = some (true, k) → s.p.testBit k = true) :
    ∃ E', E'.w = (E.w.drew.alloc (.cells (olds.toArray ++ news.toArray ++ Z.toArray) e)) ∧ E.le E' ∧ WI P B X w0 S0 E' s' ∧
      VR P E' (.slice (some ⟨E.w.heap.size, 0, none⟩) (rows.length + new.length) cap) (.own true d e (rows ++ new)) := by
  have hnew : (E.w.drew.alloc (.cells (olds.toArray ++ news.toArray ++ Z.toArray) e)).heap[E.w.heap.size]? = some (.cells (olds.toArray ++ news.toArray ++ Z.toArray) e (0, 0)) := heap_alloc_new E.w.drew _
  have hlen : (olds ++ news).length = (rows.length + new.length) * P.cellsOf e := by rw [List.length_append, hlo, hln, Nat.add_mul]
  have hg : Grows E (E.w.drew.alloc (.cells (olds.toArray ++ news.toArray ++ Z.toArray) e)) none :=
    ⟨rfl, rfl, rfl, by simp, fun k hk _ => heap_alloc_old E.w.drew _ k hk, fun b o u hs hc => by
      rw [World.cell_of_block (heap_alloc_old E.w.drew _ b (h.slt b o hs))]; exact hc⟩
  have hS1 : ∀ b o, E.S b o → (fun b o => E.S b o ∨ (b = E.w.heap.size ∧ o < (rows.length + new.length) * P.cellsOf e)) b o := fun b o hs => .inl hs
  have hown : OwnBlk P (E.w.drew.alloc (.cells (olds.toArray ++ news.toArray ++ Z.toArray) e)) (fun b o => E.S b o ∨ (b = E.w.heap.size ∧ o < (rows.length + new.length) * P.cellsOf e)) B
      (.slice (some ⟨E.w.heap.size, 0, none⟩) (rows.length + new.length) cap) e := by
    refine ⟨_, _, _, _, _, rfl, h.hB, hnew, Nat.le_of_eq (Eq.symm ?_), hcap, hmax, ?_⟩
    · simp only [Array.size_append, List.size_toArray, hZ, hlo, hln]
      rw [← Nat.add_mul, ← Nat.add_mul]
      congr 1
      omega
    · intro o ho
      rcases ho with ho | ho
      · exact absurd (h.slt _ _ ho) (Nat.lt_irrefl _)
      · exact ho.2
  refine ⟨envApp E _ (fun b o => E.S b o ∨ (b = E.w.heap.size ∧ o < (rows.length + new.length) * P.cellsOf e)) old (some d) (.reg (.slice (some ⟨E.w.heap.size, 0, none⟩) (rows.length + new.length) cap) e), rfl,
    envApp_le h hg hS1 (fun k hk => by cases hk; exact hid), ?_, ?_⟩
  · refine wi_app h hg (fun g hg => by cases hg) hS1 ?_ ?_ (.inr ⟨_, _, rfl, hown, _, rfl, .inl (Nat.le_refl _)⟩) (fun k hk => by cases hk; exact hid) hm hp hxn hxo holdp
    · intro b o hb
      rcases hb with hb | hb
      · exact .inl hb
      · exact .inr (.inl (by omega))
    · intro b o hb
      rcases hb with hb | hb
      · have := h.slt b o hb; simp; omega
      · simp; omega
  · refine .own _ _ _ _ _ ?_ (.inr (.inr (by simp [envApp])))
    have hle := envApp_le (old := old) (id := some d) (st := (.reg (.slice (some ⟨E.w.heap.size, 0, none⟩) (rows.length + new.length) cap) e)) h hg hS1 (fun k hk => by cases hk; exact hid)
    refine Rd.mk (L := olds ++ news) (by simp) hcap hsz hlen ?_ ?_
    · intro q v hq
      have hlt := (List.getElem?_eq_some_iff.1 hq).1
      refine ⟨(cell_of_row _ _ q _ _ _ hnew).trans ?_, .inr ⟨rfl, by rw [hlen] at hlt; exact hlt⟩⟩
      rw [Array.getElem?_append_left (by simpa using hlt)]
      simpa using hq
    · intro i j r c v hi hj hv
      have hjl : j < P.cellsOf e := by rw [← hsz r (List.mem_of_getElem? hi)]; exact (List.getElem?_eq_some_iff.1 hj).1
      refine Rd.mono hle.cell hle.S ?_
      rw [List.getElem?_append] at hi hv
      by_cases h1 : i < rows.length
      · rw [if_pos h1] at hi
        have h3 : (i + 1) * P.cellsOf e ≤ rows.length * P.cellsOf e := Nat.mul_le_mul_right _ h1
        rw [Nat.add_mul, Nat.one_mul] at h3
        rw [if_pos (by rw [hlo]; omega)] at hv
        exact hro i j r c v hi hj hv
      · rw [if_neg h1] at hi
        have h3 : rows.length * P.cellsOf e ≤ i * P.cellsOf e := Nat.mul_le_mul_right _ (by omega)
        rw [if_neg (by rw [hlo]; omega), hlo] at hv
        refine hrn (i - rows.length) j r c v hi hj ?_
        rw [Nat.sub_mul, ← Nat.sub_add_comm h3]
        exact hv

/-- What an append leaves where there was room. -/
theorem room_env (h : WI P B X w0 S0 E s) {e : TypeId} {rows new : List (List C)} {news : List Value} {g cap d k : Nat} {nw : Bool} {cur : Array Value} {e' : TypeId} {s' : RSt}
    (hsz : ∀ r ∈ rows ++ new, r.length = P.cellsOf e) (hln : news.length = new.length * P.cellsOf e)
    (hreg : E.ow nw k = .reg (.slice (some ⟨g, 0, none⟩) rows.length cap) e) (hh : E.w.heap[g]? = some (.cells cur e' (0, 0))) (hcap : rows.length + new.length ≤ cap)
    (hrd : Rd P E.w E.S (.slice (some ⟨g, 0, none⟩) rows.length cap) (.sl e rows))
    (hrn : ∀ (i j : Nat) (r : List C) (c : C) (v : Value), new[i]? = some r → r[j]? = some c → news[i * P.cellsOf e + j]? = some v → Rd P E.w E.S v c)
    (hid : s.p.testBit d = false) (hm : s'.m = s.m) (hp : ∀ i, s.p.testBit i = true ∨ some d = some i → s'.p.testBit i = true)
    (hxn : ∀ i, s.xn.testBit i = true ∨ some (nw, k) = some (true, i) → s'.xn.testBit i = true) (hxo : ∀ i, s.xo.testBit i = true ∨ some (nw, k) = some (false, i) → s'.xo.testBit i = true) :
    ∃ E', E'.w = E.w.setRow g (cur.toList.take (rows.length * P.cellsOf e) ++ news ++ cur.toList.drop (rows.length * P.cellsOf e + news.length)).toArray ∧ E.le E' ∧ WI P B X w0 S0 E' s' ∧
      VR P E' (.slice (some ⟨g, 0, none⟩) (rows.length + new.length) cap) (.own true d e (rows ++ new)) := by
  obtain ⟨⟨g', n', cap', cur', e2, hv', hB, hh', hcs, hnc, hmax, hfr⟩, hl⟩ := h.own _ _ _ _ hreg
  cases hv'
  rw [hh] at hh'
  cases hh'
  have hglt : g < E.w.heap.size := (Array.getElem?_eq_some_iff.1 hh).1
  have hnc1 : (rows.length + new.length) * P.cellsOf e ≤ cap * P.cellsOf e := Nat.mul_le_mul_right _ hcap
  rw [Nat.add_mul] at hnc1
  generalize hC : (cur.toList.take (rows.length * P.cellsOf e) ++ news ++ cur.toList.drop (rows.length * P.cellsOf e + news.length)) = cs
  have hcslen : cs.length = cur.size := by
    rw [← hC]
    simp only [List.length_append, List.length_take, List.length_drop, Array.length_toList, hln]
    omega
  have hnew : (E.w.setRow g cs.toArray).heap[g]? = some (.cells cs.toArray e' (0, 0)) := setRow_heap E.w g cur _ e' (0, 0) hh
  have htl : (cur.toList.take (rows.length * P.cellsOf e)).length = rows.length * P.cellsOf e := by
    have h1 : cap * P.cellsOf e ≤ cur.toList.length := by simpa using hcs
    rw [List.length_take]; omega
  have hlow : ∀ q, q < rows.length * P.cellsOf e → cs[q]? = cur[q]? := by
    intro q hq
    rw [← hC, List.append_assoc, List.getElem?_append, if_pos (by rw [htl]; exact hq), List.getElem?_take, if_pos hq]
    simp
  have hmid : ∀ q, q < news.length → cs[rows.length * P.cellsOf e + q]? = news[q]? := by
    intro q hq
    rw [← hC, List.append_assoc, List.getElem?_append, if_neg (by rw [htl]; omega), htl, List.getElem?_append, if_pos (by omega)]
    congr 1
    omega
  have hg : Grows E (E.w.setRow g cs.toArray) (some g) := by
    refine ⟨rfl, rfl, rfl, by simp [World.setRow], fun i hi hne => setRow_other E.w g i _ (fun hig => hne (by rw [hig])), ?_⟩
    intro b o u hs hc
    by_cases hb : b = g
    · subst hb
      rw [cell_of_row _ _ _ _ _ _ hnew]
      rw [cell_of_row _ _ _ _ _ _ hh] at hc
      have := hlow o (hfr o hs)
      simp only [List.getElem?_toArray, this]
      exact hc
    · rw [World.cell_of_block (setRow_other E.w g b _ hb)]
      exact hc
  have hS1 : ∀ b o, E.S b o → (fun b o => E.S b o ∨ (b = g ∧ o < (rows.length + new.length) * P.cellsOf e)) b o := fun b o hs => .inl hs
  have hidd : ∀ i, some d = some i → s.p.testBit i = false := fun i hi => by cases hi; exact hid
  have hown : OwnBlk P (E.w.setRow g cs.toArray) (fun b o => E.S b o ∨ (b = g ∧ o < (rows.length + new.length) * P.cellsOf e)) B (.slice (some ⟨g, 0, none⟩) (rows.length + new.length) cap) e := by
    refine ⟨_, _, _, _, _, rfl, hB, hnew, by simpa [hcslen] using hcs, hcap, hmax, ?_⟩
    intro o ho
    rcases ho with ho | ho
    · have := hfr o ho
      rw [Nat.add_mul]
      omega
    · exact ho.2
  have hle := envApp_le (old := some (nw, k)) (id := some d) (st := (.reg (.slice (some ⟨g, 0, none⟩) (rows.length + new.length) cap) e)) h hg hS1 hidd
  refine ⟨_, rfl, hle, ?_, ?_⟩
  · refine wi_app h hg ?_ hS1 ?_ ?_ (.inr ⟨_, _, rfl, hown, _, rfl, .inr rfl⟩) hidd hm hp hxn hxo ?_
    · intro g' hg'
      cases hg'
      exact ⟨hB, nw, k, _, _, rfl, hreg, rfl⟩
    · intro b o hb
      rcases hb with hb | hb
      · exact .inl hb
      · exact .inr (.inr (by rw [hb.1]))
    · intro b o hb
      rcases hb with hb | hb
      · exact Nat.lt_of_lt_of_le (h.slt b o hb) hg.size
      · rw [hb.1]; exact Nat.lt_of_lt_of_le hglt hg.size
    · intro i hi
      cases hi
      exact h.new _ (by rw [hreg]; simp)
  · refine .own _ _ _ _ _ ?_ (.inr (.inr (by simp [envApp])))
    refine Rd.mk (L := cs.take ((rows.length + new.length) * P.cellsOf e)) (by simp) hcap hsz (by rw [List.length_take, hcslen, Nat.min_eq_left (Nat.le_trans (Nat.mul_le_mul_right _ hcap) hcs)]) ?_ ?_
    · intro q v hq
      rw [List.getElem?_take] at hq
      split at hq
      · rename_i hlt
        refine ⟨(cell_of_row _ _ q _ _ _ hnew).trans ?_, .inr ⟨rfl, hlt⟩⟩
        simpa using hq
      · cases hq
    · intro i j r c v hi hj hv
      have hjl : j < P.cellsOf e := by rw [← hsz r (List.mem_of_getElem? hi)]; exact (List.getElem?_eq_some_iff.1 hj).1
      refine Rd.mono hle.cell hle.S ?_
      rw [List.getElem?_take] at hv
      split at hv
      · rw [List.getElem?_append] at hi
        by_cases h1 : i < rows.length
        · rw [if_pos h1] at hi
          have h3 : (i + 1) * P.cellsOf e ≤ rows.length * P.cellsOf e := Nat.mul_le_mul_right _ h1
          rw [Nat.add_mul, Nat.one_mul] at h3
          rw [hlow _ (by omega)] at hv
          obtain ⟨b, off, cap2, vs, he, _, _, hcell⟩ := hrd.cells (by intro hc; rw [hc] at h1; simp at h1)
          cases he
          have := hcell i j h1 hjl
          rw [cell_of_row _ _ _ _ _ _ hh, Nat.zero_add, hv] at this
          obtain ⟨⟨h4, _⟩, h5⟩ := this
          cases h4
          exact h5 r c hi hj
        · rw [if_neg h1] at hi
          have h2 : i - rows.length < new.length := (List.getElem?_eq_some_iff.1 hi).1
          have h3 : rows.length * P.cellsOf e ≤ i * P.cellsOf e := Nat.mul_le_mul_right _ (by omega)
          have h4 : (i - rows.length + 1) * P.cellsOf e ≤ new.length * P.cellsOf e := Nat.mul_le_mul_right _ h2
          rw [Nat.add_mul, Nat.one_mul, Nat.sub_mul] at h4
          have h5 := hmid ((i - rows.length) * P.cellsOf e + j) (by rw [hln, Nat.sub_mul]; omega)
          rw [show rows.length * P.cellsOf e + ((i - rows.length) * P.cellsOf e + j) = i * P.cellsOf e + j by rw [Nat.sub_mul]; omega, hv] at h5
          exact hrn (i - rows.length) j r c v hi hj h5.symm
      · cases hv
end

end Go.Rb
