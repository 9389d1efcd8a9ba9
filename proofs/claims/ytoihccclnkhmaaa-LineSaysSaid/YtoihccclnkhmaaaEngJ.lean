/-
  What is proved: every operation that the state of an activation speaks of does to memory what the state says. Conditions: none.
-/
import Derived.Test.YtoihccclnkhmaaaEngI
set_option linter.unusedVariables false
set_option linter.unusedSimpArgs false
set_option maxRecDepth 4000
namespace Go.Rb

theorem fill_size {pl : Nat → Option (Nat × Nat)} : ∀ (vs : List (Nat × Value)) (cs cs' : Array Value), Instr.fill pl cs vs = some cs' → cs'.size = cs.size
  | [], cs, cs', h => by simp [Instr.fill] at h; rw [h]
  | (i, v) :: vs, cs, cs', h => by
    cases hp : pl i with
    | none => simp [Instr.fill, hp] at h
    | some p =>
      obtain ⟨off, size⟩ := p
      by_cases hc : v.cells.size = size ∧ off + v.cells.size ≤ cs.size
      · rw [fill_cons pl cs i v vs hp hc.1 hc.2] at h
        rw [fill_size vs _ cs' h, putCells_size]
      · rw [Instr.fill] at h
        simp only [hp] at h
        have : (decide (v.cells.size ≠ size) || decide (off + v.cells.size > cs.size)) = true := by
          simp only [ne_eq, Bool.or_eq_true, decide_eq_true_eq]; omega
        rw [this] at h
        simp at h

/-- Cells that read as rows. -/
theorem toCs_get (ty : Nat → TypeId) : ∀ (xs : List AV) (j : Nat) (cs : List C), toCs ty j xs = some cs → cs.length = xs.length ∧ ∀ (i : Nat) (c : C), cs[i]? = some c → ∃ x, xs[i]? = some x ∧ x.toC (ty (j + i)) = some c
  | [], j, cs, h => by simp [toCs] at h; subst h; simp
  | x :: xs, j, cs, h => by
    rw [toCs] at h
    split at h
    · rename_i c cs' hc hcs
      cases h
      obtain ⟨h1, h2⟩ := toCs_get ty xs (j + 1) cs' hcs
      refine ⟨by simp [h1], fun i c' hi => ?_⟩
      cases i with
      | zero => simp at hi; subst hi; exact ⟨x, rfl, hc⟩
      | succ i =>
        rw [List.getElem?_cons_succ] at hi
        obtain ⟨x', hx, hxc⟩ := h2 i c' hi
        exact ⟨x', by rw [List.getElem?_cons_succ]; exact hx, by rw [show j + (i + 1) = j + 1 + i from by omega]; exact hxc⟩
    · cases h

theorem toRows_get (ty : Nat → TypeId) (sz : Nat) : ∀ (n : Nat) (z : List AV) (rows : List (List C)), z.length = n * sz → toRows ty sz n z = some rows →
    rows.length = n ∧ (∀ r ∈ rows, r.length = sz) ∧ ∀ (i j : Nat) (r : List C) (c : C), rows[i]? = some r → r[j]? = some c → ∃ x, z[i * sz + j]? = some x ∧ x.toC (ty j) = some c
  | 0, z, rows, _, h => by simp [toRows] at h; subst h; simp
  | n + 1, z, rows, hl, h => by
    rw [toRows] at h
    rw [Nat.add_mul, Nat.one_mul] at hl
    split at h
    · rename_i r rs hr hrs
      cases h
      obtain ⟨h1, h2⟩ := toCs_get ty _ 0 r hr
      obtain ⟨h3, h4, h5⟩ := toRows_get ty sz n (z.drop sz) rs (by rw [List.length_drop]; omega) hrs
      have h6 : r.length = sz := by rw [h1, List.length_take]; omega
      refine ⟨by simp [h3], ?_, ?_⟩
      · intro r' hr'
        rcases List.mem_cons.1 hr' with rfl | h7
        · exact h6
        · exact h4 r' h7
      · intro i j r' c hi hj
        cases i with
        | zero =>
          simp at hi
          subst hi
          obtain ⟨x, hx, hxc⟩ := h2 j c hj
          rw [List.getElem?_take] at hx
          split at hx
          · exact ⟨x, by rw [Nat.zero_mul, Nat.zero_add]; exact hx, by rw [Nat.zero_add] at hxc; exact hxc⟩
          · cases hx
        | succ i =>
          rw [List.getElem?_cons_succ] at hi
          obtain ⟨x, hx, hxc⟩ := h5 i j r' c hi hj
          rw [List.getElem?_drop] at hx
          exact ⟨x, by rw [Nat.add_mul, Nat.one_mul, show i * sz + sz + j = sz + (i * sz + j) from by omega]; exact hx, hxc⟩
    · cases h

section
variable {P : Program} {B : Nat} {X : Nat → Prop} {w0 : World} {S0 : Nat → Nat → Prop} {E : Env} {s : RSt}

theorem buildSlice_sound (h : WI P B X w0 S0 E s) {t : TypeId} {n : Nat} {ps : List (Nat × AV)} {vs : Array (Nat × Value)} {rows : List (List C)} (hl : ps.length = vs.size)
    (hr : ∀ (i : Nat) (p : Nat × AV) (q : Nat × Value), ps[i]? = some p → vs[i]? = some q → p.1 = q.1 ∧ VR P E q.2 p.2) (hy : ybs P t n ps = some rows) :
    ∃ v' E', (Instr.buildSlice t n vs).run P E.w = .ok v' E'.w ∧ E.le E' ∧ WI P B X w0 S0 E' s ∧ VR P E' v' (.own false 0 (elemT P t) rows) := by
  unfold ybs at hy
  split at hy
  · rename_i e hu
    split at hy
    · rename_i hc
      obtain ⟨hz, hz0, hlim⟩ := hc
      obtain ⟨i, z, hi, hiz, hzs, hz1⟩ := zc_info hz
      have hsz : ∀ w, (sizeOf e).run P w = .ok (P.cellsOf e) w := run_sizeOf (by rw [hi]; rfl)
      split at hy
      · rename_i z' hf
        generalize hZ : (Array.range (n * P.cellsOf e)).map (z.cells[· % z.cells.size]!) = Z
        have hZs : Z.size = n * P.cellsOf e := by rw [← hZ]; simp
        have hZ1 : ∀ v ∈ Z, v.oneCell' = true := by
          rw [← hZ]
          intro v hv
          simp only [Array.mem_map, Array.mem_range] at hv
          obtain ⟨q, _, rfl⟩ := hv
          have : q % z.cells.size < z.cells.size := Nat.mod_lt _ (by omega)
          rw [getElem!_pos z.cells _ this]
          exact hz1 _ (Array.getElem_mem this)
        have hcr : CellsR P E Z (List.replicate (n * P.cellsOf e) .any) :=
          ⟨by simp [hZs], fun i v x hv hx => by
            rw [List.getElem?_replicate] at hx
            split at hx
            · cases hx; exact ⟨.any _, hZ1 v (Array.mem_of_getElem? hv)⟩
            · cases hx⟩
        obtain ⟨cs, hfill, hcs⟩ := yfill_sound ps vs.toList _ Z z' hcr (by simpa using hl) (fun i p q hp hq => hr i p q hp (by simpa using hq)) hf
        have hz'l : z'.length = n * P.cellsOf e := by
          rw [← hcs.1]
          rw [fill_size _ _ _ hfill, hZs]
        obtain ⟨h1, h2, h3⟩ := toRows_get _ _ n z' rows hz'l hy
        have hrun : (Instr.buildSlice t n vs).run P E.w = .ok (.slice (some ⟨E.w.heap.size, 0, none⟩) n n) (E.w.alloc (.cells cs e)) := by
          have hlim' : ¬ (n * P.cellsOf e > 2 ^ 24) := by omega
          by_cases h0 : n * P.cellsOf e = 0
          · have hZ0 : (Array.range (n * P.cellsOf e)).map ((#[] : Array Value)[· % (#[] : Array Value).size]!) = Z := by rw [← hZ, h0]; simp
            simp only [Instr.buildSlice, Sem.run_bind, run_underlying hu, Result.andThen_ok, hsz, hlim', if_false, if_pos h0, hZ0, hfill, newRow, newObj, Sem.run_pure]
            rfl
          · have hzero : (zeroValue e).run P E.w = .ok z E.w := by simp [zeroValue, typeInfo, hi, hiz]
            simp only [Instr.buildSlice, Sem.run_bind, run_underlying hu, Result.andThen_ok, hsz, hlim', if_false, if_neg h0, hzero, hZ, hfill, newRow, newObj, Sem.run_pure]
            rfl
        have hnew : (E.w.alloc (.cells cs e)).heap[E.w.heap.size]? = some (.cells cs e (0, 0)) := heap_alloc_new E.w _
        have hg : Grows E (E.w.alloc (.cells cs e)) none := ⟨rfl, rfl, rfl, by simp, fun k hk _ => heap_alloc_old E.w _ k hk, fun b o u hs hc => by
          rw [World.cell_of_block (heap_alloc_old E.w _ b (h.slt b o hs))]; exact hc⟩
        have hS1 : ∀ b o, E.S b o → (fun b o => E.S b o ∨ (b = E.w.heap.size ∧ o < n * P.cellsOf e)) b o := fun b o hs => .inl hs
        have hle := envApp_le (old := none) (id := none) (st := .none) h hg hS1 (fun d hd => by cases hd)
        refine ⟨_, envApp E (E.w.alloc (.cells cs e)) (fun b o => E.S b o ∨ (b = E.w.heap.size ∧ o < n * P.cellsOf e)) none none .none, hrun, hle, ?_, ?_⟩
        · refine wi_app h hg (fun g hg => by cases hg) hS1 ?_ ?_ (.inl rfl) (fun d hd => by cases hd) rfl (fun k hk => by rcases hk with hk | hk; exact hk; cases hk)
            (fun k hk => by rcases hk with hk | hk; exact hk; cases hk) (fun k hk => by rcases hk with hk | hk; exact hk; cases hk) (fun k hk => by cases hk)
          · intro b o hb
            rcases hb with hb | hb
            · exact .inl hb
            · exact .inr (.inl (by omega))
          · intro b o hb
            rcases hb with hb | hb
            · have := h.slt b o hb; simp; omega
            · simp; omega
        · have he : elemT P t = e := by simp [elemT, hu]
          rw [he]
          have hcsl : cs.size = n * P.cellsOf e := by rw [hcs.1, hz'l]
          refine .own _ _ _ _ _ (Rd.mk (L := cs.toList) h1.symm (Nat.le_refl _) h2 (by simpa using hcsl) ?_ ?_) (.inl ⟨_, _, rfl⟩)
          · intro q v hq
            have hlt := (List.getElem?_eq_some_iff.1 hq).1
            refine ⟨(cell_of_row _ _ q _ _ _ hnew).trans (by simpa using hq), .inr ⟨rfl, by simpa [hcsl] using hlt⟩⟩
          · intro i j r c v hi hj hv
            obtain ⟨x, hx, hxc⟩ := h3 i j r c hi hj
            exact ((hcs.2 _ v x (by simpa using hv) hx).1.mono hle).toC hxc
      · cases hy
    · cases hy
  · cases hy
end

end Go.Rb
