/-
  What is proved: an operation that only reads hands back a value that reads as a plain function on data says. Conditions: none.
-/
import Derived.Test.YtoihccclnkhmaaaEngD
set_option linter.unusedVariables false
set_option linter.unusedSimpArgs false
set_option maxRecDepth 4000
namespace Go.Rb

theorem ymm_sound {P : Program} {E : Env} {mn : Bool} {ts : Array TypeId} {ty : TypeId} {x y v : AV} {a b : Value} (hx : VR P E a x) (hy : VR P E b y) (h : ymm mn x y = some v) :
    ∃ u, (if mn = true then Builtin.min_ ts ty #[a, b] else Builtin.max_ ts ty #[a, b]).run P E.w = .ok u E.w ∧ VR P E u v := by
  unfold ymm at h
  split at h
  · have ha := vr_int hx
    have hb := vr_int hy
    subst ha hb
    cases h
    cases mn
    · exact ⟨.int _ _, by simp [Builtin.max_, Builtin.max2], .c _ _ (.int _ _)⟩
    · exact ⟨.int _ _, by simp [Builtin.min_, Builtin.min2], .c _ _ (.int _ _)⟩
  · cases h

/-- Cells of a value and what is known of them. -/
def CellsR (P : Program) (E : Env) (cs : Array Value) (xs : List AV) : Prop :=
  cs.size = xs.length ∧ ∀ (i : Nat) (v : Value) (x : AV), cs[i]? = some v → xs[i]? = some x → VR P E v x ∧ v.oneCell' = true

theorem VR.cells {P : Program} {E : Env} {v : Value} {x : AV} {xs : List AV} (h : VR P E v x) (hx : x.cells = some xs) : CellsR P E v.cells xs := by
  have one : ∀ (v : Value) (x : AV), VR P E v x → v.oneCell' = true → CellsR P E v.cells [x] := by
    intro v x hv h1
    have hc : v.cells = #[v] := by cases v <;> first | rfl | (simp [Value.oneCell'] at h1)
    rw [hc]
    refine ⟨rfl, fun i u y hu hy => ?_⟩
    cases i with
    | zero => simp at hu hy; subst hu hy; exact ⟨hv, h1⟩
    | succ i => simp at hy
  cases h with
  | agg vs xs' hn h1 h => simp [AV.cells] at hx; subst hx; exact ⟨hn, fun i v x hv hx => ⟨h i v x hv hx, h1 i v hv⟩⟩
  | tup => simp [AV.cells] at hx
  | und => simp [AV.cells] at hx
  | any => simp [AV.cells] at hx
  | c v x h => simp [AV.cells] at hx; subst hx; exact one _ _ (.c _ _ h) h.oneCell
  | nils => simp [AV.cells] at hx; subst hx; exact one _ _ .nils rfl
  | own v nw id e rows h ho => simp [AV.cells] at hx; subst hx; exact one _ _ (.own _ _ _ _ _ h ho) h.oneCell
  | arr l off len cap c e h hc hl hs hm => simp [AV.cells] at hx; subst hx; exact one _ _ (.arr _ _ _ _ _ _ h hc hl hs hm) rfl
  | arr0 l off a e => simp [AV.cells] at hx; subst hx; exact one _ _ (.arr0 _ _ _ _) rfl
  | ptr l off h => simp [AV.cells] at hx; subst hx; exact one _ _ (.ptr _ _ h) rfl
  | el b o xs' vs h => simp [AV.cells] at hx; subst hx; exact one _ _ (.el _ _ _ _ h) rfl
  | fn f cs caps hn h => simp [AV.cells] at hx; subst hx; exact one _ _ (.fn _ _ _ hn h) rfl

theorem CellsR.agg {P : Program} {E : Env} {cs : Array Value} {xs : List AV} (h : CellsR P E cs xs) : VR P E (.agg cs) (.agg xs) := by
  refine .agg _ _ h.1 (fun i v hv => ?_) (fun i v x hv hx => (h.2 i v x hv hx).1)
  have hi : i < xs.length := by rw [← h.1]; exact (Array.getElem?_eq_some_iff.1 hv).1
  exact (h.2 i v _ hv (List.getElem?_eq_getElem hi)).2

/-- Cells written one by one. -/
def putCells (cs : Array Value) (off : Nat) : List Value → Nat → Array Value
  | [], _ => cs
  | v :: rest, j => putCells (cs.setIfInBounds (off + j) v) off rest (j + 1)

theorem putCells_size (off : Nat) : ∀ (l : List Value) (j : Nat) (cs : Array Value), (putCells cs off l j).size = cs.size
  | [], _, _ => rfl
  | v :: rest, j, cs => by simp [putCells, putCells_size off rest]

theorem putCells_get (off : Nat) : ∀ (l : List Value) (j : Nat) (cs : Array Value) (k : Nat), off + j + l.length ≤ cs.size →
    (putCells cs off l j)[k]? = if off + j ≤ k ∧ k < off + j + l.length then l[k - (off + j)]? else cs[k]?
  | [], j, cs, k, _ => by simp [putCells]; omega
  | v :: rest, j, cs, k, h => by
    simp only [List.length_cons] at h
    rw [putCells, putCells_get off rest (j + 1) _ k (by simp; omega)]
    simp only [List.length_cons]
    by_cases h1 : off + (j + 1) ≤ k ∧ k < off + (j + 1) + rest.length
    · rw [if_pos h1, if_pos (by omega), show k - (off + j) = (k - (off + (j + 1))) + 1 from by omega, List.getElem?_cons_succ]
    · rw [if_neg h1]
      by_cases h2 : k = off + j
      · subst h2
        rw [if_pos (by omega), Nat.sub_self, Array.getElem?_setIfInBounds_self_of_lt (by omega)]
        rfl
      · rw [if_neg (by omega), Array.getElem?_setIfInBounds_ne (by omega)]

theorem foldl_put (off : Nat) : ∀ (l : List Value) (j : Nat) (cs : Array Value), (l.zipIdx j).foldl (fun cs (p : Value × Nat) => cs.setIfInBounds (off + p.2) p.1) cs = putCells cs off l j
  | [], _, _ => rfl
  | v :: rest, j, cs => by simp only [List.zipIdx_cons, List.foldl_cons, foldl_put off rest, putCells]

theorem fill_cons (pl : Nat → Option (Nat × Nat)) (cs : Array Value) (i : Nat) (v : Value) (rest : List (Nat × Value)) {off size : Nat} (hp : pl i = some (off, size)) (hs : v.cells.size = size)
    (hf : off + v.cells.size ≤ cs.size) : Instr.fill pl cs ((i, v) :: rest) = Instr.fill pl (putCells cs off v.cells.toList 0) rest := by
  rw [Instr.fill]
  simp only [hp]
  have hc : (decide (v.cells.size ≠ size) || decide (off + v.cells.size > cs.size)) = false := by
    simp only [hs, ne_eq, not_true_eq_false, decide_false, Bool.false_or, decide_eq_false_iff_not]; omega
  rw [hc]
  simp only [Bool.false_eq_true, if_false]
  rw [← Array.foldl_toList, Array.toList_zipIdx]
  congr 1
  exact foldl_put off v.cells.toList 0 cs

theorem place_get (z cs : List AV) (off k : Nat) (h : off + cs.length ≤ z.length) : (place z off cs)[k]? = if off ≤ k ∧ k < off + cs.length then cs[k - off]? else z[k]? := by
  unfold place
  have hl : (z.take off).length = off := by simp; omega
  rw [List.append_assoc, List.getElem?_append, hl]
  by_cases h1 : k < off
  · rw [if_pos h1, if_neg (by omega), List.getElem?_take, if_pos h1]
  · rw [if_neg h1, List.getElem?_append]
    by_cases h2 : k - off < cs.length
    · rw [if_pos h2, if_pos (by omega)]
    · rw [if_neg h2, if_neg (by omega), List.getElem?_drop]
      congr 1
      omega

theorem place_length (z cs : List AV) (off : Nat) (h : off + cs.length ≤ z.length) : (place z off cs).length = z.length := by
  simp [place]; omega

theorem putCells_rel {P : Program} {E : Env} {cs : Array Value} {z : List AV} {ws : Array Value} {ys : List AV} {off : Nat} (h : CellsR P E cs z) (k : CellsR P E ws ys) (hf : off + ys.length ≤ z.length) :
    CellsR P E (putCells cs off ws.toList 0) (place z off ys) := by
  refine ⟨by rw [putCells_size, place_length _ _ _ hf, h.1], fun i v x hv hx => ?_⟩
  rw [place_get _ _ _ _ hf] at hx
  rw [putCells_get _ _ _ _ _ (by simp [k.1, h.1]; omega)] at hv
  simp only [Nat.add_zero, Array.length_toList, k.1] at hv
  split at hv
  · rename_i hc
    rw [if_pos hc] at hx
    exact k.2 _ _ _ (by simpa using hv) hx
  · rename_i hc
    rw [if_neg hc] at hx
    exact h.2 _ _ _ hv hx

theorem yfill_sound {P : Program} {E : Env} {pl : Nat → Option (Nat × Nat)} : ∀ (ps : List (Nat × AV)) (vs : List (Nat × Value)) (z : List AV) (cs : Array Value) (z' : List AV),
    CellsR P E cs z → ps.length = vs.length → (∀ (i : Nat) (p : Nat × AV) (q : Nat × Value), ps[i]? = some p → vs[i]? = some q → p.1 = q.1 ∧ VR P E q.2 p.2) → yfill pl z ps = some z' →
    ∃ cs', Instr.fill pl cs vs = some cs' ∧ CellsR P E cs' z'
  | [], [], z, cs, z', h, _, _, hy => by simp [yfill] at hy; subst hy; exact ⟨cs, rfl, h⟩
  | (i, x) :: ps, (i', v) :: vs, z, cs, z', h, hl, hr, hy => by
    obtain ⟨hi, hv⟩ := hr 0 _ _ rfl rfl
    simp only at hi hv
    subst hi
    rw [yfill] at hy
    split at hy
    · rename_i off size xs hp hx
      split at hy
      · rename_i hc
        have hcs := hv.cells hx
        rw [fill_cons pl cs i v vs hp (by rw [hcs.1]; exact hc.1) (by rw [hcs.1, h.1]; exact hc.2)]
        exact yfill_sound ps vs _ _ z' (putCells_rel h hcs hc.2) (by simpa using hl) (fun j p q hp hq => hr (j + 1) p q hp hq) hy
      · cases hy
    · cases hy
  | [], _ :: _, _, _, _, _, hl, _, _ => by simp at hl
  | _ :: _, [], _, _, _, _, hl, _, _ => by simp at hl

theorem run_zeroValue {P : Program} {t : TypeId} {z : List AV} (E : Env) (h : zc P t = some z) : ∃ v, (zeroValue t).run P E.w = .ok v E.w ∧ CellsR P E v.cells z := by
  unfold zc at h
  split at h
  · rename_i i hi
    split at h
    · rename_i v hv
      split at h
      · rename_i ha
        cases h
        simp only [Array.all_eq_true_iff_forall_mem] at ha
        refine ⟨v, by simp [zeroValue, typeInfo, hi, hv], by simp, fun j u x hu hx => ⟨vr_cells1 P E _ j u x hu hx, ha u (Array.mem_of_getElem? hu)⟩⟩
      · cases h
    · cases h
  · cases h

theorem run_places {P : Program} (w : World) : ∀ (fs : List Field), fs.all (fun f => (P.info? f.type).isSome) = true →
    (fs.mapM (fun (f : Field) => (do pure (f.offset, ← sizeOf f.type) : Sem (Nat × Nat)))).run P w = .ok (fs.map fun f => (f.offset, P.cellsOf f.type)) w
  | [], _ => rfl
  | f :: fs, h => by
    simp only [List.all_cons, Bool.and_eq_true] at h
    simp only [List.mapM_cons, Sem.run_bind, run_sizeOf h.1, Result.andThen_ok, Sem.run_pure, run_places w fs h.2, List.map_cons]

theorem ybuild_sound {P : Program} {E : Env} {t : TypeId} {ps : List (Nat × AV)} {vs : Array (Nat × Value)} {v : AV} (hl : ps.length = vs.size)
    (hr : ∀ (i : Nat) (p : Nat × AV) (q : Nat × Value), ps[i]? = some p → vs[i]? = some q → p.1 = q.1 ∧ VR P E q.2 p.2) (h : ybuild P t ps = some v) :
    ∃ u, (Instr.build t vs).run P E.w = .ok u E.w ∧ VR P E u v := by
  unfold ybuild at h
  split at h
  · rename_i fs hu
    split at h
    · rename_i hall
      split at h
      · rename_i z hz
        cases hy : yfill (fun i => (fs[i]?).map fun f => (f.offset, P.cellsOf f.type)) z ps with
        | none => simp [hy] at h
        | some z' =>
          simp [hy] at h
          subst h
          obtain ⟨zv, hzr, hzc⟩ := run_zeroValue E hz
          obtain ⟨cs', hf, hc⟩ := yfill_sound ps vs.toList z zv.cells z' hzc (by simpa using hl) (fun i p q hp hq => hr i p q hp (by simpa using hq)) hy
          refine ⟨.agg cs', ?_, hc.agg⟩
          have hpl := run_places (P := P) E.w fs.toList (by simpa using hall)
          have hpl' : (fs.mapM (fun (f : Field) => (do pure (f.offset, ← sizeOf f.type) : Sem (Nat × Nat)))).run P E.w = .ok (fs.toList.map fun f => (f.offset, P.cellsOf f.type)).toArray E.w := by
            rw [Array.mapM_eq_mapM_toList]
            rw [Sem.run_map, hpl, Result.andThen_ok]
          have hfun : (fun (i : Nat) => ((fs.toList.map fun (f : Field) => (f.offset, P.cellsOf f.type)).toArray)[i]?) = (fun (i : Nat) => (fs[i]?).map fun (f : Field) => (f.offset, P.cellsOf f.type)) := by
            funext i; simp
          simp only [Instr.build, Sem.run_bind, hzr, Result.andThen_ok, run_underlying hu, hpl', hfun, hf, Sem.run_pure]
      · cases h
    · cases h
  · cases h


theorem vr_opt {P : Program} {E : Env} {a : Act} {ev : Operand → AV} (o : Option Operand) (h : ∀ x ∈ o.toArray, VR P E (a.eval x) (ev x)) :
    (∀ y, o.map ev = some y → ∃ u, o.map a.eval = some u ∧ VR P E u y) ∧ (o.map ev = none → o.map a.eval = none) := by
  cases o with
  | none => exact ⟨fun y hy => by simp at hy, fun _ => rfl⟩
  | some x => exact ⟨fun y hy => by simp at hy; subst hy; exact ⟨_, rfl, h x (by simp)⟩, fun h => by simp at h⟩

theorem run_val {P : Program} {w : World} {s : Sem Value} {u : Value} (h : s.run P w = .ok u w) : (do pure (Next.value (← s)) : Sem Next).run P w = .ok (.value u) w := by
  simp only [Sem.run_bind, h, Result.andThen_ok, Sem.run_pure]

theorem toList1 {α : Type} {a : Array α} {x : α} (h : a.toList = [x]) : a = #[x] := by cases a; simp at h; simp [h]
theorem toList3 {α : Type} {a : Array α} {x y z : α} (h : a.toList = [x, y, z]) : a = #[x, y, z] := by cases a; simp at h; simp [h]
theorem toList2 {α : Type} {a : Array α} {x y : α} (h : a.toList = [x, y]) : a = #[x, y] := by cases a; simp at h; simp [h]

set_option maxHeartbeats 1000000 in
/-- **An operation that only reads hands back what 'yl' says.** -/
theorem yl_sound {P : Program} {E : Env} {m : Nat → List AV} (hm : MemOK P E m) {a : Act} {ev : Operand → AV} {o : Oper} {v : AV} (hev : ∀ x ∈ o.op.operands, VR P E (a.eval x) (ev x))
    (h : yl P ev m o.op = some v) : ∃ u, (execOp a.eval o).run P E.w = .ok (.value u) E.w ∧ VR P E u v := by
  obtain ⟨dst, op, ty, pos, after, guard⟩ := o
  simp only at hev h
  have one : ∀ {s : Sem Value}, (∃ u, s.run P E.w = .ok u E.w ∧ VR P E u v) → ∃ u, (do pure (Next.value (← s)) : Sem Next).run P E.w = .ok (.value u) E.w ∧ VR P E u v :=
    fun ⟨u, hr, hv⟩ => ⟨u, run_val hr, hv⟩
  unfold yl at h
  split at h
  case h_1 x => simp at h; subst h; exact ⟨_, rfl, hev x (by simp [Op.operands])⟩
  case h_2 x => simp at h; subst h; exact ⟨_, rfl, hev x (by simp [Op.operands])⟩
  case h_3 c x y =>
    split at h
    · rename_i t ht
      have hc := hev c (by simp [Op.operands])
      rw [ht] at hc
      have hc' := vr_bool hc
      cases h
      refine ⟨if t = true then a.eval x else a.eval y, ?_, ?_⟩
      · simp only [execOp, Sem.run_bind, hc', asBool, Sem.run_pure, Result.andThen_ok]
      · cases t
        · exact hev y (by simp [Op.operands])
        · exact hev x (by simp [Op.operands])
    · cases h
  case h_4 op T x y yt => exact one (ybin_sound (hev x (by simp [Op.operands])) (hev y (by simp [Op.operands])) h)
  case h_5 op T x => exact one (yun_sound (hev x (by simp [Op.operands])) h)
  case h_6 src dst x =>
    split at h
    · rename_i k k' n hs hd hx
      have hc := hev x (by simp [Op.operands])
      rw [hx] at hc
      have hc' := vr_int hc
      cases h
      refine one ⟨_, ?_, .c _ _ (.int _ _)⟩
      simp only [convert, Sem.run_bind, run_underlying hs, run_underlying hd, Result.andThen_ok, hc', Conv.intToInt, Sem.run_pure]
    · cases h
  case h_7 t x => exact one (yload_sound hm (hev x (by simp [Op.operands])) h)
  case h_8 s x f => exact one (yfield_sound (hev x (by simp [Op.operands])) h)
  case h_9 t x i => exact one (yindex_sound (hev x (by simp [Op.operands])) (hev i (by simp [Op.operands])) h)
  case h_10 x =>
    have hx := hev x (by simp [Op.operands])
    split at h
    · rename_i l off he
      cases h
      rw [he] at hx
      refine ⟨a.eval x, ?_, hx⟩
      generalize hq : a.eval x = q at *
      cases hx
      simp only [execOp, hq, Sem.run_pure]
    · rename_i xs he
      cases h
      rw [he] at hx
      refine ⟨a.eval x, ?_, hx⟩
      generalize hq : a.eval x = q at *
      cases hx
      simp only [execOp, hq, Sem.run_pure]
    · cases h
  case h_11 t i =>
    have hx := hev t (by simp [Op.operands])
    split at h
    · rename_i xs he
      rw [he] at hx
      generalize hq : a.eval t = q at *
      cases hx with
      | tup vs _ hn hr =>
      have hi : i < vs.size := by rw [hn]; exact (List.getElem?_eq_some_iff.1 h).1
      refine one ⟨vs[i], ?_, hr i _ _ (Array.getElem?_eq_getElem hi) h⟩
      simp only [hq, Instr.extract, Array.getElem?_eq_getElem hi, Sem.run_pure]
    · cases h
  case h_12 t ps =>
    refine one (ybuild_sound (by simp) ?_ h)
    intro i p q hp hq
    simp only [List.getElem?_map, Array.getElem?_map, Array.getElem?_toList, Option.map_eq_some_iff] at hp hq
    obtain ⟨r, hr, rfl⟩ := hp
    obtain ⟨r', hr', rfl⟩ := hq
    rw [hr] at hr'
    cases hr'
    exact ⟨rfl, hev _ (by simp only [Op.operands, List.mem_toArray, List.mem_map]; exact ⟨r, by simpa using Array.mem_of_getElem? hr, rfl⟩)⟩
  case h_13 t x lo hi mx =>
    have h1 := vr_opt (P := P) (E := E) (a := a) (ev := ev) lo (fun y hy => hev y (by simp only [Op.operands, Array.mem_append]; exact .inl (.inl (.inr hy))))
    have h2 := vr_opt (P := P) (E := E) (a := a) (ev := ev) hi (fun y hy => hev y (by simp only [Op.operands, Array.mem_append]; exact .inl (.inr hy)))
    have h3 := vr_opt (P := P) (E := E) (a := a) (ev := ev) mx (fun y hy => hev y (by simp only [Op.operands, Array.mem_append]; exact .inr hy))
    exact one (yslice2_sound (hev x (by simp [Op.operands])) h1.1 h1.2 h2.1 h2.2 h3.1 h3.2 h)
  case h_14 c =>
    obtain ⟨callee, args, ts⟩ := c
    unfold ycall at h
    simp only at h
    split at h
    · split at h
      · rename_i x t hx ht
        have ha := toList1 hx
        have hb := toList1 ht
        subst ha hb
        obtain ⟨u, hr, hv⟩ := ylen_sound (ty := ty) (hev x (by simp [Op.operands, Call.operands])) h
        exact ⟨u, by simp [execOp, resolve, invoke, builtin, hr], hv⟩
      · cases h
    · split at h
      · rename_i x t hx ht
        have ha := toList1 hx
        have hb := toList1 ht
        subst ha hb
        obtain ⟨u, hr, hv⟩ := ycap_sound (ty := ty) (hev x (by simp [Op.operands, Call.operands])) h
        exact ⟨u, by simp [execOp, resolve, invoke, builtin, hr], hv⟩
      · cases h
    · split at h
      · rename_i x y hx
        have ha := toList2 hx
        subst ha
        obtain ⟨u, hr, hv⟩ := ymm_sound (ts := ts) (ty := ty) (hev x (by simp [Op.operands, Call.operands])) (hev y (by simp [Op.operands, Call.operands])) h
        simp only [if_true] at hr
        exact ⟨u, by simp [execOp, resolve, invoke, builtin, hr], hv⟩
      · rename_i x y z hx
        have ha := toList3 hx
        subst ha
        have h1 := hev x (by simp [Op.operands, Call.operands])
        have h2 := hev y (by simp [Op.operands, Call.operands])
        have h3 := hev z (by simp [Op.operands, Call.operands])
        unfold ymm3 at h
        split at h
        · rename_i e1 e2 e3
          rw [e1] at h1
          rw [e2] at h2
          rw [e3] at h3
          have g1 := vr_int h1
          have g2 := vr_int h2
          have g3 := vr_int h3
          cases h
          exact ⟨_, by simp [execOp, resolve, invoke, builtin, Builtin.min_, Builtin.min2, g1, g2, g3], .c _ _ (.int _ _)⟩
        · cases h
      · cases h
    · split at h
      · rename_i x y hx
        have ha := toList2 hx
        subst ha
        obtain ⟨u, hr, hv⟩ := ymm_sound (ts := ts) (ty := ty) (hev x (by simp [Op.operands, Call.operands])) (hev y (by simp [Op.operands, Call.operands])) h
        simp only [Bool.false_eq_true, if_false] at hr
        exact ⟨u, by simp [execOp, resolve, invoke, builtin, hr], hv⟩
      · cases h
    · cases h
  case h_15 f first caps =>
    split at h
    · rename_i hf
      cases h
      have hf' : first = #[] := by simpa using hf
      subst hf'
      refine one ⟨.func (.func f) #[] (caps.map a.eval), by simp [Instr.makeFunc], .fn _ _ _ (by simp) ?_⟩
      intro i v x hv hx
      have hv' : (caps.map a.eval)[i]? = some v := hv
      clear hv
      have hv := hv'
      rw [Array.getElem?_map, Option.map_eq_some_iff] at hv
      rw [List.getElem?_map, Option.map_eq_some_iff, Array.getElem?_toList] at hx
      obtain ⟨r, hr, rfl⟩ := hv
      obtain ⟨r', hr', rfl⟩ := hx
      rw [hr] at hr'
      cases hr'
      exact hev r (by simp only [Op.operands, Array.mem_append]; exact .inr (Array.mem_of_getElem? hr))
    · cases h
  case h_16 => cases h

end Go.Rb
