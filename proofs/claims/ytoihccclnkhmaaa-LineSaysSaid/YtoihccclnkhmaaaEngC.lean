/-
  What is proved: an operation that only reads hands back a value that reads as a plain function on data says. Conditions: none.
-/
import Derived.Test.YtoihccclnkhmaaaEngB
set_option linter.unusedVariables false
set_option linter.unusedSimpArgs false
set_option maxRecDepth 4000
namespace Go.Rb

/-- The local blocks hold what is known of them. -/
def MemOK (P : Program) (E : Env) (m : Nat → List AV) : Prop :=
  ∀ l, m l ≠ [] → ∃ cs e fz, E.w.heap[E.β l]? = some (.cells cs e fz) ∧ (m l).length ≤ cs.size ∧
    ∀ (i : Nat) (v : Value) (x : AV), cs[i]? = some v → (m l)[i]? = some x → VR P E v x ∧ v.oneCell' = true

theorem run_v {P : Program} {w : World} {α β : Type} {s : Sem α} {u : α} {w' : World} (f : α → β) (h : s.run P w = .ok u w') :
    (do pure (f (← s)) : Sem β).run P w = .ok (f u) w' := by
  simp only [Sem.run_bind, h, Result.andThen_ok, Sem.run_pure]

theorem vr_c_inv {P : Program} {E : Env} {v : Value} {x : C} (h : VR P E v (.c x)) : Rd P E.w E.S v x := by cases h; assumption

theorem vr_int {P : Program} {E : Env} {v : Value} {k : IntKind} {n : Int} (h : VR P E v (.c (.int k n))) : v = .int k n := by
  have := vr_c_inv h; cases this; rfl
theorem vr_bool {P : Program} {E : Env} {v : Value} {b : Bool} (h : VR P E v (.c (.bool b))) : v = .bool b := by
  have := vr_c_inv h; cases this; rfl
theorem vr_str {P : Program} {E : Env} {v : Value} {s : ByteArray} (h : VR P E v (.c (.str s))) : v = .string s := by
  have := vr_c_inv h; cases this; rfl

theorem vr_int? {P : Program} {E : Env} {v : Value} {x : AV} {n : Int} (h : VR P E v x) (hn : x.int? = some n) : ∃ k, v = .int k n := by
  unfold AV.int? at hn
  split at hn
  · simp at hn; subst hn; exact ⟨_, vr_int h⟩
  · cases hn

theorem run_iop {P : Program} {w : World} {op : BinOp} {T : TypeId} {k k' : IntKind} {a b : Int} {x : C} (hk : isShift op = true ∨ k = k') (h : iop op k a b = some x) :
    ∃ u, (binOp op T (.int k a) (.int k' b)).run P w = .ok u w ∧ Rd P w (fun _ _ => False) u x := by
  cases op <;> simp only [isShift, Bool.false_eq_true, false_or, true_or] at hk <;> simp only [iop] at h
  case quo =>
    subst hk
    split at h
    · cases h
    · rename_i hb
      cases h
      exact ⟨_, by simp [binOp, Op.intDiv, hb], .int _ _⟩
  case rem =>
    subst hk
    split at h
    · cases h
    · rename_i hb
      cases h
      exact ⟨_, by simp [binOp, Op.intDiv, hb], .int _ _⟩
  case shl =>
    split at h
    · cases h
    · rename_i hb
      cases h
      exact ⟨_, by simp [binOp, Op.shift, hb], .int _ _⟩
  case shr =>
    split at h
    · cases h
    · rename_i hb
      cases h
      exact ⟨_, by simp [binOp, Op.shift, hb], .int _ _⟩
  all_goals first
    | (cases h; done)
    | (subst hk; cases h; exact ⟨_, by simp [binOp, Op.intArith, Op.intBits, Op.intCmp]; rfl, by first | exact .int _ _ | exact .bool _⟩)

theorem Rd.any {P : Program} {w : World} {S : Nat → Nat → Prop} {v : Value} {x : C} (h : Rd P w (fun _ _ => False) v x) : Rd P w S v x :=
  h.mono (fun _ _ _ hf _ => hf.elim) (fun _ _ hf => hf.elim)

theorem equal_bool {P : Program} {T : TypeId} (h : P.underlying T = some .bool) (a b : Bool) (w : World) : (Op.equal T (.bool a) (.bool b)).run P w = .ok (a == b) w := by
  unfold Op.equal Op.maxDepth
  rw [show (10000 : Nat) = 9999 + 1 from rfl]
  generalize 9999 = d
  simp only [Op.equalIn, Sem.run_bind, run_underlying h, Result.andThen_ok, Sem.run_pure]

theorem ybin_sound {P : Program} {E : Env} {op : BinOp} {T : TypeId} {x y v : AV} {xo yo : Operand} {a b : Value} (hx : VR P E a x) (hy : VR P E b y) (h : ybin P op T x y = some v) :
    ∃ u, (do eqGuard op T xo yo a b; binOp op T a b : Sem Value).run P E.w = .ok u E.w ∧ VR P E u v := by
  unfold ybin at h
  split at h
  · rename_i k m k' n
    have ha := vr_int hx
    have hb := vr_int hy
    subst ha hb
    split at h
    · rename_i hk
      cases hi : iop op k m n with
      | none => simp [hi] at h
      | some c =>
        simp [hi] at h
        subst h
        obtain ⟨u, hr, hd⟩ := run_iop (P := P) (w := E.w) (T := T) hk hi
        refine ⟨u, ?_, .c _ _ hd.any⟩
        have hg : (eqGuard op T xo yo (.int k m) (.int k' n)).run P E.w = .ok () E.w := by
          cases op <;> simp [eqGuard]
        simp only [Sem.run_bind, hg, Result.andThen_ok, hr]
    · cases h
  · rename_i p q
    have ha := vr_bool hx
    have hb := vr_bool hy
    subst ha hb
    split at h
    · rename_i hT
      cases h
      exact ⟨.bool (p == q), by simp [eqGuard, binOp, equal_bool hT], .c _ _ (.bool _)⟩
    · rename_i hT
      cases h
      exact ⟨.bool (!(p == q)), by simp [eqGuard, binOp, equal_bool hT], .c _ _ (.bool _)⟩
    · cases h
  · rename_i p q
    have ha := vr_str hx
    have hb := vr_str hy
    subst ha hb
    split at h
    · split at h
      · rename_i hs
        cases h
        exact ⟨.string (p ++ q), by simp [eqGuard, binOp, Op.stringOp, hs], .c _ _ (.str _)⟩
      · cases h
    · cases h
      exact ⟨.bool (p.toList == q.toList), by simp [eqGuard, binOp, Op.stringOp], .c _ _ (.bool _)⟩
    · cases h
      exact ⟨.bool (!(p.toList == q.toList)), by simp [eqGuard, binOp, Op.stringOp], .c _ _ (.bool _)⟩
    · cases h
  · cases h

theorem yun_sound {P : Program} {E : Env} {op : UnOp} {x v : AV} {a : Value} (hx : VR P E a x) (h : yun op x = some v) :
    ∃ u, (Op.unary op a).run P E.w = .ok u E.w ∧ VR P E u v := by
  unfold yun at h
  split at h
  · have ha := vr_bool hx
    subst ha
    cases h
    exact ⟨.bool _, by simp [Op.unary], .c _ _ (.bool _)⟩
  · have ha := vr_int hx
    subst ha
    cases h
    exact ⟨.int _ _, by simp [Op.unary, Op.intArith], .c _ _ (.int _ _)⟩
  · cases h

theorem run_isAgg {P : Program} {t : TypeId} {b : Bool} (h : isAggT P t = some b) (w : World) : (isAgg t).run P w = .ok b w := by
  unfold isAggT at h
  split at h
  · rename_i hu; cases h; simp [isAgg, underlying, hu]
  · rename_i hu; cases h; simp [isAgg, underlying, hu]
  · rename_i hu; cases h
    rename_i d _ h1 h2
    cases d <;> first | (exfalso; exact h1 _ rfl) | (exfalso; exact h2 _ _ rfl) | simp [isAgg, underlying, hu]
  · cases h

theorem cellsOf_size {P : Program} {t : TypeId} {i : TypeInfo} (h : P.info? t = some i) : i.size = P.cellsOf t := by simp [Program.cellsOf, h]

theorem run_sizeOf {P : Program} {t : TypeId} (h : (P.info? t).isSome) (w : World) : (sizeOf t).run P w = .ok (P.cellsOf t) w := by
  cases hi : P.info? t with
  | none => simp [hi] at h
  | some i => simp [sizeOf, typeInfo, hi, Program.cellsOf]

theorem addr_add (b o n : Nat) : (⟨b, o, none⟩ : Addr).add n = ⟨b, o + n, none⟩ := by
  unfold Addr.add; split <;> simp_all

theorem run_load_cell {P : Program} {w : World} {a : Addr} {v : Value} (h : w.cell? a = some v) : (load a).run P w = .ok v w := by
  simp [load, Sem.run, h]

/-- A struct's cells, read one by one. -/
theorem run_loadVar_agg {P : Program} {w : World} {t : TypeId} {b o : Nat} {cs : List Value} (ht : isAggT P t = some true) (hi : (P.info? t).isSome) (hn : cs.length = P.cellsOf t)
    (h : ∀ (j : Nat) (v : Value), cs[j]? = some v → w.cell? ⟨b, o + j, none⟩ = some v) : (loadVar t ⟨b, o, none⟩).run P w = .ok (.agg cs.toArray) w := by
  have hl := run_loadCells_list (P := P) w ⟨b, o, none⟩ cs (fun j v hv => by rw [addr_add]; exact h j v hv)
  rw [hn] at hl
  simp only [loadVar, Sem.run_bind, run_isAgg ht, Result.andThen_ok, if_true, run_sizeOf hi, hl, Sem.run_pure]

theorem run_loadVar_one {P : Program} {w : World} {t : TypeId} {a : Addr} {v : Value} (ht : isAggT P t = some false) (h : w.cell? a = some v) : (loadVar t a).run P w = .ok v w := by
  simp only [loadVar, Sem.run_bind, run_isAgg ht, Result.andThen_ok, Bool.false_eq_true, if_false, run_load_cell h]

theorem yload_sound {P : Program} {E : Env} {m : Nat → List AV} (hm : MemOK P E m) {t : TypeId} {x v : AV} {a : Value} (hx : VR P E a x) (h : yload P t m x = some v) :
    ∃ u, (Instr.loadAt t a).run P E.w = .ok u E.w ∧ VR P E u v := by
  unfold yload at h
  split at h
  · rename_i l off
    cases hx
    simp only [Instr.loadAt, Instr.sureAddr, Sem.run_bind, Sem.run_pure, Result.andThen_ok]
    split at h
    · rename_i ht
      split at h
      · rename_i hc
        cases h
        by_cases hz : m l = []
        · simp only [hz, List.length_nil] at hc
          have h0 : P.cellsOf t = 0 := by omega
          refine ⟨_, run_loadVar_agg (cs := []) ht hc.2 (by simp [h0]) (by simp), ?_⟩
          rw [hz, h0]
          exact .agg _ _ rfl (by simp) (by simp)
        · obtain ⟨cs, e, fz, hh, hn, hr⟩ := hm l hz
          have hlen : ((cs.toList.drop off).take (P.cellsOf t)).length = P.cellsOf t := by simp; omega
          have hget : ∀ j v, ((cs.toList.drop off).take (P.cellsOf t))[j]? = some v → cs[off + j]? = some v := by
            intro j v hv
            rw [List.getElem?_take] at hv
            split at hv
            · rw [List.getElem?_drop] at hv; simpa using hv
            · cases hv
          refine ⟨_, run_loadVar_agg (cs := (cs.toList.drop off).take (P.cellsOf t)) ht hc.2 hlen ?_, ?_⟩
          · intro j v hv
            rw [cell_of_row _ _ _ _ _ _ hh]
            exact hget j v hv
          · refine .agg _ _ (by simp; omega) ?_ ?_
            · intro i v hv
              simp only [List.getElem?_toArray] at hv
              have h1 := hget i v hv
              have hi0 : i < P.cellsOf t := by have := (List.getElem?_eq_some_iff.1 hv).1; omega
              have hi : off + i < (m l).length := by omega
              exact (hr _ _ _ h1 (List.getElem?_eq_getElem hi)).2
            · intro i v x hv hx
              simp only [List.getElem?_toArray] at hv
              have h1 := hget i v hv
              have h2 : (m l)[off + i]? = some x := by
                rw [List.getElem?_take] at hx
                split at hx
                · rw [List.getElem?_drop] at hx; exact hx
                · cases hx
              exact (hr _ _ _ h1 h2).1
      · cases h
    · rename_i ht
      have hz : m l ≠ [] := by intro hz; rw [hz] at h; simp at h
      obtain ⟨cs, e, fz, hh, hn, hr⟩ := hm l hz
      have hi : off < cs.size := Nat.lt_of_lt_of_le (List.getElem?_eq_some_iff.1 h).1 hn
      have hc : cs[off]? = some cs[off] := Array.getElem?_eq_getElem hi
      exact ⟨_, run_loadVar_one ht (by rw [cell_of_row _ _ _ _ _ _ hh]; exact hc), (hr _ _ _ hc h).1⟩
    · cases h
  · rename_i xs
    cases hx with
    | el b o _ vs hr =>
    simp only [Instr.loadAt, Instr.sureAddr, Sem.run_bind, Sem.run_pure, Result.andThen_ok]
    split at h
    · rename_i ht
      split at h
      · rename_i hc
        cases h
        have hlen : ((List.range (P.cellsOf t)).map vs).length = P.cellsOf t := by simp
        have hget : ∀ j v, ((List.range (P.cellsOf t)).map vs)[j]? = some v → j < P.cellsOf t ∧ vs j = v := by
          intro j v hv
          simp only [List.getElem?_map, Option.map_eq_some_iff] at hv
          obtain ⟨a, ha, rfl⟩ := hv
          have := List.getElem?_eq_some_iff.1 ha
          obtain ⟨h1, h2⟩ := this
          simp at h1 h2
          subst h2
          exact ⟨h1, rfl⟩
        refine ⟨_, run_loadVar_agg (cs := (List.range (P.cellsOf t)).map vs) ht hc.2 hlen ?_, ?_⟩
        · intro j v hv
          obtain ⟨hj, rfl⟩ := hget j v hv
          have hj' : j < xs.length := by omega
          exact (hr j _ (List.getElem?_eq_getElem hj')).1.1
        · refine .agg _ _ (by simp; omega) ?_ ?_
          · intro i v hv
            simp only [List.getElem?_toArray] at hv
            obtain ⟨hj, rfl⟩ := hget i v hv
            have hj' : i < xs.length := by omega
            exact (hr i _ (List.getElem?_eq_getElem hj')).2.oneCell
          · intro i v x hv hx
            simp only [List.getElem?_toArray] at hv
            obtain ⟨hj, rfl⟩ := hget i v hv
            simp only [List.getElem?_map, Option.map_eq_some_iff] at hx
            obtain ⟨y, hy, rfl⟩ := hx
            rw [List.getElem?_take, if_pos hj] at hy
            exact .c _ _ (hr i y hy).2
      · cases h
    · rename_i ht
      cases hx0 : xs[0]? with
      | none => simp [hx0] at h
      | some y =>
        simp [hx0] at h
        subst h
        have := hr 0 y hx0
        exact ⟨_, run_loadVar_one ht (by simpa using this.1.1), .c _ _ this.2⟩
    · cases h
  · cases h

end Go.Rb
