/-
  What is proved: an operation that only reads hands back a value that reads as a plain function on data says. Conditions: none.
-/
import Derived.Test.YtoihccclnkhmaaaEngC
set_option linter.unusedVariables false
set_option linter.unusedSimpArgs false
set_option maxRecDepth 4000
namespace Go.Rb

theorem yfield_sound {P : Program} {E : Env} {s : TypeId} {f : Nat} {x v : AV} {a : Value} (hx : VR P E a x) (h : yfield P s f x = some v) :
    ∃ u, (Instr.fieldAt s a f).run P E.w = .ok u E.w ∧ VR P E u v := by
  unfold yfield at h
  split at h
  · rename_i fs hu
    split at h
    · rename_i fd hf
      split at h
      · rename_i hz
        have hi : (P.info? fd.type).isSome := by
          cases hq : P.info? fd.type with
          | none => simp [Program.cellsOf, hq] at hz
          | some i => rfl
        have hp : ∀ (b o : Nat), (fieldPlace ⟨b, o, none⟩ fd).run P E.w = .ok ⟨b, o + fd.offset, none⟩ E.w := by
          intro b o
          simp only [fieldPlace, Sem.run_bind, run_sizeOf hi, Result.andThen_ok, hz, if_false, Sem.run_pure, addr_add]
        split at h
        · cases h
          cases hx
          rename_i hA
          refine ⟨_, ?_, .ptr _ _ hA⟩
          simp only [Instr.fieldAt, Sem.run_bind, run_underlying hu, Result.andThen_ok, hf, Instr.sureAddr, Sem.run_pure, hp]
        · cases h
          cases hx with
          | el b o _ vs hr =>
          refine ⟨.pointer (some ⟨b, o + fd.offset, none⟩), ?_, .el _ _ _ (fun j => vs (fd.offset + j)) ?_⟩
          · simp only [Instr.fieldAt, Sem.run_bind, run_underlying hu, Result.andThen_ok, hf, Instr.sureAddr, Sem.run_pure, hp]
          · intro j x hj
            rw [List.getElem?_drop] at hj
            have := hr _ _ hj
            rw [Nat.add_assoc]
            exact this
        · cases h
      · cases h
    · cases h
  · cases h

theorem run_asIntOf {P : Program} {w : World} (k : IntKind) (n : Int) : (asIntOf (.int k n)).run P w = .ok (k, n) w := rfl

theorem yindex_sound {P : Program} {E : Env} {t : TypeId} {x i v : AV} {a b : Value} (hx : VR P E a x) (hi : VR P E b i) (h : yindex P t x i = some v) :
    ∃ u, (Instr.indexAt t a b).run P E.w = .ok u E.w ∧ VR P E u v := by
  unfold yindex at h
  split at h
  · rename_i e n hu hn
    obtain ⟨k, rfl⟩ := vr_int? hi hn
    split at h
    · rename_i l off len cap e'
      split at h
      · rename_i hc
        obtain ⟨h0, h1, rfl, hs⟩ := hc
        cases h
        cases hx
        case arr0 => omega
        rename_i hA _ _ _
        refine ⟨_, ?_, .ptr _ _ hA⟩
        simp only [Instr.indexAt, Sem.run_bind, run_asIntOf, Result.andThen_ok, run_underlying hu, Sem.run_pure, Bool.and_false, h0, h1, and_self, if_true, run_sizeOf hs, addr_add]
      · cases h
    · split at h
      · rename_i rows hr
        split at h
        · rename_i hc
          obtain ⟨h0, h1, hs⟩ := hc
          cases h
          have hd := hx.rows hr
          have hlt : n.toNat < rows.length := by omega
          obtain ⟨b, off, cap, vs, rfl, hlen, hcell⟩ := hd.row (List.getElem?_eq_getElem hlt)
          have hg : rows.getD n.toNat [] = rows[n.toNat] := by simp [List.getD, List.getElem?_eq_getElem hlt]
          rw [hg]
          refine ⟨_, ?_, .el b (off + n.toNat * P.cellsOf e) _ vs hcell⟩
          simp only [Instr.indexAt, Sem.run_bind, run_asIntOf, Result.andThen_ok, run_underlying hu, Sem.run_pure, Bool.and_false, h0, h1, and_self, if_true, run_sizeOf hs, addr_add]
        · cases h
      · cases h
  · cases h

theorem run_bound {P : Program} {E : Env} {y : Nat} {code : BoundsCode} {x : AV} {a : Value} {d l : Nat} (hx : VR P E a x) (h : ybound d (some x) = some l) (hl : l ≤ y) :
    (Instr.sliceBound a y code).run P E.w = .ok l E.w := by
  simp only [ybound] at h
  split at h
  · rename_i n hn
    obtain ⟨k, rfl⟩ := vr_int? hx hn
    split at h
    · rename_i h0
      cases h
      have : 0 ≤ n ∧ n ≤ (y : Int) := ⟨h0, by omega⟩
      simp only [Instr.sliceBound, Sem.run_bind, run_asIntOf, Result.andThen_ok, this, and_self, if_true, Sem.run_pure]
    · cases h
  · cases h

/-- A bound of a slice expression that runs to l. -/
def BoundIs (P : Program) (w : World) (d l : Nat) (v : Option Value) : Prop :=
  (v = none ∧ l = d) ∨ ∃ u, v = some u ∧ ∀ (y : Nat) (code : BoundsCode), l ≤ y → (Instr.sliceBound u y code).run P w = .ok l w

theorem boundIs {P : Program} {E : Env} {d l : Nat} {lo : Option AV} {vlo : Option Value} (hlo : ∀ y, lo = some y → ∃ u, vlo = some u ∧ VR P E u y) (hlo' : lo = none → vlo = none)
    (hl : ybound d lo = some l) : BoundIs P E.w d l vlo := by
  cases lo with
  | none => simp only [ybound, Option.some.injEq] at hl; exact .inl ⟨hlo' rfl, hl.symm⟩
  | some x => obtain ⟨u, h, hv⟩ := hlo _ rfl; exact .inr ⟨u, h, fun y code hy => run_bound hv hl hy⟩

theorem run_sliceBounds {P : Program} {w : World} (q : Bool) {len cap l k : Nat} {vlo vhi : Option Value} (hl : BoundIs P w 0 l vlo) (hk : BoundIs P w len k vhi) (hlk : l ≤ k) (hkc : k ≤ cap) :
    (Instr.sliceBounds q len cap vlo vhi none).run P w = .ok (l, k, cap) w := by
  rcases hl with ⟨rfl, rfl⟩ | ⟨u, rfl, hu⟩ <;> rcases hk with ⟨rfl, rfl⟩ | ⟨u', rfl, hu'⟩
  · simp only [Instr.sliceBounds, Sem.run_bind, Sem.run_pure, Result.andThen_ok]
  · simp only [Instr.sliceBounds, Sem.run_bind, Sem.run_pure, Result.andThen_ok, hu' _ _ hkc]
  · simp only [Instr.sliceBounds, Sem.run_bind, Sem.run_pure, Result.andThen_ok, hu _ _ hlk]
  · simp only [Instr.sliceBounds, Sem.run_bind, Sem.run_pure, Result.andThen_ok, hu _ _ hlk, hu' _ _ hkc]

theorem run_sliceBounds3 {P : Program} {w : World} (q : Bool) {len cap l k m : Nat} {vlo : Option Value} {uhi umx : Value} (hl : BoundIs P w 0 l vlo) (hk : BoundIs P w len k (some uhi))
    (hm : BoundIs P w len m (some umx)) (hlk : l ≤ k) (hkm : k ≤ m) (hmc : m ≤ cap) :
    (Instr.sliceBounds q len cap vlo (some uhi) (some umx)).run P w = .ok (l, k, m) w := by
  rcases hk with ⟨h, _⟩ | ⟨u', h', hu'⟩
  · cases h
  rcases hm with ⟨h, _⟩ | ⟨u2, h2, hu2⟩
  · cases h
  cases h'
  cases h2
  rcases hl with ⟨rfl, rfl⟩ | ⟨u, rfl, hu⟩
  · simp only [Instr.sliceBounds, Sem.run_bind, Sem.run_pure, Result.andThen_ok, hu' _ _ hkm, hu2 _ _ hmc]
  · simp only [Instr.sliceBounds, Sem.run_bind, Sem.run_pure, Result.andThen_ok, hu' _ _ hkm, hu2 _ _ hmc, hu _ _ hlk]

theorem Rd.part {P : Program} {w : World} {S : Nat → Nat → Prop} {a : Option Addr} {n cap : Nat} {e : TypeId} {rows : List (List C)} (h : Rd P w S (.slice a n cap) (.sl e rows)) (l k c : Nat)
    (hl : l ≤ k) (hk : k ≤ rows.length) (hc : k - l ≤ c) (q : Bool) (hq : q = true → k = l) :
    Rd P w S (.slice (if q = true then a else a.map (·.add (l * P.cellsOf e))) (k - l) c) (.sl e ((rows.take k).drop l)) := by
  by_cases hkl : k = l
  · subst hkl
    rw [Nat.sub_self, List.drop_of_length_le (by simp; omega)]
    exact .emp _ _ _
  · have hq' : q = false := by cases q <;> simp_all
    subst hq'
    simp only [Bool.false_eq_true, if_false]
    generalize hx : C.sl e rows = x at h
    generalize hv : Value.slice a n cap = v at h
    cases h with
    | emp e' a cap => cases hx; simp at hk; omega
    | sl e' b off n' cap' rows' vs hn hcap hsz hcell hrd =>
      cases hx; cases hv
      simp only [Option.map_some, addr_add]
      have hget : ∀ (i : Nat) (r : List C), ((rows.take k).drop l)[i]? = some r → rows[l + i]? = some r := by
        intro i r hi
        rw [List.getElem?_drop, List.getElem?_take] at hi
        split at hi
        · exact hi
        · cases hi
      refine .sl e b _ _ _ _ (fun i j => vs (l + i) j) (by simp; omega) hc ?_ ?_ ?_
      · intro i r hi; exact hsz _ _ (hget i r hi)
      · intro i j r c hi hj
        have := hcell _ j r c (hget i r hi) hj
        rw [Nat.add_mul, Nat.add_assoc] at this
        rw [Nat.add_assoc]
        exact this
      · intro i j r c hi hj; exact hrd _ _ _ _ (hget i r hi) hj
    | _ => cases hx

theorem yslice_sound {P : Program} {E : Env} {t : TypeId} {x v : AV} {lo hi mx : Option AV} {a : Value} {vlo vhi vmx : Option Value} (hx : VR P E a x)
    (hlo : ∀ y, lo = some y → ∃ u, vlo = some u ∧ VR P E u y) (hlo' : lo = none → vlo = none)
    (hhi : ∀ y, hi = some y → ∃ u, vhi = some u ∧ VR P E u y) (hhi' : hi = none → vhi = none)
    (hmx : ∀ y, mx = some y → ∃ u, vmx = some u ∧ VR P E u y) (hmx' : mx = none → vmx = none)
    (h : yslice P t x lo hi mx = some v) : ∃ u, (Instr.sliceAt t a vlo vhi vmx).run P E.w = .ok u E.w ∧ VR P E u v := by
  unfold yslice at h
  split at h
  · rename_i e hu
    split at h
    · rename_i rows hr
      split at h
      · rename_i l k hl hk
        split at h
        · rename_i hc
          obtain ⟨hlk, hkn, hs⟩ := hc
          have hd := hx.rows hr
          obtain ⟨ad, cap, rfl, hcap⟩ := hd.slice
          have hlB := boundIs hlo hlo' hl
          have hkB := boundIs hhi hhi' hk
          split at h
          · cases h
            obtain rfl := hmx' rfl
            refine ⟨_, ?_, .c _ _ (hd.part l k (cap - l) hlk hkn (by omega) (decide (cap = l)) (by simp; omega))⟩
            simp only [Instr.sliceAt, Sem.run_bind, run_underlying hu, Result.andThen_ok, Instr.slice, Sem.run_pure, run_sliceBounds true hlB hkB hlk (Nat.le_trans hkn hcap), run_sizeOf hs, decide_eq_true_eq]
          · rename_i mm hh
            split at h
            · rename_i hmm
              cases h
              obtain ⟨u, rfl, hvu⟩ := hhi _ rfl
              obtain ⟨u2, rfl, hvu2⟩ := hmx _ rfl
              have hmB : BoundIs P E.w rows.length k (some u2) := boundIs (lo := some mm) (fun y hy => by cases hy; exact ⟨_, rfl, hvu2⟩) (fun h => by cases h) (by simp [ybound, hmm])
              refine ⟨_, ?_, .own _ _ _ _ _ (hd.part l k (k - l) hlk hkn (by omega) (decide (k = l)) (by simp)) (.inl ⟨_, _, rfl⟩)⟩
              simp only [Instr.sliceAt, Sem.run_bind, run_underlying hu, Result.andThen_ok, Instr.slice, Sem.run_pure, run_sliceBounds3 true hlB hkB hmB hlk (Nat.le_refl _) (Nat.le_trans hkn hcap), run_sizeOf hs, decide_eq_true_eq]
            · cases h
          · cases h
        · cases h
      · cases h
    · cases h
  · rename_i hu
    split at h
    · rename_i s
      have ha := vr_str hx
      subst ha
      split at h
      · rename_i l k hl hk
        split at h
        · rename_i hc
          obtain ⟨hlk, hkn⟩ := hc
          cases h
          obtain rfl := hmx' rfl
          have hlB := boundIs hlo hlo' hl
          have hkB := boundIs hhi hhi' hk
          refine ⟨_, ?_, .c _ _ (.str _)⟩
          simp only [Instr.sliceAt, Sem.run_bind, run_underlying hu, Result.andThen_ok, Instr.slice, Sem.run_pure, run_sliceBounds false hlB hkB hlk hkn, Option.isSome_none, Bool.false_eq_true, if_false]
        · cases h
      · cases h
    · cases h
  · cases h

theorem ysliceA_sound {P : Program} {E : Env} {t e : TypeId} {l off len cap : Nat} {v : AV} {lo hi mx : Option AV} {a : Value} {vlo vhi vmx : Option Value} (hx : VR P E a (.arr l off len cap e))
    (hlo : ∀ y, lo = some y → ∃ u, vlo = some u ∧ VR P E u y) (hlo' : lo = none → vlo = none)
    (hhi : ∀ y, hi = some y → ∃ u, vhi = some u ∧ VR P E u y) (hhi' : hi = none → vhi = none)
    (hmx : ∀ y, mx = some y → ∃ u, vmx = some u ∧ VR P E u y) (hmx' : mx = none → vmx = none)
    (h : ysliceA P t l off len cap e lo hi mx = some v) : ∃ u, (Instr.sliceAt t a vlo vhi vmx).run P E.w = .ok u E.w ∧ VR P E u v := by
  unfold ysliceA at h
  split at h
  · rename_i e' hu
    split at h
    · rename_i hc
      obtain ⟨rfl, hs⟩ := hc
      split at h
      · rename_i x k hl hk
        have hlB := boundIs hlo hlo' hl
        have hkB := boundIs hhi hhi' hk
        -- what the value is
        obtain ⟨ad, c, rfl, hcl, hcc, hval⟩ : ∃ ad c, a = .slice ad len c ∧ len ≤ c ∧ cap ≤ c ∧ ∀ (x k m : Nat), x ≤ k → k ≤ m → m ≤ c →
            ∀ capb, capb ≤ m - x → VR P E (.slice (if decide (m = x) = true then ad else ad.map (·.add (x * P.cellsOf e'))) (k - x) (m - x)) (.arr l (off + x * P.cellsOf e') (k - x) capb e') := by
          cases hx with
          | arr _ _ _ _ c _ hA hc hl hsz hm =>
            refine ⟨_, c, rfl, hl, hc, fun x k m h1 h2 h3 capb hb => ?_⟩
            by_cases hmx : m = x
            · subst hmx
              have e1 : k - m = 0 := by omega
              have e2 : capb = 0 := by omega
              rw [e1, e2, Nat.sub_self]
              exact .arr0 _ _ _ _
            · rw [if_neg (by simp [hmx])]
              simp only [Option.map_some, addr_add]
              refine .arr _ _ _ _ _ _ hA hb (by omega) ?_ (by omega)
              have : x * P.cellsOf e' + (m - x) * P.cellsOf e' = m * P.cellsOf e' := by rw [← Nat.add_mul]; congr 1; omega
              have h4 : m * P.cellsOf e' ≤ c * P.cellsOf e' := Nat.mul_le_mul_right _ h3
              omega
          | arr0 _ _ ad _ =>
            refine ⟨ad, 0, rfl, Nat.le_refl _, Nat.le_refl _, fun x k m h1 h2 h3 capb hb => ?_⟩
            have e1 : k - x = 0 := by omega
            have e2 : capb = 0 := by omega
            have e3 : m - x = 0 := by omega
            rw [e1, e2, e3]
            exact .arr0 _ _ _ _
        split at h
        · split at h
          · rename_i hb
            cases h
            obtain rfl := hmx' rfl
            refine ⟨_, ?_, hval x k c hb.1 (by omega) (Nat.le_refl _) (cap - x) (by omega)⟩
            simp only [Instr.sliceAt, Sem.run_bind, run_underlying hu, Result.andThen_ok, Instr.slice, Sem.run_pure, run_sliceBounds true hlB hkB hb.1 (show k ≤ c by omega), run_sizeOf hs, decide_eq_true_eq]
          · cases h
        · rename_i mm hh
          split at h
          · rename_i m hm
            split at h
            · rename_i hb
              cases h
              obtain ⟨u, rfl, hvu⟩ := hhi _ rfl
              obtain ⟨u2, rfl, hvu2⟩ := hmx _ rfl
              have hmB : BoundIs P E.w len m (some u2) := boundIs (lo := some mm) (fun y hy => by cases hy; exact ⟨_, rfl, hvu2⟩) (fun h => by cases h) (by simpa [ybound] using hm)
              refine ⟨_, ?_, hval x k m hb.1 hb.2.1 (by omega) (m - x) (Nat.le_refl _)⟩
              simp only [Instr.sliceAt, Sem.run_bind, run_underlying hu, Result.andThen_ok, Instr.slice, Sem.run_pure, run_sliceBounds3 true hlB hkB hmB hb.1 hb.2.1 (show m ≤ c by omega), run_sizeOf hs, decide_eq_true_eq]
            · cases h
          · cases h
        · cases h
      · cases h
    · cases h
  · cases h

theorem yslice2_sound {P : Program} {E : Env} {t : TypeId} {x v : AV} {lo hi mx : Option AV} {a : Value} {vlo vhi vmx : Option Value} (hx : VR P E a x)
    (hlo : ∀ y, lo = some y → ∃ u, vlo = some u ∧ VR P E u y) (hlo' : lo = none → vlo = none)
    (hhi : ∀ y, hi = some y → ∃ u, vhi = some u ∧ VR P E u y) (hhi' : hi = none → vhi = none)
    (hmx : ∀ y, mx = some y → ∃ u, vmx = some u ∧ VR P E u y) (hmx' : mx = none → vmx = none)
    (h : yslice2 P t x lo hi mx = some v) : ∃ u, (Instr.sliceAt t a vlo vhi vmx).run P E.w = .ok u E.w ∧ VR P E u v := by
  unfold yslice2 at h
  split at h
  · exact ysliceA_sound hx hlo hlo' hhi hhi' hmx hmx' h
  · exact yslice_sound hx hlo hlo' hhi hhi' hmx hmx' h

theorem ycap_sound {P : Program} {E : Env} {t ty : TypeId} {x v : AV} {a : Value} (hx : VR P E a x) (h : ycap P t x = some v) :
    ∃ u, (Builtin.cap_ #[t] ty #[a]).run P E.w = .ok u E.w ∧ VR P E u v := by
  unfold ycap at h
  split at h
  · split at h
    · rename_i e hu
      cases h
      cases hx
      exact ⟨_, by simp only [Builtin.cap_, List.getElem?_toArray, List.getElem?_cons_zero, Sem.run_bind, run_underlying hu, Result.andThen_ok, goInt, Sem.run_pure]; rfl, .c _ _ (.int _ _)⟩
    · cases h
  · cases h

theorem ylen_sound {P : Program} {E : Env} {t ty : TypeId} {x v : AV} {a : Value} (hx : VR P E a x) (h : ylen P t x = some v) :
    ∃ u, (Builtin.len_ #[t] ty #[a]).run P E.w = .ok u E.w ∧ VR P E u v := by
  unfold ylen at h
  split at h
  · rename_i e hu
    split at h
    · cases h
      cases hx <;> exact ⟨_, by simp only [Builtin.len_, List.getElem?_toArray, List.getElem?_cons_zero, Sem.run_bind, run_underlying hu, Result.andThen_ok, goInt, Sem.run_pure], .c _ _ (.int _ _)⟩
    · split at h
      · rename_i rows hr
        cases h
        obtain ⟨ad, cap, rfl, _⟩ := (hx.rows hr).slice
        exact ⟨_, by simp only [Builtin.len_, List.getElem?_toArray, List.getElem?_cons_zero, Sem.run_bind, run_underlying hu, Result.andThen_ok, goInt, Sem.run_pure], .c _ _ (.int _ _)⟩
      · cases h
  · rename_i hu
    split at h
    · cases h
      have ha := vr_str hx
      subst ha
      exact ⟨_, by simp only [Builtin.len_, List.getElem?_toArray, List.getElem?_cons_zero, Sem.run_bind, run_underlying hu, Result.andThen_ok, goInt, Sem.run_pure], .c _ _ (.int _ _)⟩
    · cases h
  · cases h

end Go.Rb
