/-
  What is proved: append to a slice of one's own, as the state of an activation has it. Conditions: none.
-/
import Derived.Test.YtoihccclnkhmaaaEngH
set_option linter.unusedVariables false
set_option linter.unusedSimpArgs false
set_option maxRecDepth 4000
namespace Go.Rb

theorem mask_bit {x k : Nat} (h : x &&& 2 ^ k = 0) : x.testBit k = false := by
  have h1 : (x &&& 2 ^ k).testBit k = false := by rw [h]; simp
  simpa [Nat.testBit_and, Nat.testBit_two_pow_self] using h1

theorem run_append_room2 {P : Program} (w : World) (t ty e e2 : TypeId) (i : TypeInfo) (ht : P.underlying t = some (.slice e)) (hi : P.info? e = some i)
    (g sLen sCap : Nat) (cur : Array Value) (hg : w.heap[g]? = some (.cells cur e2 (0, 0)))
    (a : Addr) (m c : Nat) (news : List Value) (hl : news.length = m * i.size) (hnews : ∀ j u, news[j]? = some u → w.cell? (a.add j) = some u) (h1 : ∀ u ∈ news, u.oneCell' = true)
    (hroom : sLen + m ≤ sCap) (hfit : sLen * i.size + news.length ≤ cur.size) :
    (Builtin.append_ #[t, t] ty #[.slice (some ⟨g, 0, none⟩) sLen sCap, .slice (some a) m c]).run P w =
      .ok (.slice (some ⟨g, 0, none⟩) (sLen + m) sCap) (w.setRow g (cur.toList.take (sLen * i.size) ++ news ++ cur.toList.drop (sLen * i.size + news.length)).toArray) := by
  have hf := run_firstCells_some (P := P) w i.size m a m c news hl hnews
  have hst := run_storeCells_at P g (sLen * i.size) e2 news 0 cur w hg (by simpa using hfit) h1
  simp only [Nat.add_zero] at hst
  simp [Builtin.append_, run_underlying ht, sizeOf, typeInfo, hi, Builtin.lenOf, hroom, hf, Addr.add_lit, hst]

section
variable {P : Program} {B : Nat} {X : Nat → Prop} {w0 : World} {S0 : Nat → Nat → Prop} {E : Env} {s : RSt}

/-- Nothing happens to the world: the right of 'old' goes over to d. -/
theorem same_env (h : WI P B X w0 S0 E s) {old : Option (Bool × Nat)} {d : Nat} (s' : RSt) (hid : s.p.testBit d = false) (hm : s'.m = s.m)
    (hp : ∀ k, s.p.testBit k = true ∨ some d = some k → s'.p.testBit k = true)
    (hxn : ∀ k, s.xn.testBit k = true ∨ old = some (true, k) → s'.xn.testBit k = true) (hxo : ∀ k, s.xo.testBit k = true ∨ old = some (false, k) → s'.xo.testBit k = true)
    (holdp : ∀ k, old = some (true, k) → s.p.testBit k = true) (st : OwnSt)
    (hst : st = .none ∨ ∃ nw k v e, old = some (nw, k) ∧ E.ow nw k = .reg v e ∧ st = .reg v e) :
    ∃ E', E'.w = E.w ∧ E.le E' ∧ WI P B X w0 S0 E' s' ∧ E'.S = E.S ∧ E'.ow true d = st := by
  have hidd : ∀ i, some d = some i → s.p.testBit i = false := fun i hi => by cases hi; exact hid
  rcases hst with h1 | ⟨nw, k, v, e, h1, h2, h3⟩
  · have hg : Grows E E.w none := ⟨rfl, rfl, rfl, Nat.le_refl _, fun _ _ _ => rfl, fun _ _ _ _ hc => hc⟩
    exact ⟨envApp E E.w E.S old (some d) st, rfl, envApp_le h hg (fun _ _ hs => hs) hidd,
      wi_app h hg (fun g hg => by cases hg) (fun _ _ hs => hs) (fun _ _ hs => .inl hs) h.slt (.inl h1) hidd hm hp hxn hxo holdp, rfl, by simp [envApp]⟩
  · obtain ⟨hown, hl⟩ := h.own nw k v e h2
    obtain ⟨g, hg1, hg2, _⟩ := ownBlk_block hown
    have hg : Grows E E.w (some g) := ⟨rfl, rfl, rfl, Nat.le_refl _, fun _ _ _ => rfl, fun _ _ _ _ hc => hc⟩
    exact ⟨envApp E E.w E.S old (some d) st, rfl, envApp_le h hg (fun _ _ hs => hs) hidd,
      wi_app h hg (fun g' hg' => by cases hg'; exact ⟨hg2, nw, k, v, e, h1, h2, hg1⟩) (fun _ _ hs => hs) (fun _ _ hs => .inl hs) h.slt (.inr ⟨v, e, h3, hown, g, hg1, .inr rfl⟩) hidd hm hp hxn hxo holdp, rfl, by simp [envApp]⟩

/-- The number of a slice of one's own. -/
def AV.oid (p : Nat) : AV → Option (Bool × Nat)
  | .own true k _ _ => if p.testBit k = true then some (true, k) else none
  | .own false k _ _ => some (false, k)
  | _ => none

theorem rows_size {w : World} {S : Nat → Nat → Prop} {v : Value} {e : TypeId} {rows : List (List C)} (h : Rd P w S v (.sl e rows)) : ∀ r ∈ rows, r.length = P.cellsOf e := by
  by_cases hr : rows = []
  · subst hr; simp
  · obtain ⟨_, _, _, _, _, _, h1, _⟩ := h.cells hr; exact h1

set_option maxHeartbeats 1000000 in
theorem append_sound (h : WI P B X w0 S0 E s) {va vb : Value} {x y : AV} {ty tt e : TypeId} {rows new : List (List C)} {d : Nat} (hu : P.underlying ty = some (.slice e))
    (hx : VR P E va x) (hb : x.base e = some rows) (hxo : s.xo &&& maskO x = 0) (hxn : s.xn &&& maskN x = 0) (hd : s.p.testBit d = false) (hy : VR P E vb y) (hr : y.rows e = some new)
    (hbytes : (rows.length + new.length) * P.bytesOf e ≤ 140737488355328) (hmax : rows.length + new.length ≤ maxLen) (hz : (zc P e).map (·.length) = some (P.cellsOf e)) (hz0 : P.cellsOf e ≠ 0) :
    ∃ v' E', (Builtin.append_ #[ty, ty] tt #[va, vb]).run P E.w = .ok v' E'.w ∧ E.le E' ∧
      WI P B X w0 S0 E' { s with p := s.p ||| 2 ^ d, xo := s.xo ||| maskO x, xn := s.xn ||| maskN x } ∧ VR P E' v' (.own true d e (rows ++ new)) := by
  obtain ⟨i, z, hi, hiz, hzs, hz1⟩ := zc_info hz
  have hsize : i.size = P.cellsOf e := cellsOf_size hi
  have hbyt : i.bytes = P.bytesOf e := by simp [Program.bytesOf, hi]
  have hnd := hy.rows hr
  obtain ⟨ab, capb, rfl, hcapb⟩ := hnd.slice
  have hp : ∀ k, s.p.testBit k = true ∨ some d = some k → (s.p ||| 2 ^ d).testBit k = true := by
    intro k hk
    rcases hk with hk | hk
    · exact testBit_or_left hk
    · cases hk; exact testBit_or_right Nat.testBit_two_pow_self
  have hoid : ∀ nw k, x.oid s.p = some (nw, k) → ∃ e' r', x = .own nw k e' r' ∧ (nw = true → s.p.testBit k = true) := by
    intro nw k hk
    unfold AV.oid at hk
    split at hk
    · split at hk
      · rename_i hb; cases hk; exact ⟨_, _, rfl, fun _ => hb⟩
      · cases hk
    · cases hk; exact ⟨_, _, rfl, fun h => by cases h⟩
    · cases hk
  have hxn' : ∀ k, s.xn.testBit k = true ∨ x.oid s.p = some (true, k) → (s.xn ||| maskN x).testBit k = true := by
    intro k hk
    rcases hk with hk | hk
    · exact testBit_or_left hk
    · obtain ⟨e', r', rfl, _⟩ := hoid _ _ hk
      exact testBit_or_right Nat.testBit_two_pow_self
  have hxo' : ∀ k, s.xo.testBit k = true ∨ x.oid s.p = some (false, k) → (s.xo ||| maskO x).testBit k = true := by
    intro k hk
    rcases hk with hk | hk
    · exact testBit_or_left hk
    · obtain ⟨e', r', rfl, _⟩ := hoid _ _ hk
      exact testBit_or_right Nat.testBit_two_pow_self
  have holdp : ∀ k, x.oid s.p = some (true, k) → s.p.testBit k = true := by
    intro k hk
    obtain ⟨_, _, _, h1⟩ := hoid _ _ hk
    exact h1 rfl
  -- the base: full, or registered
  have hbase : Rd P E.w E.S va (.sl e rows) ∧ (Full va ∨ ∃ nw k, x.oid s.p = some (nw, k) ∧ E.ow nw k = .reg va e) := by
    cases hx with
    | nils => simp [AV.base] at hb; subst hb; exact ⟨.emp _ _ _, .inl ⟨none, 0, rfl⟩⟩
    | own v nw k e' rows' hrd ho =>
      simp [AV.base] at hb
      obtain ⟨rfl, rfl⟩ := hb
      refine ⟨hrd, ?_⟩
      rcases ho with ho | ho | ho
      · exact .inl ho
      · exfalso
        cases nw
        · have h1 := h.deado k ho
          rw [mask_bit hxo] at h1
          cases h1
        · have h1 := h.deadn k ho
          rw [mask_bit hxn] at h1
          cases h1
      · refine .inr ⟨nw, k, ?_, ho⟩
        cases nw
        · rfl
        · have h1 := h.new k (by rw [ho]; simp)
          simp [AV.oid, h1]
    | _ => simp [AV.base] at hb
  obtain ⟨hrd, hkind⟩ := hbase
  obtain ⟨aa, capa, rfl, hcapa⟩ := hrd.slice
  have hszall : ∀ r ∈ rows ++ new, r.length = P.cellsOf e := by
    intro r hr'
    rcases List.mem_append.1 hr' with h1 | h1
    · exact rows_size hrd r h1
    · exact rows_size hnd r h1
  by_cases hnew : new = []
  · -- nothing is appended
    subst hnew
    rw [List.append_nil]
    have hrun := run_append_zero (P := P) (w := E.w) (t := ty) (ty := tt) hu (by rw [hi]; rfl) aa ab rows.length capa capb hcapa
    rcases hkind with ⟨a', n', hf⟩ | ⟨nw, k, hid, hreg⟩
    · obtain ⟨E', hw, hle, hwi, hS, _⟩ := same_env (old := x.oid s.p) h { s with p := s.p ||| 2 ^ d, xo := s.xo ||| maskO x, xn := s.xn ||| maskN x } hd rfl hp hxn' hxo' holdp .none (.inl rfl)
      refine ⟨_, E', by rw [hw]; exact hrun, hle, hwi, .own _ _ _ _ _ (by rw [hw, hS]; exact hrd) (.inl ⟨_, _, hf⟩)⟩
    · obtain ⟨E', hw, hle, hwi, hS, how⟩ := same_env (old := x.oid s.p) h { s with p := s.p ||| 2 ^ d, xo := s.xo ||| maskO x, xn := s.xn ||| maskN x } hd rfl hp hxn' hxo' holdp (.reg (.slice aa rows.length capa) e) (.inr ⟨nw, k, _, _, hid, hreg, rfl⟩)
      refine ⟨_, E', by rw [hw]; exact hrun, hle, hwi, .own _ _ _ _ _ (by rw [hw, hS]; exact hrd) (.inr (.inr how))⟩
  · -- some rows are appended
    obtain ⟨b, off, cap2, vs, he, _, _, hcell⟩ := hnd.cells hnew
    cases he
    have hm0 : 0 < new.length := List.length_pos_iff.2 hnew
    have hnl : (flat (P.cellsOf e) new.length vs).length = new.length * i.size := by rw [flat_length, hsize]
    have hnc : ∀ (j : Nat) (v : Value), (flat (P.cellsOf e) new.length vs)[j]? = some v → E.w.cell? ((⟨b, off, none⟩ : Addr).add j) = some v := by
      intro j v hv
      obtain ⟨i', j', h1, h2, rfl, rfl⟩ := flat_inv _ _ _ _ _ hv
      rw [addr_add]
      exact (hcell i' j' h1 h2).1.1
    have hn1 : ∀ u ∈ flat (P.cellsOf e) new.length vs, u.oneCell' = true := by
      intro u hu'
      obtain ⟨q, hq⟩ := List.getElem?_of_mem hu'
      obtain ⟨i', j', h1, h2, rfl, rfl⟩ := flat_inv _ _ _ _ _ hq
      have h3 := List.getElem?_eq_getElem h1
      have h4 : new[i'].length = P.cellsOf e := rows_size hnd _ (List.mem_of_getElem? h3)
      exact ((hcell i' j' h1 h2).2 _ _ h3 (List.getElem?_eq_getElem (by omega))).oneCell
    have hrn : ∀ (i' j' : Nat) (r : List C) (c : C) (v : Value), new[i']? = some r → r[j']? = some c → (flat (P.cellsOf e) new.length vs)[i' * P.cellsOf e + j']? = some v → Rd P E.w E.S v c := by
      intro i' j' r c v h1 h2 h3
      have h4 : i' < new.length := (List.getElem?_eq_some_iff.1 h1).1
      have h5 : j' < P.cellsOf e := by rw [← rows_size hnd r (List.mem_of_getElem? h1)]; exact (List.getElem?_eq_some_iff.1 h2).1
      rw [flat_get _ _ _ _ _ h4 h5] at h3
      cases h3
      exact (hcell i' j' h4 h5).2 r c h1 h2
    have hmax63 : ((rows.length + new.length : Nat) : Int) ≤ 9223372036854775807 := by simp only [maxLen] at hmax; omega
    have grow : capa < rows.length + new.length → ∀ (ad : Addr) (olds : List Value), aa = some ad → olds.length = rows.length * P.cellsOf e →
        (∀ (j : Nat) (v : Value), olds[j]? = some v → E.w.cell? (ad.add j) = some v) →
        (∀ (i' j' : Nat) (r : List C) (c : C) (v : Value), rows[i']? = some r → r[j']? = some c → olds[i' * P.cellsOf e + j']? = some v → Rd P E.w E.S v c) →
        ∃ v' E', (Builtin.append_ #[ty, ty] tt #[.slice aa rows.length capa, .slice (some ⟨b, off, none⟩) new.length capb]).run P E.w = .ok v' E'.w ∧ E.le E' ∧
          WI P B X w0 S0 E' { s with p := s.p ||| 2 ^ d, xo := s.xo ||| maskO x, xn := s.xn ||| maskN x } ∧ VR P E' v' (.own true d e (rows ++ new)) := by
      intro hlt ad olds ha holen hoc hor
      subst ha
      have hrun := run_append_grow (P := P) E.w ty tt e i z hu hi hiz ad rows.length capa olds (by rw [holen, hsize]) hoc ⟨b, off, none⟩ new.length capb _ hnl hnc hlt hmax63
        (growslice_fits hlt (by rw [hbyt]; exact hbytes))
      obtain ⟨E', hw, hle, hwi, hv⟩ := grow_env (old := x.oid s.p) (s' := { s with p := s.p ||| 2 ^ d, xo := s.xo ||| maskO x, xn := s.xn ||| maskN x }) h
        (olds := olds) (news := flat (P.cellsOf e) new.length vs) (Z := (Builtin.zeroCells z.cells (grownCap E.w (rows.length + new.length) capa e - (rows.length + new.length))).toList) hszall holen (flat_length _ _ _)
        (grownCap_ge E.w _ _ _) (grownCap_le_maxLen _ _ _ _ hmax) (by rw [Array.length_toList, zeroCells_size, hzs]) hor hrn hd rfl hp hxn' hxo' holdp
      exact ⟨_, E', by rw [hw]; exact hrun, hle, hwi, hv⟩
    rcases hkind with ⟨a', n', hf⟩ | ⟨nw, k, hid, hreg⟩
    · -- full: a new array
      cases hf
      · cases aa with
        | none =>
          have hr0 : rows = [] := by
            by_cases h1 : rows = []
            · exact h1
            · obtain ⟨_, _, _, _, he, _⟩ := hrd.cells h1; cases he
          subst hr0
          have hrun := run_append_nil (P := P) E.w ty tt e i z hu hi hiz ⟨b, off, none⟩ new.length capb _ hnl hnc hm0 (by simpa using hmax63) (by rw [hbyt]; have := hbytes; simp only [List.length_nil, Nat.zero_add] at this; omega)
          obtain ⟨E', hw, hle, hwi, hv⟩ := grow_env (old := x.oid s.p) (s' := { s with p := s.p ||| 2 ^ d, xo := s.xo ||| maskO x, xn := s.xn ||| maskN x }) h
            (rows := []) (olds := []) (news := flat (P.cellsOf e) new.length vs) (Z := (Builtin.zeroCells z.cells (grownCap E.w new.length 0 e - new.length)).toList) (cap := grownCap E.w new.length 0 e) hszall (by simp) (flat_length _ _ _)
            (by simp [grownCap_ge]) (grownCap_le_maxLen _ _ _ _ (by simpa using hmax)) (by rw [Array.length_toList, zeroCells_size, hzs]; simp) (by simp) hrn hd rfl hp hxn' hxo' holdp
          refine ⟨_, E', ?_, hle, hwi, hv⟩
          rw [hw]
          have hrun' := hrun
          simp only [List.length_nil, Nat.zero_add] at hrun' ⊢
          rw [hrun']
          simp
        | some ad =>
          by_cases hr0 : rows = []
          · subst hr0
            exact grow (by simpa using hm0) ad [] rfl (by simp) (by simp) (by simp)
          · obtain ⟨b2, off2, cap3, vs2, he, _, _, hcell2⟩ := hrd.cells hr0
            cases he
            refine grow (by omega) ⟨b2, off2, none⟩ (flat (P.cellsOf e) rows.length vs2) rfl (flat_length _ _ _) ?_ ?_
            · intro j v hv
              obtain ⟨i', j', h1, h2, rfl, rfl⟩ := flat_inv _ _ _ _ _ hv
              rw [addr_add]
              exact (hcell2 i' j' h1 h2).1.1
            · intro i' j' r c v h1 h2 h3
              have h4 : i' < rows.length := (List.getElem?_eq_some_iff.1 h1).1
              have h5 : j' < P.cellsOf e := by rw [← rows_size hrd r (List.mem_of_getElem? h1)]; exact (List.getElem?_eq_some_iff.1 h2).1
              rw [flat_get _ _ _ _ _ h4 h5] at h3
              cases h3
              exact (hcell2 i' j' h4 h5).2 r c h1 h2
    · obtain ⟨⟨g, n', cap', cur, e2, hv', hB, hh, hcs, hnc', hmx', hfr⟩, hl⟩ := h.own _ _ _ _ hreg
      cases hv'
      by_cases hroom : rows.length + new.length ≤ capa
      · have hfit : rows.length * i.size + (flat (P.cellsOf e) new.length vs).length ≤ cur.size := by
          rw [hnl, hsize, ← Nat.add_mul]; exact Nat.le_trans (Nat.mul_le_mul_right _ hroom) hcs
        have hrun := run_append_room2 (P := P) E.w ty tt e e2 i hu hi g rows.length capa cur hh ⟨b, off, none⟩ new.length capb _ hnl hnc hn1 hroom hfit
        obtain ⟨E', hw, hle, hwi, hv⟩ := room_env (s' := { s with p := s.p ||| 2 ^ d, xo := s.xo ||| maskO x, xn := s.xn ||| maskN x }) h (news := flat (P.cellsOf e) new.length vs) hszall (flat_length _ _ _) hreg hh hroom hrd hrn hd rfl hp
          (fun i hi => hxn' i (hi.imp_right fun h1 => by rw [hid]; exact h1)) (fun i hi => hxo' i (hi.imp_right fun h1 => by rw [hid]; exact h1))
        refine ⟨_, E', ?_, hle, hwi, hv⟩
        rw [hw, hrun, hsize]
      · refine grow (by omega) ⟨g, 0, none⟩ (cur.toList.take (rows.length * P.cellsOf e)) rfl ?_ ?_ ?_
        · have h1 : capa * P.cellsOf e ≤ cur.toList.length := by simpa using hcs
          have h2 : rows.length * P.cellsOf e ≤ capa * P.cellsOf e := Nat.mul_le_mul_right _ hcapa
          rw [List.length_take]; omega
        · intro j v hv
          rw [List.getElem?_take] at hv
          split at hv
          · rw [addr_add, cell_of_row _ _ _ _ _ _ hh]; simpa using hv
          · cases hv
        · intro i' j' r c v h1 h2 h3
          have h4 : i' < rows.length := (List.getElem?_eq_some_iff.1 h1).1
          have h5 : j' < P.cellsOf e := by rw [← rows_size hrd r (List.mem_of_getElem? h1)]; exact (List.getElem?_eq_some_iff.1 h2).1
          obtain ⟨b2, off2, cap3, vs2, he, _, _, hcell2⟩ := hrd.cells (by intro hc; rw [hc] at h4; simp at h4)
          cases he
          have := hcell2 i' j' h4 h5
          rw [cell_of_row _ _ _ _ _ _ hh, Nat.zero_add] at this
          rw [List.getElem?_take] at h3
          split at h3
          · have h6 : cur[i' * P.cellsOf e + j']? = some v := by simpa using h3
            rw [h6] at this
            obtain ⟨⟨h7, _⟩, h8⟩ := this
            cases h7
            exact h8 r c h1 h2
          · cases h3
end

end Go.Rb
