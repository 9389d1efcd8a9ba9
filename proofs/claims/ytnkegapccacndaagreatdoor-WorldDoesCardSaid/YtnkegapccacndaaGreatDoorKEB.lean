/-
  What is proved, part by part: operations that only look hand back what is said of them, operation by operation. operations that only look hand back what is said of them, operation by operation. operations that only look hand back what is said of them. how operations of the model run: append, make, clear, nil held against a slice. states of an activation change step by step: a temporary is written, blocks are made, written, replaced. rows are frozen where they are handed on as data; cells that are data make rows. variables are made and written. append does to a state what is said of it. slices that are written down, made, cleared. Conditions: none.
-/
import Derived.Test.YtnkegapccacndaaGreatDoorKEA
import Derived.Laws.AppendOwn
import Derived.Deep.DeepAppendWide
import Derived.Lib.AppendZeros
set_option linter.unusedVariables false
set_option linter.unusedSimpArgs false
set_option linter.unnecessarySimpa false
set_option maxRecDepth 4000
namespace Go.Kx
open Go.Rb
section
variable {P : Program} {T : TT} {B : Nat} {X : Nat → Prop} {w0 : World} {S0 : Nat → Nat → Prop} {pa : List ((Nat → Value) × (Nat → RV))} {E : Env} {σ : KS} {tm : Nat → Value}
theorem zfU (s : List UInt8) : (⟨List.toArray s⟩ : ByteArray).size = s.length := by simp [ByteArray.size]
theorem ztX (s : List UInt8) : (⟨List.toArray s⟩ : ByteArray).toList = s := by
 have key : ∀ (n i : Nat) (acc : List UInt8), s.length - i = n → i ≤ s.length → ByteArray.toList.loop ⟨List.toArray s⟩ i acc = acc.reverse ++ s.drop i := by
  intro n
  induction n with
  | zero =>
   intro i acc h h'
   unfold ByteArray.toList.loop
   rw [if_neg (by rw [zfU]; omega), List.drop_of_length_le (by omega), List.append_nil]
  | succ n ih =>
   intro i acc h h'
   unfold ByteArray.toList.loop
   rw [if_pos (by rw [zfU]; omega), ih _ _ (by omega) (by omega), List.drop_eq_getElem_cons (by omega : i < s.length)]
   have : ByteArray.get! ⟨List.toArray s⟩ i = s[i] := by
    simp [ByteArray.get!, show i < s.length by omega]
   rw [this]
   simp
 have := key s.length 0 [] (by omega) (by omega)
 simpa [ByteArray.toList] using this
theorem bapp (s t : List UInt8) : (⟨List.toArray s⟩ : ByteArray) ++ ⟨List.toArray t⟩ = ⟨List.toArray (s ++ t)⟩ := by
 apply ByteArray.ext
 simp [ByteArray.data_append]
theorem bext (s : List UInt8) (a b : Nat) : (⟨List.toArray s⟩ : ByteArray).extract a b = ⟨List.toArray ((s.take b).drop a)⟩ := by
 apply ByteArray.ext
 rw [ByteArray.data_extract]
 simp [List.drop_take]
theorem zvy {k : IntKind} (n : Int) (H : Nat → Hd) : av3 H (.d (.int k) n) = .c (.int k n) := rfl
theorem zuP (b : Bool) (H : Nat → Hd) : av3 H (.d .bool b) = .c (.bool b) := rfl
theorem zJ {α : Type} {x : α} (h : Rdr.run σ (Rdr.fail : Rdr α) = some x) : False := by cases h
theorem zvz {op : BinOp} {k k' : IntKind} {a b : Int} {t : TypeId} {r : RV} (hk : z8y op = true ∨ k = k') (h : Rdr.run σ (ibR op k a b) = some r) :
  ybin P op t (.c (.int k a)) (.c (.int k' b)) = some (av3 σ.H r) ∧ ok3 σ.H r := by
 simp only [ybin]
 rw [if_pos hk]
 cases op <;> simp only [ibR, Rdr.run, iop, eqI, ltI, cond] at h ⊢
 all_goals try (cases h; done)
 all_goals try (cases h; exact ⟨rfl, trivial⟩)
 ·have hb : (b == 0) = false := by cases hq : (b == 0) <;> rw [hq] at h <;> first | rfl | cases h
  rw [hb] at h; rw [if_neg (by simpa using hb)]; cases h; exact ⟨rfl, trivial⟩
 ·have hb : (b == 0) = false := by cases hq : (b == 0) <;> rw [hq] at h <;> first | rfl | cases h
  rw [hb] at h; rw [if_neg (by simpa using hb)]; cases h; exact ⟨rfl, trivial⟩
 ·have hb : decide (b < 0) = false := by cases hq : decide (b < 0) <;> rw [hq] at h <;> first | rfl | cases h
  rw [hb] at h; rw [if_neg (by simpa using hb)]; cases h; exact ⟨rfl, trivial⟩
 ·have hb : decide (b < 0) = false := by cases hq : decide (b < 0) <;> rw [hq] at h <;> first | rfl | cases h
  rw [hb] at h; rw [if_neg (by simpa using hb)]; cases h; exact ⟨rfl, trivial⟩
theorem zuQ {op : BinOp} {t : TypeId} (a b : List UInt8) {r : RV} (h : Rdr.run σ (match op with
  | .add => .test (Jl a b) (.ret (.d .str (catS a b))) .fail
  | .eql => .ret (.d .bool (eqS a b))
  | .neq => .ret (.d .bool (notB (eqS a b)))
  | _ => Rdr.fail) = some r) : ybin P op t (.c (.str ⟨List.toArray a⟩)) (.c (.str ⟨List.toArray b⟩)) = some (av3 σ.H r) ∧ ok3 σ.H r := by
 simp only [ybin, zfU, ztX, bapp]
 split at h
 ·simp only [Rdr.run, Jl] at h
  by_cases hs : (a.length : Int) + b.length ≤ 9223372036854775807
  ·simp only [hs, decide_true, cond, Rdr.run, Option.some.injEq] at h
   subst h
   simp only [hs, if_true]
   exact ⟨rfl, trivial⟩
  ·simp only [hs, decide_false, cond, Rdr.run] at h
   cases h
 ·cases h; exact ⟨rfl, trivial⟩
 ·cases h; exact ⟨rfl, trivial⟩
 ·exact (zJ h).elim
theorem zuR (hT : TOK P T) {op : BinOp} {t : TypeId} {x y r : RV} (h : Rdr.run σ (binR T op t x y) = some r) :
  (ybin P op t (av3 σ.H x) (av3 σ.H y) = some (av3 σ.H r) ∧ ok3 σ.H r) ∨
   (∃ xs ys a b d fs rr, x = .ag xs ∧ y = .ag ys ∧ z0U xs = some a ∧ z0U ys = some b ∧ T t = some d ∧ d.k = .st fs ∧ d.rt = some rr ∧ a.length = d.cells ∧ b.length = d.cells ∧ z0U (Y0 rr) ≠ none ∧ (op = .eql ∨ op = .neq) ∧
    r = .d .bool (if op = .eql then eqL a b else notB (eqL a b))) := by
 unfold binR at h
 split at h
 ·split at h
  ·rename_i hk
   exact .inl (zvz hk h)
  ·exact (zJ h).elim
 ·split at h
  ·rename_i hd
   have hu := hT.bool _ _ hd rfl
   left
   simp only [zuP, ybin, hu]
   split at h
   ·cases h; exact ⟨rfl, trivial⟩
   ·cases h; exact ⟨rfl, trivial⟩
   ·exact (zJ h).elim
  ·exact (zJ h).elim
 ·rename_i a b
  exact .inl (zuQ (P := P) (t := t) a b h)
 ·rename_i xs ys
  split at h
  ·rename_i a b fs n q1 q2 h1 h2 h3
   split at h
   ·rename_i hl
    right
    split at h
    ·cases h; exact ⟨xs, ys, a, b, _, fs, _, rfl, rfl, h1, h2, h3, rfl, rfl, hl.1, hl.2.1, (fun h0 => by have := hl.2.2; rw [h0] at this; cases this), .inl rfl, rfl⟩
    ·cases h; exact ⟨xs, ys, a, b, _, fs, _, rfl, rfl, h1, h2, h3, rfl, rfl, hl.1, hl.2.1, (fun h0 => by have := hl.2.2; rw [h0] at this; cases this), .inr rfl, by simp⟩
    ·exact (zJ h).elim
   ·exact (zJ h).elim
  ·exact (zJ h).elim
 ·exact (zJ h).elim
theorem zuS (hT : TOK P T) {op : BinOp} {t : TypeId} {x r : RV} (h : Rdr.run σ (ifcR T op t x) = some r) : yifc P op t (av3 σ.H x) = some (av3 σ.H r) ∧ ok3 σ.H r := by
 unfold ifcR at h
 split at h
 ·rename_i hd
  obtain ⟨ms, hu⟩ := hT.ifc _ _ hd rfl
  cases h
  exact ⟨by show yifc P .eql t (.ifc _) = _; simp only [yifc, hu]; rfl, trivial⟩
 ·rename_i hd
  obtain ⟨ms, hu⟩ := hT.ifc _ _ hd rfl
  cases h
  exact ⟨by show yifc P .neq t (.ifc _) = _; simp only [yifc, hu]; rfl, trivial⟩
 ·exact (zJ h).elim
theorem zvA {op : UnOp} {x r : RV} (h : Rdr.run σ (unR op x) = some r) : yun op (av3 σ.H x) = some (av3 σ.H r) ∧ ok3 σ.H r := by
 unfold unR at h
 split at h
 ·cases h; exact ⟨rfl, trivial⟩
 ·cases h; exact ⟨rfl, trivial⟩
 ·exact (zJ h).elim
theorem zvB (hT : TOK P T) {t : TypeId} {d : TD} {ag : Bool} (h : T t = some d) (ha : d.agg = some ag) : YW P t = some ag := by
 unfold TD.agg at ha
 unfold YW
 split at ha
 ·rename_i fs hk
  obtain ⟨fs', hu, _⟩ := hT.st t d fs h hk
  rw [hu]; exact ha
 ·cases ha
 ·cases ha
 ·cases ha
 ·rename_i hk1 hk2 hk3 hk4
  cases hk : d.k with
  | int k => rw [hT.int t d k h hk]; exact ha
  | bool => rw [hT.bool t d h hk]; exact ha
  | str => rw [hT.str t d h hk]; exact ha
  | sl e => rw [(hT.sl t d e h hk).1]; exact ha
  | st fs => exact absurd hk (hk1 fs)
  | other => exact absurd hk hk2
  | ifc => exact absurd hk hk3
  | mp => exact absurd hk hk4
theorem z39 {l g n cnt : Nat} {e : TypeId} (h : σ.H l = .cells g n cnt e) : σ.m l = (List.range n).map fun j => av1 σ.H (σ.C l j) := by simp [KS.m, h]
theorem Y4 {l g : Nat} {e : TypeId} {r : RT} {rows : List (DenR r)} (h : σ.H l = .flat g false e r rows) : σ.m l = (rw' r rows).flatten.map .c := by simp [KS.m, h, rw']
theorem z4Y (l : Nat) : ∀ (n off : Nat), Rdr.run σ (z8B l off n) = some ((List.range n).map fun j => σ.C l (off + j))
 | 0, off => rfl
 | n + 1, off => by
  simp only [z8B, Rdr.run, Rdr.run_bind, z4Y l n (off + 1), Option.bind_some, Rdr.run]
  rw [List.range_succ_eq_map, List.map_cons, List.map_map]
  congr 1
  refine congrArg (σ.C l off :: ·) (List.map_congr_left fun j _ => ?_)
  show σ.C l (off + 1 + j) = σ.C l (off + (j + 1))
  rw [Nat.add_assoc, Nat.add_comm 1 j]
theorem zqA {x r : RV} (h : Rdr.run σ (zkA x) = some r) : x.isCell = true ∧ r = x := by
 unfold zkA at h
 split at h
 ·rename_i hc; cases h; exact ⟨hc, rfl⟩
 ·cases h
theorem zou {l j : Nat} (hr : RelE P B X w0 S0 pa E tm σ) {g n cnt : Nat} {e : TypeId} (h : σ.H l = .cells g n cnt e) (hj : j < n) : ok1 σ.H (σ.C l j) := by
 have := hr.okC l j
 rw [okC, h] at this
 exact this hj
theorem ziA {r : RT} {rows : List (DenR r)} {i k n : Nat} {y : DenR r} (hi : rows[i]? = some y) (hk : k + n ≤ r.size) :
  ((rw' r rows).flatten.drop (i * r.size + k)).take n = ((encR r y).drop k).take n := by
 apply List.ext_getElem?
 intro j
 rw [List.getElem?_take, List.getElem?_take]
 split
 ·rename_i hj
  rw [List.getElem?_drop, List.getElem?_drop]
  have hlt : k + j < (encR r y).length := by rw [ZW]; omega
  have h1 := List.getElem?_eq_getElem hlt
  rw [h1, Nat.add_assoc]
  exact zbe hi h1
 ·rfl
theorem ziB {ag : Bool} {n o : Nat} {r : RT} {y : DenR r} {v : RV} (h : z5A ag n o (zV r y) = some v) (H : Nat → Hd) :
  (ag = true ∧ o + n ≤ r.size ∧ av3 H v = .agg ((((encR r y).drop o).take n).map .c) ∧ ok3 H v) ∨ (ag = false ∧ o < r.size ∧ ∃ c, (encR r y)[o]? = some c ∧ av3 H v = .c c ∧ ok3 H v) := by
 unfold z5A at h
 cases ag with
 | true =>
  simp only [if_true] at h
  split at h
  ·rename_i hc
   rw [z7h] at hc
   cases h
   refine .inl ⟨rfl, hc, ?_, fun x hx => ?_⟩
   ·show AV.agg (List.map (av1 H) _) = _
    rw [List.map_take, List.map_drop, vk, ← List.map_drop, ← List.map_take]
   ·obtain ⟨c, z, rfl⟩ := Jo r y x (List.mem_of_mem_drop (List.mem_of_mem_take hx))
    trivial
  ·cases h
 | false =>
  simp only [Bool.false_eq_true, if_false] at h
  have hlt := (List.getElem?_eq_some_iff.1 h).1
  rw [z7h] at hlt
  obtain ⟨c, z, hv⟩ := Jo r y v (List.mem_of_getElem? h)
  subst hv
  refine .inr ⟨rfl, hlt, enc c z, ?_, rfl, trivial⟩
  have h1 : ((zV r y).map (av1 H))[o]? = some (.c (enc c z)) := by rw [List.getElem?_map, h]; rfl
  rw [vk, List.getElem?_map, Option.map_eq_some_iff] at h1
  obtain ⟨c', h2, h3⟩ := h1
  cases h3
  exact h2
theorem zhO (hT : TOK P T) (hr : RelE P B X w0 S0 pa E tm σ) {t : TypeId} {x r : RV} (h : Rdr.run σ (zfM T t x) = some r) : z3A P t σ.m (av3 σ.H x) = some (av3 σ.H r) ∧ ok3 σ.H r := by
 unfold zfM at h
 split at h
 ·exact (zJ h).elim
 ·rename_i d hd
  have hc := hT.c t d hd
  split at h
  ·exact (zJ h).elim
  ·rename_i ag hag
   have hat := zvB hT hd hag
   split at h
   ·rename_i l g off
    simp only [Rdr.run, KS.lk, Sl.hd!] at h
    split at h
    ·rename_i g' n cnt e hH
     split at h
     ·rename_i hg
      obtain ⟨rfl, hn, hpos⟩ := hg
      have hx : av3 σ.H (.ptr l g off) = .ptr l off := by show avP σ.H l g off = _; simp [avP, hH]
      rw [hx]
      simp only [z3A, hat, z39 hH]
      cases ag with
      | true =>
       simp only [if_true, Rdr.run_bind, z4Y, Option.bind_some, Rdr.run, Option.some.injEq] at h
       subst h
       refine ⟨?_, fun y hy => ?_⟩
       ·simp only
        rw [if_pos ⟨by rw [hc.1]; simpa using hn, hc.2.2⟩]
        congr 1
        show _ = AV.agg (List.map (av1 σ.H) _)
        congr 1
        rw [hc.1, List.map_map]
        apply List.ext_getElem?
        intro j
        rw [List.getElem?_take, List.getElem?_map]
        split
        ·rename_i hj
         have h9 : off + j < n := by omega
         rw [List.getElem?_drop, List.getElem?_map, List.getElem?_range hj, List.getElem?_range h9]
         rfl
        ·rename_i hj
         rw [List.getElem?_eq_none (by simpa using hj)]; rfl
       ·simp only [List.mem_map, List.mem_range] at hy
        obtain ⟨j, hj, rfl⟩ := hy
        exact zou hr hH (by omega)
      | false =>
       replace h : Rdr.run σ (zkA (σ.C l off)) = some r := h
       obtain ⟨hcell, rfl⟩ := zqA h
       have hoff : off < n := by omega
       refine ⟨?_, ?_⟩
       ·simp only
        rw [List.getElem?_map, List.getElem?_range hoff, z5D hcell]
        rfl
       ·obtain ⟨g1, g2⟩ := z13 hcell
        exact z5C _ _ (z8F _ _ (zou hr hH hoff) g1) g2
     ·exact (zJ h).elim
    ·exact (zJ h).elim
   ·rename_i l g e i k
    simp only [Rdr.run, KS.lk, Sl.hd!] at h
    split at h
    ·rename_i g' e' r' rows hH
     split at h
     ·rename_i hg
      obtain ⟨rfl, rfl⟩ := hg
      simp only [atN] at h
      cases hi : rows[i]? with
      | none => rw [hi] at h; cases h
      | some y =>
       rw [hi] at h
       replace h : Rdr.run σ (optR (z5A ag d.cells k (zV r' y))) = some r := h
       have hx : av3 σ.H (.pel l g e i k) = .ptr l (i * r'.size + k) := by show avE σ.H l g e i k = _; simp [avE, hH]
       rw [hx]
       have hm := Y4 hH
       have hilt : i < rows.length := (List.getElem?_eq_some_iff.1 hi).1
       have hib : (i + 1) * r'.size ≤ rows.length * r'.size := Nat.mul_le_mul_right _ hilt
       rw [Nat.add_mul, Nat.one_mul] at hib
       cases hcr : z5A ag d.cells k (zV r' y) with
       | none => rw [hcr] at h; cases h
       | some v =>
        rw [hcr] at h
        cases h
        simp only [z3A, hat, hm]
        rcases ziB hcr σ.H with ⟨rfl, h1, h2, h3⟩ | ⟨rfl, h1, c, h2, h3, h4⟩
        ·refine ⟨?_, h3⟩
         simp only
         rw [if_pos ⟨by rw [List.length_map, zot, hc.1]; omega, hc.2.2⟩, h2, ← List.map_drop, ← List.map_take, hc.1, ziA hi h1]
        ·refine ⟨?_, h4⟩
         simp only
         rw [h3, List.getElem?_map, zbe hi h2]; rfl
     ·exact (zJ h).elim
    ·exact (zJ h).elim
   ·rename_i r' y o
    cases hcr : z5A ag d.cells o (zV r' y) with
    | none => rw [hcr] at h; cases h
    | some v =>
     rw [hcr] at h
     cases h
     show z3A P t σ.m (.el ((encR r' y).drop o)) = _ ∧ _
     simp only [z3A, hat]
     rcases ziB hcr σ.H with ⟨rfl, h1, h2, h3⟩ | ⟨rfl, h1, c, h2, h3, h4⟩
     ·refine ⟨?_, h3⟩
      simp only
      rw [if_pos ⟨by rw [List.length_drop, ZW, hc.1]; omega, hc.2.2⟩, h2, hc.1]
     ·refine ⟨?_, h4⟩
      simp only
      rw [h3, List.getElem?_drop, Nat.add_zero, h2]; rfl
   ·exact (zJ h).elim
end
end Go.Kx
namespace Go.Kx
open Go.Rb
section
variable {P : Program} {T : TT} {B : Nat} {X : Nat → Prop} {w0 : World} {S0 : Nat → Nat → Prop} {pa : List ((Nat → Value) × (Nat → RV))} {E : Env} {σ : KS} {tm : Nat → Value}
theorem zqB {l g o : Nat} (h : Rdr.run σ (vld0 (.ptr l g o)) = some ()) : (∀ o', av3 σ.H (.ptr l g o') = .ptr l o') ∧ ∃ n cnt e, σ.H l = .cells g n cnt e := by
 simp only [vld0, Rdr.run, KS.lk, Sl.hd!] at h
 split at h
 ·rename_i g' n cnt e hH
  split at h
  ·rename_i hg
   subst hg
   refine ⟨fun o' => ?_, _, _, _, hH⟩
   show avP σ.H l g o' = _
   simp [avP, hH]
  ·cases h
 ·cases h
theorem ziC {l g i k : Nat} {e : TypeId} (h : Rdr.run σ (vld0 (.pel l g e i k)) = some ()) : ∃ r rows, σ.H l = .flat g false e r rows ∧ ∀ i' k', av3 σ.H (.pel l g e i' k') = .ptr l (i' * r.size + k') := by
 simp only [vld0, Rdr.run, KS.lk, Sl.hd!] at h
 split at h
 ·rename_i g' fr e' r rows hH
  split at h
  ·rename_i hg
   obtain ⟨rfl, rfl, rfl⟩ := hg
   refine ⟨r, rows, hH, fun i' k' => ?_⟩
   show avE σ.H l g e i' k' = _
   simp [avE, hH]
  ·cases h
 ·cases h
theorem zkZ (hT : TOK P T) {t : TypeId} {f : Nat} {x r : RV} (hx : ok3 σ.H x) (h : Rdr.run σ (zfN T t x f) = some r) : zb6 P t f (av3 σ.H x) = some (av3 σ.H r) ∧ ok3 σ.H r := by
 unfold zfN at h
 split at h
 ·rename_i fs c b rt hd
  obtain ⟨fs', hu, hfs, _⟩ := hT.st t _ fs hd rfl
  split at h
  ·rename_i o n hf
   have hfd : ∃ fd, fs'[f]? = some fd ∧ fd.offset = o ∧ P.cellsOf fd.type = n := by
    rw [hfs, List.getElem?_map, Option.map_eq_some_iff] at hf
    obtain ⟨fd, h1, h2⟩ := hf
    cases h2
    exact ⟨fd, by simpa using h1, rfl, rfl⟩
   obtain ⟨fd, h1, rfl, rfl⟩ := hfd
   split at h
   ·cases h
   ·rename_i hn
    simp only [zb6, hu, h1, ne_eq, hn, not_false_eq_true, if_true]
    split at h
    ·rename_i l g off
     simp only [Rdr.run_bind, Option.bind_eq_some_iff, Rdr.run, Option.some.injEq] at h
     obtain ⟨_, h2, rfl⟩ := h
     obtain ⟨h3, _⟩ := zqB h2
     rw [h3, h3]
     exact ⟨rfl, hx⟩
    ·rename_i l g e i k
     simp only [Rdr.run_bind, Option.bind_eq_some_iff, Rdr.run, Option.some.injEq] at h
     obtain ⟨_, h2, rfl⟩ := h
     obtain ⟨r, rows, hH, h3⟩ := ziC h2
     rw [h3, h3]
     exact ⟨by simp only [Nat.add_assoc], hx⟩
    ·rename_i r y k
     cases h
     refine ⟨?_, trivial⟩
     show some (AV.el (((encR r y).drop k).drop fd.offset)) = some (.el ((encR r y).drop (k + fd.offset)))
     rw [List.drop_drop]
    ·cases h
  ·cases h
 ·cases h
theorem ztG {e : TypeId} (rows : List (List C)) : (AV.c (.sl e rows)).rows e = some rows := by simp [AV.rows]
theorem at_some {α : Type} {l : List α} {n : Int} {y : α} (h : atI l n = some y) : 0 ≤ n ∧ n < l.length ∧ l[n.toNat]? = some y := by
 unfold atI at h
 split at h
 ·rename_i h0
  have := (List.getElem?_eq_some_iff.1 h).1
  exact ⟨h0, by omega, h⟩
 ·cases h
theorem z9C {t e : TypeId} {r : RT} {rows : List (DenR r)} {k : IntKind} {n : Int} {y : DenR r} (hu : P.underlying t = some (.slice e)) (hi : (P.info? e).isSome = true) (h : atI rows n = some y) (H : Nat → Hd) :
  z0l P t (.c (.sl e (rw' r rows))) (.c (.int k n)) = some (av3 H (.el r y 0)) := by
 obtain ⟨h0, h1, h2⟩ := at_some h
 have h3 : (rw' r rows).getD n.toNat [] = encR r y := by simp [rw', List.getD, h2]
 simp only [z0l, hu, AV.int?, ztG]
 rw [if_pos ⟨h0, by simpa [rw'] using h1, hi⟩, h3]
 rfl
theorem ziD {n : Int} {f : Nat → RV} {r : RV} : ∀ {c j : Nat}, Rdr.run σ (zfO n f c j) = some r → ∃ q : Nat, j ≤ q ∧ q < j + c ∧ n = (q : Int) ∧ r = f q
 | 0, j, h => by cases h
 | c + 1, j, h => by
  simp only [zfO, Rdr.run] at h
  cases hb : eqI n (j : Int) with
  | true =>
   rw [hb] at h
   have : r = f j := by cases h; rfl
   exact ⟨j, Nat.le_refl _, by omega, by simpa [eqI] using hb, this⟩
  | false =>
   rw [hb] at h
   obtain ⟨q, h1, h2, h3, h4⟩ := ziD (c := c) (j := j + 1) h
   exact ⟨q, by omega, by omega, h3, h4⟩
theorem zsh (hT : TOK P T) (hr : RelE P B X w0 S0 pa E tm σ) {t : TypeId} {x i r : RV} (hx : ok3 σ.H x) (h : Rdr.run σ (zkQ T t x i) = some r) : z0l P t (av3 σ.H x) (av3 σ.H i) = some (av3 σ.H r) ∧ ok3 σ.H r := by
 unfold zkQ at h
 split at h
 ·rename_i e c b rt kk n hd
  obtain ⟨hu, hi⟩ := hT.sl t _ e hd rfl
  show z0l P t (av3 σ.H x) (.c (.int _ n)) = _ ∧ _
  split at h
  ·rename_i e' r' rows
   split at h
   ·rename_i he
    subst he
    cases ha : atI (α := DenR r') rows n with
    | none => rw [ha] at h; cases h
    | some y => rw [ha] at h; cases h; exact ⟨z9C hu hi ha σ.H, trivial⟩
   ·cases h
  ·rename_i l g e'
   simp only [Rdr.run, KS.lk, Sl.hd!] at h
   split at h
   ·rename_i g' fr e2 r' rows hH
    split at h
    ·rename_i hc
     obtain ⟨rfl, rfl, rfl⟩ := hc
     have hsz : r'.size = P.cellsOf e := by have := hr.hd l; rw [hH] at this; exact this
     cases fr with
     | true =>
      have hx' : av3 σ.H (.arw l g e) = .c (.sl e (rw' r' rows)) := by show avW σ.H l g e = _; simp [avW, hH, rw']
      rw [hx']
      replace h : Rdr.run σ (Rdr.ask (atI rows n) fun y => Rdr.ret (RV.el r' y 0)) = some r := h
      cases ha : atI rows n with
      | none => rw [ha] at h; cases h
      | some y => rw [ha] at h; cases h; exact ⟨z9C hu hi ha σ.H, trivial⟩
     | false =>
      have hx' : av3 σ.H (.arw l g e) = .arr l 0 rows.length rows.length e := by show avW σ.H l g e = _; simp [avW, hH]
      rw [hx']
      replace h : Rdr.run σ (Rdr.test (ltL n rows) (Rdr.ret (RV.pel l g e (natI n) 0)) Rdr.fail) = some r := h
      cases hb : ltL n rows with
      | false => rw [hb] at h; cases h
      | true =>
       rw [hb] at h
       cases h
       simp only [ltL, Bool.and_eq_true, decide_eq_true_eq] at hb
       refine ⟨?_, Nat.le_of_eq (by rw [hH]; rfl)⟩
       simp only [z0l, hu, AV.int?]
       rw [if_pos ⟨hb.1, hb.2, rfl, hi⟩]
       show _ = some (avE σ.H l g e (natI n) 0)
       simp [avE, hH, natI, hsz]
    ·cases h
   ·rename_i g' m cnt e2 hH
    split at h
    ·rename_i hc
     obtain ⟨rfl, rfl, rfl⟩ := hc
     obtain ⟨q, _, h2, h3, rfl⟩ := ziD h
     have hcnt : cnt ≠ 0 := by omega
     have hm : m = cnt * P.cellsOf e := by have := hr.hd l; rw [hH] at this; exact this hcnt
     have hx' : av3 σ.H (.arw l g e) = .arr l 0 cnt cnt e := by show avW σ.H l g e = _; simp [avW, hH, hcnt]
     rw [hx']
     subst h3
     refine ⟨?_, Nat.le_of_eq (by rw [hH]; rfl)⟩
     simp only [z0l, hu, AV.int?]
     rw [if_pos ⟨by omega, by omega, trivial, hi⟩]
     show _ = some (avP σ.H l g (q * (m / cnt)))
     have : m / cnt = P.cellsOf e := by rw [hm, Nat.mul_div_cancel_left _ (by omega)]
     simp [avP, hH, this]
    ·cases h
   ·cases h
  ·rename_i l g e' off len
   simp only [Rdr.run, KS.lk, Sl.hd!] at h
   split at h
   ·rename_i g' fr e2 r' rows hH
    split at h
    ·rename_i hc
     obtain ⟨rfl, rfl, rfl⟩ := hc
     have hsz : r'.size = P.cellsOf e := by have := hr.hd l; rw [hH] at this; exact this
     cases fr with
     | true =>
      replace h : Rdr.run σ (Rdr.test (inN rows off len) (Rdr.ask (atI (subN rows off len) n) fun y => Rdr.ret (RV.el r' y 0)) Rdr.fail) = some r := h
      cases hb : inN rows off len with
      | false => simp only [Rdr.run, hb] at h; cases h
      | true =>
       simp only [Rdr.run, hb, cond] at h
       have hin : off + len ≤ rows.length := by simpa [inN] using hb
       have hx' : av3 σ.H (.ars l g e off len) = .c (.sl e (rw' r' (subN rows off len))) := by show avS σ.H l g e off len = _; simp [avS, hH, rw', hin, subN]
       rw [hx']
       cases ha : atI (subN rows off len) n with
       | none => rw [ha] at h; cases h
       | some y => rw [ha] at h; cases h; exact ⟨z9C hu hi ha σ.H, trivial⟩
     | false =>
      have hx' : av3 σ.H (.ars l g e off len) = .arr l (off * r'.size) len (rows.length - off) e := by show avS σ.H l g e off len = _; simp [avS, hH]
      rw [hx']
      replace h : Rdr.run σ (Rdr.test (ltN n len) (Rdr.ret (RV.pel l g e (addN off (natI n)) 0)) Rdr.fail) = some r := h
      cases hb : ltN n len with
      | false => rw [hb] at h; cases h
      | true =>
       rw [hb] at h
       cases h
       simp only [ltN, Bool.and_eq_true, decide_eq_true_eq] at hb
       refine ⟨?_, Nat.le_of_eq (by rw [hH]; rfl)⟩
       simp only [z0l, hu, AV.int?]
       rw [if_pos ⟨hb.1, hb.2, rfl, hi⟩]
       show _ = some (avE σ.H l g e (addN off (natI n)) 0)
       simp [avE, hH, natI, addN, hsz, Nat.add_mul]
    ·cases h
   ·cases h
  ·cases h
 ·cases h
theorem zuT (hT : TOK P T) {t : TypeId} {x r : RV} (h : Rdr.run σ (lenR T t x) = some r) : ylen P t (av3 σ.H x) = some (av3 σ.H r) ∧ ok3 σ.H r := by
 have dat : ∀ {e : TypeId} {rr : RT} (rows : List (DenR rr)), P.underlying t = some (.slice e) → ylen P t (.c (.sl e (rw' rr rows))) = some (.c (.int .i64 rows.length)) := by
  intro e rr rows hu
  simp [ylen, hu, AV.rows, rw']
 unfold lenR at h
 split at h
 ·rename_i e c b rt hd
  obtain ⟨hu, hi⟩ := hT.sl t _ e hd rfl
  split at h
  ·rename_i e' r' rows
   split at h
   ·rename_i he; subst he; cases h; exact ⟨dat (rr := r') rows hu, trivial⟩
   ·cases h
  ·cases h; refine ⟨?_, trivial⟩; show ylen P t .nils = _; simp [ylen, hu, AV.rows]; rfl
  ·rename_i l g e'
   simp only [Rdr.run, KS.lk, Sl.hd!] at h
   split at h
   ·rename_i g' fr e2 r' rows hH
    split at h
    ·rename_i hc
     obtain ⟨rfl, rfl, rfl⟩ := hc
     cases h
     refine ⟨?_, trivial⟩
     cases fr with
     | true =>
      have hx' : av3 σ.H (.arw l g e) = .c (.sl e (rw' r' rows)) := by show avW σ.H l g e = _; simp [avW, hH, rw']
      rw [hx']; exact dat rows hu
     | false =>
      have hx' : av3 σ.H (.arw l g e) = .arr l 0 rows.length rows.length e := by show avW σ.H l g e = _; simp [avW, hH]
      rw [hx']; simp [ylen, hu]; rfl
    ·cases h
   ·rename_i g' m cnt e2 hH
    split at h
    ·rename_i hc
     obtain ⟨rfl, rfl, rfl, hcnt⟩ := hc
     cases h
     refine ⟨?_, trivial⟩
     have hx' : av3 σ.H (.arw l g e) = .arr l 0 cnt cnt e := by show avW σ.H l g e = _; simp [avW, hH, hcnt]
     rw [hx']; simp [ylen, hu]; rfl
    ·cases h
   ·cases h
  ·rename_i l g e' off len
   simp only [Rdr.run, KS.lk, Sl.hd!] at h
   split at h
   ·rename_i g' fr e2 r' rows hH
    split at h
    ·rename_i hc
     obtain ⟨rfl, rfl, rfl⟩ := hc
     cases fr with
     | true =>
      simp only [Rdr.run] at h
      cases hb : inN rows off len with
      | false => rw [hb] at h; cases h
      | true =>
       rw [hb] at h
       have hin : off + len ≤ rows.length := by simpa [inN] using hb
       cases h
       refine ⟨?_, trivial⟩
       have hx' : av3 σ.H (.ars l g e off len) = .c (.sl e (rw' r' (subN rows off len))) := by show avS σ.H l g e off len = _; simp [avS, hH, rw', hin, subN]
       rw [hx']; exact dat _ hu
     | false =>
      cases h
      refine ⟨?_, trivial⟩
      have hx' : av3 σ.H (.ars l g e off len) = .arr l (off * r'.size) len (rows.length - off) e := by show avS σ.H l g e off len = _; simp [avS, hH]
      rw [hx']; simp [ylen, hu]; rfl
    ·cases h
   ·cases h
  ·cases h
 ·rename_i c b rt hd
  have hu := hT.str t _ hd rfl
  split at h
  ·rename_i s
   cases h
   refine ⟨?_, trivial⟩
   show ylen P t (.c (.str ⟨List.toArray (α := UInt8) s⟩)) = _
   simp only [ylen, hu]
   exact congrArg (fun n : Nat => some (AV.c (.int .i64 (n : Int)))) (zfU s)
  ·cases h
 ·cases h
end
end Go.Kx
namespace Go.Kx
open Go.Rb
section
variable {P : Program} {T : TT} {B : Nat} {X : Nat → Prop} {w0 : World} {S0 : Nat → Nat → Prop} {pa : List ((Nat → Value) × (Nat → RV))} {E : Env} {σ : KS} {tm : Nat → Value}
theorem zl0 {lo : Option RV} {a : Option Int} (h : Yp lo = some a) (H : Nat → Hd) (dflt : Nat) : (a = none ∧ lo.map (av3 H) = none) ∨ (∃ n k, a = some n ∧ lo.map (av3 H) = some (.c (.int k n)) ∧ (0 ≤ n → Yn dflt (lo.map (av3 H)) = some n.toNat)) := by
 unfold Yp at h
 split at h
 ·cases h; exact .inl ⟨rfl, rfl⟩
 ·rename_i k n
  cases h
  refine .inr ⟨n, k, rfl, rfl, fun h0 => ?_⟩
  show Yn dflt (some (.c (.int k n))) = _
  simp only [Yn, AV.int?]
  rw [if_pos h0]
 ·cases h
def bnd (len : Nat) (a b : Option Int) : Nat × Nat := ((match a with | none => 0 | some n => n.toNat), (match b with | none => len | some n => n.toNat))
theorem zfV {lo hi : Option RV} {a b : Option Int} (h1 : Yp lo = some a) (h2 : Yp hi = some b) (H : Nat → Hd) {len : Nat} (ha : ∀ n, a = some n → 0 ≤ n) (hb : ∀ n, b = some n → 0 ≤ n) :
  Yn 0 (lo.map (av3 H)) = some (bnd len a b).1 ∧ Yn len (hi.map (av3 H)) = some (bnd len a b).2 := by
 constructor
 ·rcases zl0 h1 H 0 with ⟨rfl, h⟩ | ⟨n, k, rfl, _, h⟩
  ·rw [h]; rfl
  ·exact h (ha n rfl)
 ·rcases zl0 h2 H len with ⟨rfl, h⟩ | ⟨n, k, rfl, _, h⟩
  ·rw [h]; rfl
  ·exact h (hb n rfl)
theorem zov {α : Type} {l : List α} {a b : Option Int} (h : Jn l a b = true) : (∀ n, a = some n → 0 ≤ n) ∧ (∀ n, b = some n → 0 ≤ n) ∧ (bnd l.length a b).1 ≤ (bnd l.length a b).2 ∧ (bnd l.length a b).2 ≤ l.length := by
 cases a <;> cases b <;> simp [Jn, in1, in2, bnd] at h ⊢ <;> omega
theorem ztY {len : Nat} {a b : Option Int} (h : zkB len a b = true) : (∀ n, a = some n → 0 ≤ n) ∧ (∀ n, b = some n → 0 ≤ n) ∧ (bnd len a b).1 ≤ (bnd len a b).2 ∧ (bnd len a b).2 ≤ len := by
 cases a <;> cases b <;> simp [zkB, in1N, in2N, bnd] at h ⊢ <;> omega
theorem zow {α : Type} (l : List α) (a b : Option Int) : z3D l a b = (l.take (bnd l.length a b).2).drop (bnd l.length a b).1 := by
 cases a <;> cases b <;> simp [z3D, yF, YE, sliI, bnd]
theorem zhP (off len : Nat) (a b : Option Int) : z9y off a = off + (bnd len a b).1 := by
 cases a <;> simp [z9y, addN, natI, bnd]
theorem ztZ (len : Nat) (a b : Option Int) : zdz len a b = (bnd len a b).2 - (bnd len a b).1 := by
 cases a <;> cases b <;> simp [zdz, Zh, subI, natI, bnd]
theorem zfW {t e : TypeId} {r : RT} {rows : List (DenR r)} {lo hi : Option RV} {a b : Option Int} (hu : P.underlying t = some (.slice e)) (hi' : (P.info? e).isSome = true) (h1 : Yp lo = some a) (h2 : Yp hi = some b)
  (h : Jn rows a b = true) (H : Nat → Hd) : YB P t (.c (.sl e (rw' r rows))) (lo.map (av3 H)) (hi.map (av3 H)) none = some (av3 H (.d (.sl e r) (z3D rows a b))) := by
 obtain ⟨ha, hb, h3, h4⟩ := zov h
 obtain ⟨h5, h6⟩ := zfV (len := rows.length) h1 h2 H ha hb
 have hl : (rw' r rows).length = rows.length := by simp [rw']
 simp only [YB, z8z, hu, ztG, hl, h5, h6]
 rw [if_pos ⟨h3, h4, hi'⟩]
 show _ = some (AV.c (.sl e (rw' r _)))
 rw [zow]
 simp [rw', List.map_take, List.map_drop]
def Gives (P : Program) (E : Env) (o : Option AV) (r : AV) : Prop := ∃ y, o = some y ∧ ∀ v, VR P E v y → VR P E v r
theorem Gives.of {o : Option AV} {r : AV} (h : o = some r) : Gives P E o r := ⟨r, h, fun _ h => h⟩
theorem zu0 {len cap : Nat} {a b : Option Int} (h : z9x len cap a b = true) : (∀ n, a = some n → 0 ≤ n) ∧ (∀ n, b = some n → 0 ≤ n) ∧ (bnd len a b).1 ≤ (bnd len a b).2 ∧ ((bnd len a b).2 ≤ len ∨ (bnd len a b).2 ≤ cap) := by
 cases a <;> cases b <;> simp [z9x, in1C, in2C, in1N, bnd] at h ⊢ <;> omega
theorem ziE {t e : TypeId} {l off len cap sz : Nat} {lo hi : Option RV} {a b : Option Int} (hu : P.underlying t = some (.slice e)) (hi' : (P.info? e).isSome = true) (hsz : sz = P.cellsOf e) (h1 : Yp lo = some a) (h2 : Yp hi = some b)
  (h : z9x len cap a b = true) (H : Nat → Hd) : Gives P E (YB P t (.arr l (off * sz) len cap e) (lo.map (av3 H)) (hi.map (av3 H)) none) (.arr l ((z9y off a) * sz) (zdz len a b) (cap - (bnd len a b).1) e) := by
 obtain ⟨ha, hb, h3, h4⟩ := zu0 h
 obtain ⟨h5, h6⟩ := zfV (len := len) h1 h2 H ha hb
 have he : YB P t (.arr l (off * sz) len cap e) (lo.map (av3 H)) (hi.map (av3 H)) none = some (.arr l (off * sz + (bnd len a b).1 * P.cellsOf e) ((bnd len a b).2 - (bnd len a b).1) (cap - (bnd len a b).1) e) := by
  simp only [YB, z8A, hu, h5, h6, hi', and_self, if_true]
  rw [if_pos ⟨h3, h4⟩]
 refine ⟨_, he, fun v hv => ?_⟩
 rw [zhP off len a b, ztZ, Nat.add_mul, hsz] 
 rw [hsz] at hv
 exact hv
theorem zqC (hT : TOK P T) (hr : RelE P B X w0 S0 pa E tm σ) {t : TypeId} {x lo hi mx r : RV} (h : Rdr.run σ (zhK T t x lo hi mx) = some r) :
  Gives P E (YB P t (av3 σ.H x) (some (av3 σ.H lo)) (some (av3 σ.H hi)) (some (av3 σ.H mx))) (av3 σ.H r) ∧ ok3 σ.H r := by
 unfold zhK at h
 split at h
 ·rename_i e c bb rt l g e' k1 a0 k2 b0 k3 m0 hd
  obtain ⟨a, rfl⟩ : ∃ a : Int, a = a0 := ⟨a0, rfl⟩
  obtain ⟨b, rfl⟩ : ∃ b : Int, b = b0 := ⟨b0, rfl⟩
  obtain ⟨m, rfl⟩ : ∃ m : Int, m = m0 := ⟨m0, rfl⟩
  obtain ⟨hu, hi'⟩ := hT.sl _ _ e hd rfl
  simp only [Rdr.run, KS.lk, Sl.hd!] at h
  split at h
  ·rename_i g' e2 r' rows hH
   split at h
   ·rename_i hc
    obtain ⟨rfl, rfl, rfl⟩ := hc
    have hsz : r'.size = P.cellsOf e := by have := hr.hd l; rw [hH] at this; exact this
    simp only [Rdr.run] at h
    cases hb : (in2 rows a b && eqI m (lenI rows)) with
    | false => rw [hb] at h; cases h
    | true =>
     rw [hb] at h
     cases h
     simp only [in2, eqI, lenI, Bool.and_eq_true, decide_eq_true_eq, beq_iff_eq] at hb
     obtain ⟨⟨h0, h1, h2⟩, rfl⟩ := hb
     have hx' : av3 σ.H (.arw l g e) = .arr l 0 rows.length rows.length e := by show avW σ.H l g e = _; simp [avW, hH]
     have hy : av3 σ.H (.arx l g e (natI a) (subI a b) (capN (lenN rows) (natI a))) = .arx l (natI a * r'.size) (subI a b) (rows.length - natI a) e := by show avX σ.H l g e _ _ _ = _; simp [avX, hH, capN, lenN]
     rw [hx', hy]
     refine ⟨.of ?_, Nat.le_of_eq (by rw [hH]; rfl)⟩
     have hb0 : 0 ≤ b := by omega
     show YB P t _ (some (.c (.int k1 a))) (some (.c (.int k2 b))) (some (.c (.int k3 (rows.length : Int)))) = _
     simp only [YB, z8A, hu, Yn, AV.int?, h0, hb0, hi', and_self, if_true, Int.natCast_nonneg, Int.toNat_natCast]
     rw [if_pos ⟨by omega, by omega, .inl (Nat.le_refl _)⟩]
     simp [natI, subI, hsz]
   ·cases h
  ·cases h
 ·cases h
theorem zqD {t : TypeId} (hu : P.underlying t = some .string) (s : List UInt8) {lo hi : Option RV} {a b : Option Int} (h1 : Yp lo = some a) (h2 : Yp hi = some b) (hb : Jn s a b = true) (H : Nat → Hd) :
  YB P t (.c (.str ⟨List.toArray s⟩)) (lo.map (av3 H)) (hi.map (av3 H)) none = some (.c (.str ⟨List.toArray (z3D s a b)⟩)) := by
 obtain ⟨ha, hb', h3, h4⟩ := zov hb
 obtain ⟨h5, h6⟩ := zfV (len := s.length) h1 h2 H ha hb'
 simp only [YB, z8z, hu, zfU, h5, h6]
 rw [if_pos ⟨h3, h4⟩, bext, zow]
theorem zsi (hT : TOK P T) (hr : RelE P B X w0 S0 pa E tm σ) {t : TypeId} {x r : RV} {lo hi : Option RV} (hx : ok3 σ.H x) (h : Rdr.run σ (zkR T t x lo hi) = some r) :
  Gives P E (YB P t (av3 σ.H x) (lo.map (av3 σ.H)) (hi.map (av3 σ.H)) none) (av3 σ.H r) ∧ ok3 σ.H r := by
 unfold zkR at h
 split at h
 ·rename_i a b h1 h2
  split at h
  ·rename_i e c bb rt hd
   obtain ⟨hu, hi'⟩ := hT.sl t _ e hd rfl
   split at h
   ·rename_i e' r' rows
    split at h
    ·rename_i he
     subst he
     replace h : Rdr.run σ (Rdr.test (Jn (α := DenR r') rows a b) (.ret (.d (.sl e r') (z3D (α := DenR r') rows a b))) .fail) = some r := h
     cases hb : Jn (α := DenR r') rows a b with
     | false => simp only [Rdr.run, hb] at h; cases h
     | true =>
      simp only [Rdr.run, hb, cond] at h
      cases h
      exact ⟨.of (zfW (r := r') hu hi' h1 h2 hb σ.H), trivial⟩
    ·cases h
   ·rename_i l g e'
    simp only [Rdr.run, KS.lk, Sl.hd!] at h
    split at h
    ·rename_i g' fr e2 r' rows hH
     split at h
     ·rename_i hc
      obtain ⟨rfl, rfl, rfl⟩ := hc
      have hsz : r'.size = P.cellsOf e := by have := hr.hd l; rw [hH] at this; exact this
      simp only [Rdr.run] at h
      cases hb : Jn rows a b with
      | false => rw [hb] at h; cases h
      | true =>
       simp only [hb, cond] at h
       cases fr with
       | true =>
        replace h : some (RV.d (.sl e r') (z3D rows a b)) = some r := h
        cases h
        have hx' : av3 σ.H (.arw l g e) = .c (.sl e (rw' r' rows)) := by show avW σ.H l g e = _; simp [avW, hH, rw']
        rw [hx']
        exact ⟨.of (zfW hu hi' h1 h2 hb σ.H), trivial⟩
       | false =>
        replace h : some (RV.ars l g e (z9y 0 a) (zdz (lenN rows) a b)) = some r := h
        cases h
        have hx' : av3 σ.H (.arw l g e) = .arr l (0 * r'.size) rows.length rows.length e := by show avW σ.H l g e = _; simp [avW, hH]
        rw [hx']
        have hy : ∀ o n, av3 σ.H (.ars l g e o n) = .arr l (o * r'.size) n (rows.length - o) e := by intro o n; show avS σ.H l g e o n = _; simp [avS, hH]
        rw [hy]
        have hb' : z9x rows.length rows.length a b = true := by
         cases a <;> cases b <;> simpa [Jn, z9x, in1, in1N, in2, in1C, in2C] using hb
        have := ziE (E := E) (l := l) (off := 0) hu hi' hsz h1 h2 hb' σ.H
        rw [zhP 0 rows.length a b] at this ⊢
        rw [Nat.zero_add] at this ⊢
        exact ⟨this, Nat.le_of_eq (by rw [hH]; rfl)⟩
     ·cases h
    ·cases h
   ·rename_i l g e' off len
    simp only [Rdr.run, KS.lk, Sl.hd!] at h
    split at h
    ·rename_i g' e2 r' rows hH
     split at h
     ·rename_i hc
      obtain ⟨rfl, rfl, rfl⟩ := hc
      have hsz : r'.size = P.cellsOf e := by have := hr.hd l; rw [hH] at this; exact this
      simp only [Rdr.run] at h
      cases hb : z9x len (capN (lenN rows) off) a b with
      | false => rw [hb] at h; cases h
      | true =>
       rw [hb] at h
       cases h
       have hy : ∀ o n, av3 σ.H (.ars l g e o n) = .arr l (o * r'.size) n (rows.length - o) e := by intro o n; show avS σ.H l g e o n = _; simp [avS, hH]
       rw [hy, hy]
       have := ziE (E := E) (l := l) (off := off) hu hi' hsz h1 h2 hb σ.H
       have e9 : capN (lenN rows) off - (bnd len a b).1 = rows.length - z9y off a := by rw [zhP off len a b]; simp only [capN, lenN]; omega
       rw [e9] at this
       exact ⟨this, Nat.le_of_eq (by rw [hH]; rfl)⟩
     ·cases h
    ·cases h
   ·split at h
    ·rename_i k2 c2 b2 rr hd2
     cases hb : zkB 0 a b with
     | false => simp only [Rdr.run, hb] at h; cases h
     | true =>
      simp only [Rdr.run, hb, cond] at h
      cases h
      refine ⟨.of ?_, trivial⟩
      obtain ⟨ha, hb', h3, h4⟩ := ztY hb
      obtain ⟨h5, h6⟩ := zfV (len := 0) h1 h2 σ.H ha hb'
      show YB P t .nils _ _ _ = some (.c (.sl e (rw' rr [])))
      have h7 : (bnd 0 a b).2 = 0 := by omega
      have h8 : (bnd 0 a b).1 = 0 := by omega
      simp only [YB, z8z, hu, AV.rows, List.length_nil, h5, h6, h7, h8]
      rw [if_pos ⟨Nat.le_refl _, Nat.le_refl _, hi'⟩]
      rfl
    ·cases h
   ·cases h
  ·rename_i c bb rt hd
   have hu := hT.str t _ hd rfl
   split at h
   ·rename_i s
    replace h : Rdr.run σ (Rdr.test (Jn (α := UInt8) s a b) (.ret (.d .str (z3D (α := UInt8) s a b))) .fail) = some r := h
    cases hb : Jn (α := UInt8) s a b with
    | false => simp only [Rdr.run, hb] at h; cases h
    | true =>
     simp only [Rdr.run, hb, cond] at h
     cases h
     exact ⟨.of (zqD hu s h1 h2 hb σ.H), trivial⟩
   ·cases h
  ·cases h
 ·cases h
/-! ### Structs -/
theorem zqE (f : RV → AV) (z : List RV) (off : Nat) (cs : List RV) : z4V (z.map f) off (cs.map f) = (VN z off cs).map f := by
 simp [z4V, VN, List.map_take, List.map_drop]
theorem zox {fs : List (Nat × Nat)} {pl : Nat → Option (Nat × Nat)} (hpl : ∀ i, pl i = fs[i]?) : ∀ (ps : List (Nat × RV)) (z z' : List RV), (∀ p ∈ ps, ok3 σ.H p.2) → (∀ y ∈ z, ok1 σ.H y) → Rdr.run σ (zkC fs z ps) = some z' →
  z74 pl (z.map (av1 σ.H)) (ps.map fun p => (p.1, av3 σ.H p.2)) = some (z'.map (av1 σ.H)) ∧ ∀ y ∈ z', ok1 σ.H y
 | [], z, z', _, hz, h => by cases h; exact ⟨rfl, hz⟩
 | (i, x) :: ps, z, z', hp, hz, h => by
  simp only [zkC] at h
  split at h
  ·rename_i off size hf
   simp only [Rdr.run_bind, Option.bind_eq_some_iff] at h
   obtain ⟨cs, h1, h2⟩ := h
   obtain ⟨h3, h4, h5⟩ := z4X h1
   split at h2
   ·rename_i hc
    have hok : ∀ y ∈ VN z off cs, ok1 σ.H y := by
     intro y hy
     simp only [VN, List.mem_append] at hy
     rcases hy with (hy | hy) | hy
     ·exact hz y (List.mem_of_mem_take hy)
     ·exact h5 (hp _ List.mem_cons_self) y hy
     ·exact hz y (List.mem_of_mem_drop hy)
    obtain ⟨h6, h7⟩ := zox hpl ps _ z' (fun p hq => hp p (List.mem_cons_of_mem _ hq)) hok h2
    refine ⟨?_, h7⟩
    simp only [List.map_cons, z74, hpl, hf, h3]
    rw [if_pos ⟨by simpa using hc.1, by simp; exact hc.2⟩, zqE]
    exact h6
   ·cases h2
  ·cases h
theorem zhQ (H : Nat → Hd) : ∀ (r : RT) (y : RV), y ∈ Y0 r → av1 H y = av1 noH y ∧ ok1 H y
 | .one c, y, hy => by
  cases c <;> (have h := List.mem_singleton.1 hy; subst h; exact ⟨rfl, trivial⟩)
 | .cons c r, y, hy => by
  cases c <;> (rcases List.mem_cons.1 hy with h | h; subst h; exact ⟨rfl, trivial⟩; exact zhQ H r y h)
theorem zl1 (H : Nat → Hd) (r : RT) : (Y0 r).map (av1 H) = (Y0 r).map (av1 noH) ∧ ∀ y ∈ Y0 r, ok1 H y :=
 ⟨List.map_congr_left fun y hy => (zhQ H r y hy).1, fun y hy => (zhQ H r y hy).2⟩
theorem zsj (hT : TOK P T) {t : TypeId} {ps : List (Nat × RV)} {r : RV} (hp : ∀ p ∈ ps, ok3 σ.H p.2) (h : Rdr.run σ (zkS T t ps) = some r) :
  zb7 P t (ps.map fun p => (p.1, av3 σ.H p.2)) = some (av3 σ.H r) ∧ ok3 σ.H r := by
 unfold zkS at h
 split at h
 ·rename_i fs c b rr hd
  simp only [Rdr.run_bind, Option.bind_eq_some_iff, Rdr.run, Option.some.injEq] at h
  obtain ⟨z, h1, rfl⟩ := h
  obtain ⟨fs', hu, hfs, hall⟩ := hT.st t _ fs hd rfl
  obtain ⟨_, hz⟩ := hT.rt t _ rr hd rfl
  obtain ⟨hz1, hz2⟩ := zl1 σ.H rr
  have hpl : ∀ i, (fun (i : Nat) => (fs'[i]?).map fun (f : Field) => (f.offset, P.cellsOf f.type)) i = fs[i]? := by
   intro i; rw [hfs, List.getElem?_map]; simp
  obtain ⟨h2, h3⟩ := zox hpl ps (Y0 rr) z hp hz2 h1
  refine ⟨?_, h3⟩
  simp only [zb7, hu, hall, if_true, hz]
  rw [← hz1, h2]
  rfl
 ·cases h
theorem zhR (σ : KS) : ∀ os : List Operand, Rdr.run σ (evL os) = some (os.map (evS σ))
 | [] => rfl
 | o :: os => by simp only [evL, Rdr.run_bind, Zp, zhR σ os, Option.bind_some, Rdr.run, List.map_cons]
theorem zhS (σ : KS) : ∀ os : List (Nat × Operand), Rdr.run σ (evP os) = some (os.map fun p => (p.1, evS σ p.2))
 | [] => rfl
 | (i, o) :: os => by simp only [evP, Rdr.run_bind, Zp, zhS σ os, Option.bind_some, Rdr.run, List.map_cons]
theorem ziF (σ : KS) (o : Option Operand) : Rdr.run σ (zdA o) = some (o.map (evS σ)) := by
 cases o <;> simp [zdA, Rdr.run_bind, Zp, Rdr.run]
theorem zoy (k k' : IntKind) (a b : Int) : ymm true (.c (.int k a)) (.c (.int k' b)) = some (.c (.int k (minI a b))) ∧ ymm false (.c (.int k a)) (.c (.int k' b)) = some (.c (.int k (maxI a b))) := by
 simp only [ymm, if_true, Bool.false_eq_true, if_false, minI, maxI]
 constructor <;> congr 3 <;> omega
theorem zsk (hT : TOK P T) (hr : RelE P B X w0 S0 pa E tm σ) {a : Act} (ha : tm = fun i => a.tmps.getD i undef) {o : Oper} {x : RV} (h : Rdr.run σ (rdR T o.op) = some x) :
  ∃ u, (execOp a.eval o).run P E.w = .ok (.value u) E.w ∧ VR P E u (av3 σ.H x) ∧ ok3 σ.H x := by
 have hev : ∀ q, VR P E (a.eval q) (av3 σ.H (evS σ q)) := fun q => (hr.ev ha q).1
 have hok : ∀ q, ok3 σ.H (evS σ q) := fun q => (hr.ev ha q).2
 have fin : ∀ {y : AV}, yl P (fun q => av3 σ.H (evS σ q)) σ.m o.op = some y → (∀ v, VR P E v y → VR P E v (av3 σ.H x)) → ok3 σ.H x → ∃ u, (execOp a.eval o).run P E.w = .ok (.value u) E.w ∧ VR P E u (av3 σ.H x) ∧ ok3 σ.H x := by
  intro y h1 h2 h3
  obtain ⟨u, hu, hv⟩ := zsg hr.w3.memOK (fun q _ => hev q) h1
  exact ⟨u, hu, h2 u hv, h3⟩
 have fin' : yl P (fun q => av3 σ.H (evS σ q)) σ.m o.op = some (av3 σ.H x) → ok3 σ.H x → ∃ u, (execOp a.eval o).run P E.w = .ok (.value u) E.w ∧ VR P E u (av3 σ.H x) ∧ ok3 σ.H x := fun h1 h2 => fin h1 (fun _ h => h) h2
 obtain ⟨dst, op, ty, pos, after, guard⟩ := o
 simp only at h fin fin'
 unfold rdR at h
 split at h
 ·rw [Zp] at h; cases h; exact fin' rfl (hok _)
 ·rw [Zp] at h; cases h; exact fin' rfl (hok _)
 ·rename_i c p q
  simp only [Rdr.run_bind, Zp, Option.bind_some] at h
  split at h
  ·rename_i t0 hc
   obtain ⟨t, rfl⟩ : ∃ t : Bool, t = t0 := ⟨t0, rfl⟩
   replace h : (bif t then Rdr.run σ (evR p) else Rdr.run σ (evR q)) = some x := h
   rw [Zp, Zp] at h
   have : yl P (fun q => av3 σ.H (evS σ q)) σ.m (.pick c p q) = some (if t = true then av3 σ.H (evS σ p) else av3 σ.H (evS σ q)) := by
    simp only [yl, hc]
    cases t <;> rfl
   cases t with
   | true => cases h; exact fin' this (hok _)
   | false => cases h; exact fin' this (hok _)
  ·cases h
 ·rename_i op' t p q yt
  by_cases hqi : Operand.isNilI q = true
  ·rw [if_pos hqi] at h
   simp only [Rdr.run_bind, Zp, Option.bind_some] at h
   obtain ⟨h1, h2⟩ := zuS hT h
   exact fin' (by simp only [yl, if_pos hqi]; exact h1) h2
  rw [if_neg hqi] at h
  simp only [Rdr.run_bind, Zp, Option.bind_some] at h
  rcases zuR hT h with ⟨h1, h2⟩ | ⟨xs, ys, as, bs, d, fs, rr, e1, e2, h3, h4, h5, h6, h7, h8, h9, hne, hop, rfl⟩
  ·exact fin' (by simp only [yl, if_neg hqi]; exact h1) h2
  ·have ints : ∀ (z : Operand) (zs : List RV) (ns : List Int), evS σ z = .ag zs → z0U zs = some ns → a.eval z = .agg (ns.map (Value.int .i64)).toArray := by
    intro z zs ns hz hn
    have hvz := hev z
    rw [hz] at hvz
    generalize a.eval z = u at *
    have key : ∀ (zs : List RV) (ns : List Int), z0U zs = some ns → zs.map (av1 σ.H) = ns.map fun n => .c (.int .i64 n) := by
     intro zs
     induction zs with
     | nil => intro ns h; cases h; rfl
     | cons q zs ih =>
      intro ns h
      unfold z0U at h
      split at h
      ·rename_i h0; cases h0
      ·rename_i n r h0
       cases h0
       rw [Option.map_eq_some_iff] at h
       obtain ⟨ns', h1, rfl⟩ := h
       simp only [List.map_cons, ih ns' h1]
       rfl
      ·cases h
    have hk := key zs ns hn
    replace hvz : VR P E u (.agg (zs.map (av1 σ.H))) := hvz
    rw [hk] at hvz
    cases hvz with
    | agg vs _ hl h1 hr' =>
     congr 1
     apply Array.ext_getElem?
     intro i
     by_cases hi : i < vs.size
     ·have h2 := Array.getElem?_eq_getElem hi
      have hi' : i < ns.length := by rw [hl, List.length_map] at hi; exact hi
      have h4 := hr' i _ _ h2 (by rw [List.getElem?_map, List.getElem?_eq_getElem hi']; rfl)
      rw [h2, yE h4]
      simp [hi']
     ·have hi' : ¬ i < ns.length := by rw [hl, List.length_map] at hi; exact hi
      simp [Array.getElem?_eq_none (by omega : vs.size ≤ i), hi']
   have heq := hT.eq t d fs rr h5 h6 h7 hne
   have hrun := heq op' as bs p q E.w hop h8 h9
   rw [← ints p xs as e1 h3, ← ints q ys bs e2 h4] at hrun
   refine ⟨_, z35 hrun, ?_, trivial⟩
   exact VR.c _ (.bool (if op' = .eql then decide (as = bs) else !(decide (as = bs)))) (.bool _)
 ·rename_i op' t p
  simp only [Rdr.run_bind, Zp, Option.bind_some] at h
  obtain ⟨h1, h2⟩ := zvA h
  exact fin' h1 h2
 ·rename_i src d' p
  simp only [Rdr.run_bind, Zp, Option.bind_some] at h
  split at h
  ·rename_i k1 c1 b1 r1 k2 c2 b2 r2 k3 n hs hd hx
   cases h
   refine fin' ?_ trivial
   have e1 := hT.int _ _ _ hs rfl
   have e2 := hT.int _ _ _ hd rfl
   simp only [yl, e1, e2, hx, zvy]
   rfl
  ·cases h
 ·rename_i t p
  simp only [Rdr.run_bind, Zp, Option.bind_some] at h
  obtain ⟨h1, h2⟩ := zhO hT hr h
  exact fin' h1 h2
 ·rename_i s p f
  simp only [Rdr.run_bind, Zp, Option.bind_some] at h
  obtain ⟨h1, h2⟩ := zkZ hT (hok p) h
  exact fin' h1 h2
 ·rename_i t p i
  simp only [Rdr.run_bind, Zp, Option.bind_some] at h
  obtain ⟨h1, h2⟩ := zsh hT hr (hok p) h
  exact fin' h1 h2
 ·rename_i t p i
  simp only [Rdr.run_bind, Zp, Option.bind_some] at h
  split at h
  ·rename_i c1 b1 r1 s k n ht hx hi
   have e1 := hT.str _ _ ht rfl
   obtain ⟨s, rfl⟩ : ∃ s' : List UInt8, s' = s := ⟨s, rfl⟩
   replace h : Rdr.run σ (Rdr.ask (atS s n) fun b => Rdr.ret (RV.d (.int .u8) b)) = some x := h
   cases hb : atS s n with
   | none => rw [hb] at h; cases h
   | some b =>
   rw [hb] at h
   cases h
   refine fin' ?_ trivial
   have g1 : av3 σ.H (.d .str s) = .c (.str ⟨List.toArray s⟩) := rfl
   have g2 : av3 σ.H (.d (.int k) n) = .c (.int k n) := rfl
   simp only [yl, hx, hi, g1, g2, zhI, e1]
   unfold atS at hb
   split at hb
   ·rename_i h0
    rw [Option.map_eq_some_iff] at hb
    obtain ⟨c, hc, rfl⟩ := hb
    rw [if_pos h0]
    have : (⟨List.toArray s⟩ : ByteArray)[n.toNat]? = some c := by
     obtain ⟨h3, h4⟩ := List.getElem?_eq_some_iff.1 hc
     have h5 : n.toNat < (⟨List.toArray s⟩ : ByteArray).size := by show _ < (List.toArray s).size; simpa using h3
     rw [getElem?_pos (⟨List.toArray s⟩ : ByteArray) n.toNat h5]
     congr 1
    rw [this]; rfl
   ·cases hb
  ·cases h
 ·rename_i p
  simp only [Rdr.run_bind, Zp, Option.bind_some] at h
  have hokp := hok p
  split at h
  ·rename_i l g off hp
   rw [hp] at hokp
   simp only [Rdr.run, KS.lk, Sl.hd!] at h
   split at h
   ·rename_i g' n cnt e hH
    split at h
    ·rename_i hg
     subst hg
     cases h
     have hx' : av3 σ.H (.ptr l g off) = .ptr l off := by show avP σ.H l g off = _; simp [avP, hH]
     refine fin' ?_ hokp
     simp only [yl, hp, hx']
    ·cases h
   ·cases h
  ·rename_i l g e i k hp
   rw [hp] at hokp
   simp only [Rdr.run_bind, Option.bind_eq_some_iff, Rdr.run, Option.some.injEq] at h
   obtain ⟨_, h2, rfl⟩ := h
   obtain ⟨r, rows, hH, h3⟩ := ziC h2
   refine fin' ?_ hokp
   simp only [yl, hp, h3]
  ·rename_i r y o hp
   cases h
   refine fin' ?_ trivial
   simp only [yl, hp]
   rfl
  ·cases h
 ·rename_i p i
  simp only [Rdr.run_bind, Zp, Option.bind_some] at h
  have hokp := hok p
  split at h
  ·rename_i xs hp
   rw [hp] at hokp
   split at h
   ·cases h
   ·rename_i y hn hy
    cases h
    have hok2 := hokp x (List.mem_of_getElem? hy)
    have hnt : ∀ zs, x ≠ .tup zs := fun zs e => hn zs e
    refine fin' ?_ (z5C _ _ hok2 hnt)
    have hx' : av3 σ.H (.tup xs) = .tup (xs.map (av2 σ.H)) := rfl
    simp only [yl, hp, hx']
    rw [List.getElem?_map, hy, z12 _ _ hnt]; rfl
   ·cases h
  ·cases h
 ·rename_i t ps
  simp only [Rdr.run_bind, zhS, Option.bind_some] at h
  obtain ⟨h1, h2⟩ := zsj hT (fun p hp => by obtain ⟨q, _, rfl⟩ := List.mem_map.1 hp; exact hok _) h
  refine fin' ?_ h2
  simp only [yl]
  rw [List.map_map] at h1
  exact h1
 ·rename_i t p lo hi
  simp only [Rdr.run_bind, Zp, ziF, Option.bind_some] at h
  obtain ⟨⟨y, h1, h2⟩, h3⟩ := zsi hT hr (hok p) h
  refine fin ?_ h2 h3
  simp only [yl, Option.map_none]
  rw [Option.map_map, Option.map_map] at h1
  exact h1
 ·rename_i t p lo hi mx
  simp only [Rdr.run_bind, Zp, Option.bind_some] at h
  obtain ⟨⟨y, h1, h2⟩, h3⟩ := zqC hT hr h
  refine fin ?_ h2 h3
  simp only [yl, Option.map_some]
  exact h1
 ·rename_i f first caps
  split at h
  ·rename_i hf
   simp only [Rdr.run_bind, zhR, Option.bind_some, Option.bind_eq_some_iff, Rdr.run, Option.some.injEq] at h
   obtain ⟨_, h2, rfl⟩ := h
   have h3 := z9B h2
   have hcap : ∀ c ∈ caps.toList, av3 σ.H (evS σ c) = av0 σ.H (evS σ c) ∧ av0 σ.H (evS σ c) ≠ .any ∧ ok0 σ.H (evS σ c) := by
    intro c hc
    obtain ⟨g1, g2, g3⟩ := h3 _ (List.mem_map_of_mem hc)
    obtain ⟨g4, g5⟩ := z13 g2
    refine ⟨by rw [z5D g2, z5r _ _ g3], g1, ?_⟩
    have := z38 (z11 (hok c) g5) g4
    have conv : ∀ z : RV, (∀ f xs, z ≠ .fn f xs) → ok1 σ.H z → ok0 σ.H z := by
     intro z g h
     cases z <;> first | exact absurd rfl (g _ _) | exact h
    exact conv _ g3 this
   have hany : ¬ (((caps.toList.map (evS σ)).map (av0 σ.H)).any AV.isAny = true) := by
    rw [List.any_map, List.any_eq_true]
    rintro ⟨c, hc, hi⟩
    exact (h3 c hc).1 ((jA _).1 hi)
   refine fin' ?_ fun c hc => ?_
   ·simp only [yl, hf, if_true]
    show _ = some (av1 σ.H (.fn f _))
    simp only [av1]
    rw [if_neg hany, List.map_map]
    congr 2
    exact List.map_congr_left fun c hc => (hcap c hc).1
   ·obtain ⟨q, hq, rfl⟩ := List.mem_map.1 hc
    exact (hcap q hq).2.2
  ·cases h
 ·rename_i args ts
  split at h
  ·rename_i p t e1 e2
   simp only [Rdr.run_bind, Zp, Option.bind_some] at h
   obtain ⟨h1, h2⟩ := zuT hT h
   refine fin' ?_ h2
   simp only [yl, zdx, e1, e2]
   exact h1
  ·cases h
 ·rename_i args ts
  split at h
  ·rename_i p t e1 e2
   simp only [Rdr.run_bind, Zp, Option.bind_some] at h
   split at h
   ·rename_i e c b rt hp hd
    cases h
    refine fin' ?_ trivial
    have hu := (hT.sl _ _ e hd rfl).1
    simp only [yl, zdx, e1, e2, hp]
    show ycap P t .nils = _
    simp [ycap, hu]; rfl
   ·cases h
  ·cases h
 ·rename_i args ts
  split at h
  ·rename_i p q e1
   simp only [Rdr.run_bind, Zp, Option.bind_some, mmR] at h
   split at h
   ·rename_i k a' k' b' hp hq
    cases h
    refine fin' ?_ trivial
    simp only [yl, zdx, e1, hp, hq]
    exact (zoy k k' a' b').1
   ·cases h
  ·cases h
 ·rename_i args ts
  split at h
  ·rename_i p q e1
   simp only [Rdr.run_bind, Zp, Option.bind_some, mmR] at h
   split at h
   ·rename_i k a' k' b' hp hq
    cases h
    refine fin' ?_ trivial
    simp only [yl, zdx, e1, hp, hq]
    exact (zoy k k' a' b').2
   ·cases h
  ·cases h
 ·cases h
end
end Go.Kx
namespace Go.Rb
variable {P : Program}
def flat (sz m : Nat) (vs : Nat → Nat → Value) : List Value := (List.range (m * sz)).map fun q => vs (q / sz) (q % sz)
theorem zdZ (sz m : Nat) (vs : Nat → Nat → Value) : (flat sz m vs).length = m * sz := by simp [flat]
theorem zl2 (sz m : Nat) (vs : Nat → Nat → Value) (q : Nat) (v : Value) (h : (flat sz m vs)[q]? = some v) : ∃ i j, i < m ∧ j < sz ∧ q = i * sz + j ∧ v = vs i j := by
 have hq : q < m * sz := by have := (List.getElem?_eq_some_iff.1 h).1; rwa [zdZ] at this
 have hsz : 0 < sz := by
  rcases Nat.eq_zero_or_pos sz with h0 | h0
  ·subst h0; simp at hq
  ·exact h0
 refine ⟨q / sz, q % sz, (Nat.div_lt_iff_lt_mul hsz).2 hq, Nat.mod_lt _ hsz, by rw [Nat.mul_comm]; exact (Nat.div_add_mod q sz).symm, ?_⟩
 simp [flat, hq] at h
 exact h.symm
theorem Rd.cells {P : Program} {w : World} {S : Nat → Nat → Prop} {v : Value} {e : TypeId} {rows : List (List C)} (h : Rd P w S v (.sl e rows)) (hne : rows ≠ []) :
  ∃ (b off cap : Nat) (vs : Nat → Nat → Value), v = .slice (some ⟨b, off, none⟩) rows.length cap ∧ rows.length ≤ cap ∧ (∀ r ∈ rows, r.length = P.cellsOf e) ∧
   ∀ (i j : Nat), i < rows.length → j < P.cellsOf e → (w.cell? ⟨b, off + (i * P.cellsOf e + j), none⟩ = some (vs i j) ∧ S b (off + (i * P.cellsOf e + j))) ∧
    ∀ (r : List C) (c : C), rows[i]? = some r → r[j]? = some c → Rd P w S (vs i j) c := by
 generalize hx : C.sl e rows = x at h
 cases h with
 | emp e' a cap => cases hx; exact absurd rfl hne
 | sl e' b off n cap rows' vs hn hcap hsz hcell hrd =>
  cases hx; subst hn
  have hr : ∀ r ∈ rows, r.length = P.cellsOf e := fun r hr => by obtain ⟨i, hi⟩ := List.getElem?_of_mem hr; exact hsz i r hi
  refine ⟨b, off, cap, vs, rfl, hcap, hr, fun i j hi hj => ?_⟩
  have h1 := List.getElem?_eq_getElem hi
  have hl := hr _ (List.mem_of_getElem? h1)
  have h2 : rows[i][j]? = some (rows[i][j]'(by omega)) := List.getElem?_eq_getElem (by omega)
  exact ⟨hcell i j _ _ h1 h2, fun r c hr hc => hrd i j r c hr hc⟩
 | _ => cases hx
theorem Rd.mk {P : Program} {w : World} {S : Nat → Nat → Prop} {e : TypeId} {rows : List (List C)} {g n cap : Nat} {L : List Value} (hn : n = rows.length) (hcap : n ≤ cap)
  (hsz : ∀ r ∈ rows, r.length = P.cellsOf e) (hL : L.length = n * P.cellsOf e) (hcell : ∀ (q : Nat) (v : Value), L[q]? = some v → w.cell? ⟨g, q, none⟩ = some v ∧ S g q)
  (hrd : ∀ (i j : Nat) (r : List C) (c : C) (v : Value), rows[i]? = some r → r[j]? = some c → L[i * P.cellsOf e + j]? = some v → Rd P w S v c) :
  Rd P w S (.slice (some ⟨g, 0, none⟩) n cap) (.sl e rows) := by
 have key : ∀ (i j : Nat) (r : List C) (c : C), rows[i]? = some r → r[j]? = some c → ∃ v, L[i * P.cellsOf e + j]? = some v ∧ L.getD (i * P.cellsOf e + j) undef = v := by
  intro i j r c hi hj
  have h1 : i < rows.length := (List.getElem?_eq_some_iff.1 hi).1
  have h2 : j < P.cellsOf e := by rw [← hsz r (List.mem_of_getElem? hi)]; exact (List.getElem?_eq_some_iff.1 hj).1
  have h3 : (i + 1) * P.cellsOf e ≤ rows.length * P.cellsOf e := Nat.mul_le_mul_right _ h1
  rw [Nat.add_mul, Nat.one_mul] at h3
  have h4 : i * P.cellsOf e + j < L.length := by rw [hL, hn]; omega
  exact ⟨_, List.getElem?_eq_getElem h4, by simp [List.getD, List.getElem?_eq_getElem h4]⟩
 refine .sl e g 0 n cap rows (fun i j => L.getD (i * P.cellsOf e + j) undef) hn hcap (fun i r hi => hsz r (List.mem_of_getElem? hi)) ?_ ?_
 ·intro i j r c hi hj
  obtain ⟨v, h1, h2⟩ := key i j r c hi hj
  rw [Nat.zero_add]
  show _ = some (L.getD _ undef) ∧ _
  rw [h2]
  exact hcell _ _ h1
 ·intro i j r c hi hj
  obtain ⟨v, h1, h2⟩ := key i j r c hi hj
  show Rd P w S (L.getD _ undef) c
  rw [h2]
  exact hrd i j r c v hi hj h1
theorem z8H {P : Program} {e : TypeId} {n : Nat} (h : (zc P e).map (·.length) = some n) : ∃ i z, P.info? e = some i ∧ i.zero = some z ∧ z.cells.size = n ∧ (∀ v ∈ z.cells, v.oneCell' = true) := by
 unfold zc at h
 split at h
 ·rename_i i hi
  split at h
  ·rename_i z hz
   split at h
   ·rename_i ha
    simp only [Array.all_eq_true_iff_forall_mem] at ha
    simp at h
    exact ⟨i, z, hi, hz, h, ha⟩
   ·simp at h
  ·simp at h
 ·simp at h
theorem zfX {P : Program} {w : World} {t ty e : TypeId} (hu : P.underlying t = some (.slice e)) (hi : (P.info? e).isSome) (a b : Option Addr) (n c c' : Nat) (hn : n ≤ c) :
  (Builtin.append_ #[t, t] ty #[.slice a n c, .slice b 0 c']).run P w = .ok (.slice a n c) w := by
 cases hq : P.info? e with
 | none => simp [hq] at hi
 | some i => cases a <;> cases b <;> simp [Builtin.append_, run_underlying hu, sizeOf, typeInfo, hq, Builtin.lenOf, Builtin.firstCells, loadCells, loadCellsFrom, storeCells, hn]
theorem yS (z : Array Value) (n : Nat) : (Builtin.zeroCells z n).size = n * z.size := by simp [Builtin.zeroCells]
theorem zpw {w : World} {op : BinOp} {T e : TypeId} {x y : Operand} {a : Option Addr} {k c : Nat} (hop : op = .eql ∨ op = .neq) (hu : P.underlying T = some (.slice e)) :
  (do eqGuard op T x y (.slice a k c) (.slice none 0 0); binOp op T (.slice a k c) (.slice none 0 0) : Sem Value).run P w = .ok (.bool (if op = .eql then a.isNone else !a.isNone)) w := by
 have he : (Op.equal T (.slice a k c) (.slice none 0 0)).run P w = .ok a.isNone w := by
  unfold Op.equal Op.maxDepth
  rw [show (10000 : Nat) = 9999 + 1 from rfl]
  generalize 9999 = d
  cases a with
  | none => simp only [Op.equalIn, Sem.run_bind, run_underlying hu, Result.andThen_ok, Sem.run_pure]
  | some a => simp only [Op.equalIn, Sem.run_bind, run_underlying hu, Result.andThen_ok, Sem.run_pure]; rfl
 rcases hop with rfl | rfl
 ·simp [eqGuard, binOp, he]
 ·simp [eqGuard, binOp, he]
theorem zu1 {n : Int} (h1 : 0 ≤ n) (h2 : n ≤ 9223372036854775807) : IntKind.wrap .i64 n = n := by
 show (if (true && decide (n % (18446744073709551616 : Int) ≥ (9223372036854775808 : Int))) = true then n % (18446744073709551616 : Int) - (18446744073709551616 : Int) else n % (18446744073709551616 : Int)) = n
 simp only [Bool.true_and, decide_eq_true_eq]
 split <;> omega
theorem zhT {w : World} {ty e : TypeId} {k k' : IntKind} {n : Int} {i : TypeInfo} {z : Value} (hu : P.underlying ty = some (.slice e)) (hi : P.info? e = some i) (hz : i.zero = some z)
  (h0 : 0 ≤ n) (h1 : n * P.bytesOf e ≤ 140737488355328) (h2 : n ≤ 9223372036854775807) :
  ∃ Z : Array Value, Z.size = n.toNat * P.cellsOf e ∧ (∀ q, q < n.toNat * P.cellsOf e → Z[q]? = some (z.cells[q % z.cells.size]!)) ∧
   (Instr.makeSlice ty (.int k n) (.int k' n)).run P w = .ok (.slice (some ⟨w.heap.size, 0, none⟩) n.toNat n.toNat) (w.alloc (.cells Z e)) := by
 have hbyt : i.bytes = P.bytesOf e := by simp [Program.bytesOf, hi]
 have hs : ∀ w, (sizeOf e).run P w = .ok (P.cellsOf e) w := yQ (by rw [hi]; rfl)
 have hti : ∀ w, (typeInfo e).run P w = .ok i w := by intro w; simp [typeInfo, hi]
 have hw := zu1 h0 h2
 have hbig : ¬ ((P.bytesOf e : Int) * n > 2 ^ 48) := by
  have : (P.bytesOf e : Int) * n = n * P.bytesOf e := Int.mul_comm ..
  rw [this]
  have : (2 : Int) ^ 48 = 281474976710656 := rfl
  omega
 have hroom : ¬ (n.toNat * P.bytesOf e > roomBytes) := by
  have e1 : ((n.toNat : Nat) : Int) = n := by omega
  have e2 : ((n.toNat * P.bytesOf e : Nat) : Int) = n * P.bytesOf e := by push_cast; rw [e1]
  have e3 : roomBytes = 140737488355328 := rfl
  omega
 refine ⟨(Array.range (n.toNat * P.cellsOf e)).map ((if n.toNat * P.cellsOf e = 0 then #[] else z.cells)[· % (if n.toNat * P.cellsOf e = 0 then (#[] : Array Value) else z.cells).size]!), by simp, ?_, ?_⟩
 ·intro q hq
  have hne : n.toNat * P.cellsOf e ≠ 0 := by omega
  simp only [hne, if_false]
  simp [hq]
 ·have hn0 : ¬ (n < 0) := by omega
  have hnn : ¬ (n > n) := by omega
  by_cases hne : n.toNat * P.cellsOf e = 0
  ·simp only [Instr.makeSlice, Sem.run_bind, run_underlying hu, Result.andThen_ok, asInt, j8, Sem.run_pure, hti, hbyt, hw, hbig, hn0, hnn, decide_false, Bool.or_false, Bool.or_self, Bool.false_eq_true, if_false, askRoom, hroom, hs, if_pos hne, newRow, newObj]
   rfl
  ·simp only [Instr.makeSlice, Sem.run_bind, run_underlying hu, Result.andThen_ok, asInt, j8, Sem.run_pure, hti, hbyt, hw, hbig, hn0, hnn, decide_false, Bool.or_false, Bool.or_self, Bool.false_eq_true, if_false, askRoom, hroom, hs, if_neg hne, newRow, newObj,
    zeroValue, hz]
   rfl
end Go.Rb
namespace Go.Kx
open Go.Rb
/-! ### Lists -/
def Z8 {α : Type} (z : List α) (off : Nat) (cs : List α) : List α := z.take off ++ cs ++ z.drop (off + cs.length)
theorem VD {α : Type} {z cs : List α} {off : Nat} (h : off + cs.length ≤ z.length) : (Z8 z off cs).length = z.length := by simp [Z8]; omega
theorem y6 {α : Type} (z cs : List α) (off k : Nat) (h : off + cs.length ≤ z.length) : (Z8 z off cs)[k]? = if off ≤ k ∧ k < off + cs.length then cs[k - off]? else z[k]? := by
 unfold Z8
 have hl : (z.take off).length = off := by simp; omega
 rw [List.append_assoc, List.getElem?_append, hl]
 by_cases h1 : k < off
 ·rw [if_pos h1, if_neg (by omega), List.getElem?_take, if_pos h1]
 ·rw [if_neg h1, List.getElem?_append]
  by_cases h2 : k - off < cs.length
  ·rw [if_pos h2, if_pos (by omega)]
  ·rw [if_neg h2, if_neg (by omega), List.getElem?_drop]
   congr 1
   omega
theorem zfY {α β : Type} (f : α → β) (z : List α) (off : Nat) (cs : List α) : (Z8 z off cs).map f = Z8 (z.map f) off (cs.map f) := by
 simp [Z8, List.map_take, List.map_drop]
theorem zoz (z : List AV) (off : Nat) (cs : List AV) : z4V z off cs = Z8 z off cs := rfl
theorem zqF {α : Type} {z cs : List α} {off sz k : Nat} (h1 : off + sz ≤ z.length) (h2 : k + cs.length ≤ sz) : Z8 z off (Z8 ((z.drop off).take sz) k cs) = Z8 z (off + k) cs := by
 have hr : ((z.drop off).take sz).length = sz := by simp; omega
 have hp : (Z8 ((z.drop off).take sz) k cs).length = sz := by rw [VD (by omega), hr]
 apply List.ext_getElem?
 intro q
 have e1 := y6 z (Z8 ((z.drop off).take sz) k cs) off q (by omega)
 have e2 := y6 z cs (off + k) q (by omega)
 have e3 := y6 ((z.drop off).take sz) cs k (q - off) (by omega)
 rw [hp] at e1
 rw [e1, e2]
 by_cases h3 : off ≤ q ∧ q < off + sz
 ·rw [if_pos h3, e3]
  by_cases h4 : off + k ≤ q ∧ q < off + k + cs.length
  ·rw [if_pos h4, if_pos (by omega)]; congr 1; omega
  ·rw [if_neg h4, if_neg (by omega), List.getElem?_take, if_pos (by omega), List.getElem?_drop]; congr 1; omega
 ·rw [if_neg h3, if_neg (by omega)]
theorem zpx {α : Type} (a z cs : List α) (off : Nat) : Z8 (a ++ z) (a.length + off) cs = a ++ Z8 z off cs := by
 simp only [Z8, List.append_assoc]
 rw [List.take_append, List.drop_append, List.take_of_length_le (by omega), List.drop_of_length_le (by omega), show a.length + off - a.length = off from by omega, show a.length + off + cs.length - a.length = off + cs.length from by omega]
 simp
theorem zqG {sz : Nat} : ∀ (L : List (List C)) (i : Nat) (r : List C), (∀ q ∈ L, q.length = sz) → r.length = sz → i < L.length → (L.set i r).flatten = Z8 L.flatten (i * sz) r
 | [], i, r, _, _, h => by simp at h
 | q :: L, 0, r, hL, hr, _ => by
  have h0 := hL q List.mem_cons_self
  simp only [List.set_cons_zero, List.flatten_cons, Nat.zero_mul, Z8, List.take_zero, List.nil_append, Nat.zero_add, hr]
  rw [List.drop_append, List.drop_of_length_le (by omega), h0, Nat.sub_self, List.drop_zero, List.nil_append]
 | q :: L, i + 1, r, hL, hr, hi => by
  have h0 := hL q List.mem_cons_self
  simp only [List.set_cons_succ, List.flatten_cons]
  rw [zqG L i r (fun q hq => hL q (List.mem_cons_of_mem _ hq)) hr (by simpa using hi)]
  have : (i + 1) * sz = q.length + i * sz := by rw [h0, Nat.add_mul]; omega
  rw [this, zpx]
theorem zoA {sz : Nat} : ∀ (L : List (List C)) (n : Nat), (∀ q ∈ L, q.length = sz) → (L.take n).flatten = L.flatten.take (n * sz)
 | [], n, _ => by simp
 | q :: L, 0, _ => by simp
 | q :: L, n + 1, hL => by
  have h0 := hL q List.mem_cons_self
  rw [List.take_succ_cons, List.flatten_cons, List.flatten_cons, zoA L n fun q hq => hL q (List.mem_cons_of_mem _ hq), show (n + 1) * sz = q.length + n * sz from by rw [h0, Nat.add_mul]; omega, List.take_append]
  rw [List.take_of_length_le (l := q) (by omega), show q.length + n * sz - q.length = n * sz from by omega]
theorem zoB {sz : Nat} : ∀ (L : List (List C)) (n : Nat), (∀ q ∈ L, q.length = sz) → (L.drop n).flatten = L.flatten.drop (n * sz)
 | [], n, _ => by simp
 | q :: L, 0, _ => by simp
 | q :: L, n + 1, hL => by
  have h0 := hL q List.mem_cons_self
  rw [List.drop_succ_cons, List.flatten_cons, zoB L n fun q hq => hL q (List.mem_cons_of_mem _ hq), show (n + 1) * sz = q.length + n * sz from by rw [h0, Nat.add_mul]; omega, List.drop_append]
  rw [List.drop_of_length_le (l := q) (by omega), show q.length + n * sz - q.length = n * sz from by omega, List.nil_append]
def zr (r : RT) (rows : List (DenR r)) : List AV := (rw' r rows).flatten.map .c
theorem Zo (r : RT) (rows : List (DenR r)) : (zr r rows).length = rows.length * r.size := by rw [zr, List.length_map, zot]
theorem zqH (r : RT) (a b : List (DenR r)) : zr r (a ++ b) = zr r a ++ zr r b := by simp [zr, rw']
theorem z5t (r : RT) (a : List (DenR r)) (n : Nat) : zr r (a.take n) = (zr r a).take (n * r.size) := by
 have := zoA (rw' r a) n (z8G (rows := a))
 simp only [zr, ← List.map_take, ← this]; simp [rw', List.map_take]
theorem zoC (r : RT) (a : List (DenR r)) (n : Nat) : zr r (a.drop n) = (zr r a).drop (n * r.size) := by
 have := zoB (rw' r a) n (z8G (rows := a))
 simp only [zr, ← List.map_drop, ← this]; simp [rw', List.map_drop]
theorem zhU (r : RT) (rows new : List (DenR r)) (off : Nat) : zr r (zK rows off new) = Z8 (zr r rows) (off * r.size) (zr r new) := by
 simp only [zK, zqH, z5t, zoC, Z8, Zo, Nat.add_mul]
theorem zuU (r : RT) {rows : List (DenR r)} {i : Nat} (y : DenR r) (hi : i < rows.length) : zr r (setN rows i y) = Z8 (zr r rows) (i * r.size) ((encR r y).map .c) := by
 have := zqG (rw' r rows) i (encR r y) (z8G (rows := rows)) (ZW r y) (by simpa [rw'] using hi)
 have e1 : rw' r (setN rows i y) = (rw' r rows).set i (encR r y) := by simp [rw', setN, List.map_set]
 rw [zr, e1, this, zfY]; rfl
theorem zbf {α : Type} {l new : List α} {off : Nat} (h : off + new.length ≤ l.length) : (zK l off new).length = l.length := by simp [zK]; omega
/-! ### Cells that are written -/
def updC (C : Nat → Nat → RV) (l off : Nat) (xs : List RV) : Nat → Nat → RV := fun a b => if a = l ∧ off ≤ b ∧ b < off + xs.length then xs.getD (b - off) .any else C a b
theorem z14 (l : Nat) : ∀ (xs : List RV) (off : Nat) (σ : KS), σ.puts (putL l off xs) = { σ with C := updC σ.C l off xs }
 | [], off, σ => by
  simp only [putL, KS.puts]
  have : updC σ.C l off [] = σ.C := by
   funext a b
   simp only [updC, List.length_nil, Nat.add_zero]
   rw [if_neg (by omega)]
  rw [this]
 | x :: xs, off, σ => by
  simp only [putL, KS.puts]
  rw [z14 l xs (off + 1)]
  simp only [KS.put]
  congr 1
  funext a b
  simp only [updC, List.length_cons, Sl.rv!, nbeq]
  by_cases ha : a = l
  ·subst ha
   by_cases h1 : off + 1 ≤ b ∧ b < off + 1 + xs.length
   ·rw [if_pos ⟨rfl, h1⟩, if_pos ⟨rfl, by omega, by omega⟩, show b - off = (b - (off + 1)) + 1 from by omega, List.getD_cons_succ]
   ·rw [if_neg (fun h => h1 h.2)]
    by_cases h2 : b = off
    ·subst h2
     simp
    ·rw [if_neg (by omega)]; simp [h2]
  ·rw [if_neg (fun h => ha h.1), if_neg (fun h => ha h.1)]; simp [ha]
theorem y7 (σ : KS) (l : Nat) (h : Hd) : σ.put (.H l) (.hd h) = { σ with H := updH σ.H l h } := by
 simp only [KS.put]
 congr 1
 funext j
 simp only [updH, Sl.hd!, nbeq]
 by_cases hj : j = l <;> simp [hj]
theorem Yf (σ : KS) : ∀ a b : Ws, σ.puts (a ++ b) = (σ.puts a).puts b
 | [], _ => rfl
 | (k, s) :: a, b => Yf (σ.put k s) a b
/-! ### Steps -/
section
variable {P : Program} {T : TT} {B : Nat} {X : Nat → Prop} {w0 : World} {S0 : Nat → Nat → Prop} {pa : List ((Nat → Value) × (Nat → RV))} {E : Env} {σ : KS} {tm : Nat → Value}
def updV (tm : Nat → Value) (d : Nat) (v : Value) : Nat → Value := fun i => if i = d then v else tm i
theorem RelE.putT (hr : RelE P B X w0 S0 pa E tm σ) {d : Nat} {x : RV} {v : Value} (hv : VR P E v (av3 σ.H x)) (hx : ok3 σ.H x) : RelE P B X w0 S0 pa E (updV tm d v) (σ.put (.T d) (.rv x)) := by
 refine ⟨hr.w3, fun i => ?_, fun i => ?_, hr.okC, hr.hd, hr.live, hr.pa⟩
 ·show VR P E (updV tm d v i) (av3 σ.H ((σ.put (.T d) (.rv x)).T i))
  rw [zdy]; unfold updV
  by_cases h : i = d
  ·rw [if_pos h, if_pos h]; exact hv
  ·rw [if_neg h, if_neg h]; exact hr.t i
 ·show ok3 σ.H ((σ.put (.T d) (.rv x)).T i)
  rw [zdy]
  by_cases h : i = d
  ·rw [if_pos h]; exact hx
  ·rw [if_neg h]; exact hr.okT i
theorem RelE.step (hr : RelE P B X w0 S0 pa E tm σ) {E' : Env} {σ' : KS} {m1 : Nat → List AV} (hw : W3 P B X w0 S0 E' m1) (hlen : ∀ l, (σ'.m l).length ≤ (m1 l).length)
  (hm : ∀ (l i : Nat) (x y : AV), (m1 l)[i]? = some x → (σ'.m l)[i]? = some y → ∀ v, VR P E' v x → VR P E' v y) (hx : Tx P E σ.H E' σ'.H) (hT : σ'.T = σ.T) (hC : ∀ l j, Go.Kx.okC σ' l j) (hd : ∀ l, HdOK P (σ'.H l))
  (hl : ∀ l, E'.A l → (σ'.H l).live) : RelE P B X w0 S0 pa E' tm σ' :=
 ⟨hw.weak hlen hm, fun i => by rw [hT]; exact hx.v3 _ _ (hr.okT i) (hr.t i), fun i => by rw [hT]; exact hx.ok3 _ (hr.okT i), hC, hd, hl, fun q hq i => ⟨hx.v3 _ _ (hr.pa q hq i).2 (hr.pa q hq i).1, hx.ok3 _ (hr.pa q hq i).2⟩⟩
theorem z5u {σ' : KS} {E' : Env} (hx : Tx P E' σ.H E' σ'.H) {l : Nat} (hH : σ'.H l = σ.H l) (hC : ∀ j, σ'.C l j = σ.C l j) (hok : ∀ j, okC σ l j) :
  (σ'.m l).length = (σ.m l).length ∧ (∀ (i : Nat) (x y : AV), (σ.m l)[i]? = some x → (σ'.m l)[i]? = some y → ∀ v, VR P E' v x → VR P E' v y) ∧ ∀ j, okC σ' l j := by
 cases h : σ.H l with
 | no g => simp [KS.m, hH, h, Kx.okC]
 | flat g fr e r rows =>
  simp only [KS.m, hH, h, Kx.okC]
  refine ⟨trivial, fun i x y h1 h2 v hv => ?_, fun _ => trivial⟩
  rw [h1] at h2; cases h2; exact hv
 | cells g n cnt e =>
  simp only [KS.m, hH, h, okC, List.length_map, true_and]
  have hk : ∀ j, j < n → ok1 σ.H (σ.C l j) := fun j hj => by have := hok j; rw [Kx.okC, h] at this; exact this hj
  refine ⟨fun i x y h1 h2 v hv => ?_, fun j hj => by rw [hC]; exact hx.ok1 _ (hk j hj)⟩
  rw [List.getElem?_map, Option.map_eq_some_iff] at h1 h2
  obtain ⟨a, ha, rfl⟩ := h1
  obtain ⟨b, hb, rfl⟩ := h2
  rw [ha] at hb; cases hb
  have hi := (List.getElem?_eq_some_iff.1 ha)
  obtain ⟨h3, h4⟩ := hi
  simp at h3 h4
  subst h4
  rw [hC]
  exact hx.v1 v _ (hk i h3) hv
theorem z3a {H : Nat → Hd} (h : ∀ l, HdOK P (H l)) {l : Nat} {h' : Hd} (hh : HdOK P h') : ∀ k, HdOK P (updH H l h' k) := by
 intro k
 by_cases hk : k = l
 ·subst hk; rw [zt]; exact hh
 ·rw [zR _ hk]; exact h k
theorem vl {H : Nat → Hd} {l : Nat} {h : Hd} (hg : (H l).gen < h.gen) : (H l).gen ≤ h.gen ∧ ∀ g, g ≤ (H l).gen → YY (updH H l h) l g :=
 ⟨Nat.le_of_lt hg, fun g h' => zkV (by rw [zt]; omega)⟩
theorem RelE.notA (hr : RelE P B X w0 S0 pa E tm σ) {l g : Nat} (h : σ.H l = .no g) : ¬ E.A l := fun hA => by have := hr.live l hA; rw [h] at this; exact this
theorem RelE.newCells (hr : RelE P B X w0 S0 pa E tm σ) {l g n cnt : Nat} {e : TypeId} (hH : σ.H l = .no g) {xs : List RV} (hn : xs.length = n) (hcnt : cnt ≠ 0 → n = cnt * P.cellsOf e) (hok : ∀ x ∈ xs, ok1 σ.H x) {cs : Array Value} {ty : TypeId}
  (hc : CellsR P E cs (xs.map (av1 σ.H))) :
  RelE P B X w0 S0 pa (Zn E (E.w.alloc (.cells cs ty)) l cs.size) tm (σ.puts ((.H l, .hd (.cells (g + 1) n cnt e)) :: putL l 0 xs)) ∧
   E.le (Zn E (E.w.alloc (.cells cs ty)) l cs.size) := by
 have hA := hr.notA hH
 have hs : σ.puts ((.H l, .hd (.cells (g + 1) n cnt e)) :: putL l 0 xs) = { σ with H := updH σ.H l (.cells (g + 1) n cnt e), C := updC σ.C l 0 xs } := by
  simp only [KS.puts]; rw [y7, z14]
 rw [hs]
 have hgen := vl (H := σ.H) (l := l) (h := .cells (g + 1) n cnt e) (by rw [hH]; exact Nat.lt_succ_self g)
 have hle : E.le (Zn E (E.w.alloc (.cells cs ty)) l cs.size) := (zfT (z := []) hr.w3 hA ⟨rfl, Nat.zero_le _, fun i v x _ hx => by simp at hx⟩).2
 have hTx : Tx P E σ.H (Zn E (E.w.alloc (.cells cs ty)) l cs.size) (updH σ.H l (.cells (g + 1) n cnt e)) := Tx.upd hgen.1 hgen.2 (envKill_le.trans hle)
 have hTx' : Tx P (Zn E (E.w.alloc (.cells cs ty)) l cs.size) σ.H (Zn E (E.w.alloc (.cells cs ty)) l cs.size) (updH σ.H l (.cells (g + 1) n cnt e)) := Tx.upd hgen.1 hgen.2 envKill_le
 have hz : BlkR P (Zn E (E.w.alloc (.cells cs ty)) l cs.size) cs.size cs (xs.map (av1 (updH σ.H l (.cells (g + 1) n cnt e)))) := by
  refine ⟨rfl, by rw [hc.1, List.length_map, List.length_map]; exact Nat.le_refl _, fun i v x hv hx => ?_⟩
  rw [List.getElem?_map, Option.map_eq_some_iff] at hx
  obtain ⟨c, hxc, rfl⟩ := hx
  have h1 := hc.2 i v _ hv (by rw [List.getElem?_map, hxc]; rfl)
  exact ⟨hTx.v1 v c (hok c (List.mem_of_getElem? hxc)) h1.1, h1.2⟩
 obtain ⟨hw, _⟩ := zfT hr.w3 hA hz
 refine ⟨hr.step hw (fun k => ?_) (fun k i x y h1 h2 v hv => ?_) hTx rfl (fun k j => ?_) (z3a hr.hd hcnt) (fun k hk => ?_), hle⟩
 ·by_cases hk : k = l
  ·subst hk; simp [setM, KS.m, zt, hn]
  ·have := (z5u (E' := Zn E (E.w.alloc (.cells cs ty)) l cs.size) (σ' := { σ with H := updH σ.H l (.cells (g + 1) n cnt e), C := updC σ.C l 0 xs }) hTx' (l := k) (zR _ hk) (fun j => by simp [updC, hk]) (hr.okC k)).1
   simp only [setM, if_neg hk]; omega
 ·by_cases hk : k = l
  ·subst hk
   simp only [setM, if_true] at h1
   have h3 : ((List.range n).map fun j => av1 (updH σ.H k (.cells (g + 1) n cnt e)) (updC σ.C k 0 xs k j))[i]? = some y := by simpa [KS.m, zt] using h2
   rw [List.getElem?_map, Option.map_eq_some_iff] at h1 h3
   obtain ⟨c, hc1, rfl⟩ := h1
   obtain ⟨j, hj, rfl⟩ := h3
   obtain ⟨h4, h5⟩ := List.getElem?_eq_some_iff.1 hj
   simp at h4 h5; subst h5
   have : updC σ.C k 0 xs k i = c := by
    simp only [updC, Nat.zero_le, Nat.zero_add, true_and, Nat.sub_zero]
    rw [if_pos (by omega)]
    simp [List.getD, hc1]
   rw [this]; exact hv
  ·simp only [setM, if_neg hk] at h1
   exact (z5u (E' := Zn E (E.w.alloc (.cells cs ty)) l cs.size) (σ' := { σ with H := updH σ.H l (.cells (g + 1) n cnt e), C := updC σ.C l 0 xs }) hTx' (l := k) (zR _ hk) (fun j => by simp [updC, hk]) (hr.okC k)).2.1 i x y h1 h2 v hv
 ·by_cases hk : k = l
  ·subst hk
   simp only [Kx.okC, zt]
   intro hj
   have : updC σ.C k 0 xs k j ∈ xs := by
    simp only [updC, Nat.zero_le, Nat.zero_add, true_and, Nat.sub_zero]
    rw [if_pos (by omega)]
    have h9 : j < xs.length := by omega
    simp [List.getD, List.getElem?_eq_getElem h9]
   exact hTx.ok1 _ (hok _ this)
  ·exact (z5u (E' := Zn E (E.w.alloc (.cells cs ty)) l cs.size) (σ' := { σ with H := updH σ.H l (.cells (g + 1) n cnt e), C := updC σ.C l 0 xs }) hTx' (l := k) (zR _ hk) (fun j => by simp [updC, hk]) (hr.okC k)).2.2 j
 ·show (updH σ.H l _ k).live
  by_cases hkl : k = l
  ·subst hkl; rw [zt]; trivial
  ·rw [zR _ hkl]
   rcases hk with hk | hk
   ·exact hr.live k hk
   ·exact absurd hk hkl
theorem RelE.heads (hr : RelE P B X w0 S0 pa E tm σ) {E' : Env} {l : Nat} {h : Hd} {z : List AV} (hnc : ∀ g n c e, h ≠ .cells g n c e) (hm : ({ σ with H := updH σ.H l h } : KS).m l = z) (hw : W3 P B X w0 S0 E' (setM σ.m l z))
  (hTx : Tx P E σ.H E' (updH σ.H l h)) (hTx' : Tx P E' σ.H E' (updH σ.H l h)) (hh : HdOK P h) (hl : ∀ k, E'.A k → (updH σ.H l h k).live) : RelE P B X w0 S0 pa E' tm (σ.put (.H l) (.hd h)) := by
 rw [y7]
 refine hr.step hw (fun k => ?_) (fun k i x y h1 h2 v hv => ?_) hTx rfl (fun k j => ?_) (z3a hr.hd hh) hl
 ·by_cases hk : k = l
  ·subst hk; rw [hm]; simp [setM]
  ·have := (z5u (E' := E') (σ' := { σ with H := updH σ.H l h }) hTx' (l := k) (zR _ hk) (fun j => rfl) (hr.okC k)).1
   simp only [setM, if_neg hk]; omega
 ·by_cases hk : k = l
  ·subst hk
   rw [hm] at h2
   simp only [setM, if_true] at h1
   rw [h1] at h2; cases h2; exact hv
  ·simp only [setM, if_neg hk] at h1
   exact (z5u (E' := E') (σ' := { σ with H := updH σ.H l h }) hTx' (l := k) (zR _ hk) (fun j => rfl) (hr.okC k)).2.1 i x y h1 h2 v hv
 ·by_cases hk : k = l
  ·subst hk
   show Kx.okC _ _ _
   unfold Kx.okC
   split
   ·rename_i h2; exact absurd ((zt _ _).symm.trans h2) (hnc _ _ _ _)
   ·trivial
  ·exact (z5u (E' := E') (σ' := { σ with H := updH σ.H l h }) hTx' (l := k) (zR _ hk) (fun j => rfl) (hr.okC k)).2.2 j
theorem z3b {l g : Nat} {e : TypeId} {r : RT} {rows : List (DenR r)} : ({ σ with H := updH σ.H l (.flat g false e r rows) } : KS).m l = zr r rows := by simp [KS.m, zt, zr, rw']
theorem jB {H : Nat → Hd} {E' : Env} {l g : Nat} {e : TypeId} {r : RT} {rows : List (DenR r)} (h : ∀ k, k ≠ l → E'.A k → (H k).live) : ∀ k, E'.A k → (updH H l (.flat g false e r rows) k).live := by
 intro k hk
 by_cases hkl : k = l
 ·subst hkl; rw [zt]; rfl
 ·rw [zR _ hkl]; exact h k hkl hk
theorem RelE.newFlat (hr : RelE P B X w0 S0 pa E tm σ) {l g : Nat} {e : TypeId} {r : RT} {rows : List (DenR r)} (hH : σ.H l = .no g) (hsz : r.size = P.cellsOf e) {cs : Array Value} {ty : TypeId}
  (hc : BlkR P E cs.size cs (zr r rows)) :
  RelE P B X w0 S0 pa (Zn E (E.w.alloc (.cells cs ty)) l cs.size) tm (σ.put (.H l) (.hd (.flat (g + 1) false e r rows))) ∧ E.le (Zn E (E.w.alloc (.cells cs ty)) l cs.size) ∧
   ∀ n c : Nat, rows.length = n → n ≤ c → c * P.cellsOf e ≤ cs.size → c ≤ maxLen → VR P (Zn E (E.w.alloc (.cells cs ty)) l cs.size) (.slice (some ⟨E.w.heap.size, 0, none⟩) n c) (av3 (updH σ.H l (.flat (g + 1) false e r rows)) (.arw l (g + 1) e)) := by
 have hA := hr.notA hH
 have hgen := vl (H := σ.H) (l := l) (h := .flat (g + 1) false e r rows) (by rw [hH]; exact Nat.lt_succ_self g)
 have hle : E.le (Zn E (E.w.alloc (.cells cs ty)) l cs.size) := (zfT (z := []) hr.w3 hA ⟨rfl, Nat.zero_le _, fun i v x _ hx => by simp at hx⟩).2
 obtain ⟨hw, _⟩ := zfT hr.w3 hA (z := zr r rows) (e := ty) (hc.mono hle)
 refine ⟨hr.heads (by simp) z3b hw (Tx.upd hgen.1 hgen.2 (envKill_le.trans hle)) (Tx.upd hgen.1 hgen.2 envKill_le) hsz (jB fun k hkl hk => ?_), hle, fun n c h1 h2 h3 h4 => ?_⟩
 ·rcases hk with hk | hk
  ·exact hr.live k hk
  ·exact absurd hk hkl
 ·show VR P _ _ (avW _ _ _ _)
  have : avW (updH σ.H l (.flat (g + 1) false e r rows)) l (g + 1) e = .arr l 0 n n e := by simp [avW, zt, h1]
  rw [this]
  have h9 := VR.arr (P := P) (E := Zn E (E.w.alloc (.cells cs ty)) l cs.size) l 0 n n c e (.inr rfl) h2 h2 (by simp [Zn]; omega) h4
  simp only [Zn, if_true] at h9
  exact h9
theorem RelE.newEmpty (hr : RelE P B X w0 S0 pa E tm σ) {l g : Nat} {e : TypeId} {r : RT} (hH : σ.H l = .no g) (hsz : r.size = P.cellsOf e) :
  RelE P B X w0 S0 pa E tm (σ.put (.H l) (.hd (.flat (g + 1) false e r []))) ∧ ∀ a : Option Addr, VR P E (.slice a 0 0) (av3 (updH σ.H l (.flat (g + 1) false e r [])) (.arw l (g + 1) e)) := by
 have hA := hr.notA hH
 have hgen := vl (H := σ.H) (l := l) (h := .flat (g + 1) false e r []) (by rw [hH]; exact Nat.lt_succ_self g)
 have hw : W3 P B X w0 S0 E (setM σ.m l (zr r [])) := by
  have h0 : setM σ.m l (zr r []) = σ.m := by
   funext k
   simp only [setM]
   split
   ·rename_i hk; subst hk; simp [zr, rw', KS.m, hH]
   ·rfl
  rw [h0]; exact hr.w3
 refine ⟨hr.heads (by simp) z3b hw (Tx.upd hgen.1 hgen.2 envKill_le) (Tx.upd hgen.1 hgen.2 envKill_le) hsz (jB fun k hkl hk => hr.live k hk), fun a => ?_⟩
 show VR P _ _ (avW _ _ _ _)
 have : avW (updH σ.H l (.flat (g + 1) false e r [])) l (g + 1) e = .arr l 0 0 0 e := by simp [avW, zt]
 rw [this]; exact .arr0 _ _ _ _
theorem RelE.rows (hr : RelE P B X w0 S0 pa E tm σ) {l g : Nat} {e : TypeId} {r : RT} {rows rows' : List (DenR r)} (hH : σ.H l = .flat g false e r rows) (hA : E.A l) (hlen : rows'.length = rows.length) {cs' : Array Value}
  (hc : BlkR P E (E.cp l) cs' (zr r rows')) :
  RelE P B X w0 S0 pa { E with w := E.w.setRow (E.β l) cs' } tm (σ.put (.H l) (.hd (.flat g false e r rows'))) ∧ E.le { E with w := E.w.setRow (E.β l) cs' } := by
 obtain ⟨cs, ty, hh, _⟩ := hr.w3.loc l hA
 have hle : E.le { E with w := E.w.setRow (E.β l) cs' } := (z8E (z := []) hr.w3 hA hh ⟨hc.1, Nat.zero_le _, fun i v x _ hx => by simp at hx⟩).2
 obtain ⟨hw, _⟩ := z8E hr.w3 hA hh (hc.mono hle)
 have hg : ∀ k, (σ.H k).gen ≤ (updH σ.H l (.flat g false e r rows') k).gen := by
  intro k
  by_cases hk : k = l
  ·subst hk; rw [zt, hH]; exact Nat.le_refl _
  ·rw [zR _ hk]; exact Nat.le_refl _
 have hsame : ∀ x, ok0 σ.H x → av0 (updH σ.H l (.flat g false e r rows')) x = av0 σ.H x := by
  intro x _
  cases x with
  | arw k g' e' =>
   by_cases hk : k = l
   ·subst hk; simp only [av0, avW, zt, hH, hlen]; rfl
   ·exact (yy _ hk).1 e'
  | ars k g' e' o n =>
   by_cases hk : k = l
   ·subst hk; simp only [av0, avS, zt, hH, hlen, Bool.false_eq_true, if_false]
   ·exact (yy _ hk).2.1 e' o n
  | ptr k g' o =>
   by_cases hk : k = l
   ·subst hk; simp only [av0, avP, zt, hH]
   ·exact (yy _ hk).2.2.1 o
  | pel k g' e' i j =>
   by_cases hk : k = l
   ·subst hk; simp only [av0, avE, zt, hH]
   ·exact (yy _ hk).2.2.2.1 e' i j
  | arx k g' e' i j c =>
   by_cases hk : k = l
   ·subst hk; simp only [av0, avX, zt, hH]
   ·exact (yy _ hk).2.2.2.2 e' i j c
  | _ => rfl
 have hsz : r.size = P.cellsOf e := by have := hr.hd l; rw [hH] at this; exact this
 exact ⟨hr.heads (by simp) z3b hw (Tx.same hle hg hsame) (Tx.same (Env.le.refl _) hg hsame) hsz (jB fun k hkl hk => hr.live k hk), hle⟩
theorem RelE.room (hr : RelE P B X w0 S0 pa E tm σ) {l g : Nat} {e : TypeId} {r : RT} {rows rows' : List (DenR r)} (hH : σ.H l = .flat g false e r rows) (hA : E.A l) {cs' : Array Value} (hc : BlkR P E (E.cp l) cs' (zr r rows')) :
  RelE P B X w0 S0 pa { E with w := E.w.setRow (E.β l) cs' } tm (σ.put (.H l) (.hd (.flat (g + 1) false e r rows'))) ∧ E.le { E with w := E.w.setRow (E.β l) cs' } := by
 obtain ⟨cs, ty, hh, _⟩ := hr.w3.loc l hA
 have hgen := vl (H := σ.H) (l := l) (h := .flat (g + 1) false e r rows') (by rw [hH]; exact Nat.lt_succ_self g)
 have hle : E.le { E with w := E.w.setRow (E.β l) cs' } := (z8E (z := []) hr.w3 hA hh ⟨hc.1, Nat.zero_le _, fun i v x _ hx => by simp at hx⟩).2
 obtain ⟨hw, _⟩ := z8E hr.w3 hA hh (hc.mono hle)
 have hsz : r.size = P.cellsOf e := by have := hr.hd l; rw [hH] at this; exact this
 exact ⟨hr.heads (by simp) z3b hw (Tx.upd hgen.1 hgen.2 (envKill_le.trans hle)) (Tx.upd hgen.1 hgen.2 envKill_le) hsz (jB fun k hkl hk => hr.live k hk), hle⟩
theorem RelE.rehead (hr : RelE P B X w0 S0 pa E tm σ) {l g : Nat} {e : TypeId} {r : RT} {rows : List (DenR r)} (hH : σ.H l = .flat g false e r rows) :
  RelE P B X w0 S0 pa E tm (σ.put (.H l) (.hd (.flat (g + 1) false e r rows))) := by
 have hgen := vl (H := σ.H) (l := l) (h := .flat (g + 1) false e r rows) (by rw [hH]; exact Nat.lt_succ_self g)
 have hsz : r.size = P.cellsOf e := by have := hr.hd l; rw [hH] at this; exact this
 have hw : W3 P B X w0 S0 E (setM σ.m l (zr r rows)) := by
  have h0 : setM σ.m l (zr r rows) = σ.m := by
   funext k
   simp only [setM]
   split
   ·rename_i hk; subst hk; rw [Y4 hH]; rfl
   ·rfl
  rw [h0]; exact hr.w3
 exact hr.heads (by simp) z3b hw (Tx.upd hgen.1 hgen.2 envKill_le) (Tx.upd hgen.1 hgen.2 envKill_le) hsz (jB fun k hkl hk => hr.live k hk)
theorem RelE.kill (hr : RelE P B X w0 S0 pa E tm σ) {l g : Nat} (hg : (σ.H l).gen ≤ g) : RelE P B X w0 S0 pa (ZH E l) tm (σ.put (.H l) (.hd (.no g))) := by
 have hst : ∀ g', g' ≤ (σ.H l).gen → YY (updH σ.H l (.no g)) l g' := fun g' _ => by simp only [YY, zt]
 have hTx : Tx P E σ.H (ZH E l) (updH σ.H l (.no g)) := Tx.upd hg hst (Env.le.refl _)
 have hw := ztV (m' := fun k => ({ σ with H := updH σ.H l (.no g) } : KS).m k) hr.w3 l (by simp [KS.m, zt])
 rw [y7]
 have hoth : ∀ k, k ≠ l → (({ σ with H := updH σ.H l (.no g) } : KS).m k).length = (σ.m k).length ∧ ∀ (i : Nat) (x y : AV), (σ.m k)[i]? = some x → (({ σ with H := updH σ.H l (.no g) } : KS).m k)[i]? = some y → ∀ v, VR P E v x → VR P (ZH E l) v y := by
  intro k hk
  cases h : σ.H k with
  | no g' => simp [KS.m, zR _ hk, h]
  | flat g' fr e r rows =>
   simp only [KS.m, zR _ hk, h]
   refine ⟨trivial, fun i x y h1 h2 v hv => ?_⟩
   rw [h1] at h2; cases h2
   cases fr with
   | true => simp at h1
   | false =>
    simp only [Bool.false_eq_true, if_false, List.getElem?_map, Option.map_eq_some_iff] at h1
    obtain ⟨c, _, rfl⟩ := h1
    cases hv with | c _ _ h => exact .c _ _ h
  | cells g' n cnt e =>
   simp only [KS.m, zR _ hk, h, List.length_map, true_and]
   intro i x y h1 h2 v hv
   rw [List.getElem?_map, Option.map_eq_some_iff] at h1 h2
   obtain ⟨a, ha, rfl⟩ := h1
   obtain ⟨b, hb, rfl⟩ := h2
   rw [ha] at hb; cases hb
   obtain ⟨h3, h4⟩ := List.getElem?_eq_some_iff.1 ha
   simp at h3 h4; subst h4
   have hok := hr.okC k i
   rw [Kx.okC, h] at hok
   exact hTx.v1 v _ (hok h3) hv
 have hw' := hw (fun k hk => Nat.le_of_eq (hoth k hk).1) (fun k hk => (hoth k hk).2)
 refine hr.step hw' (fun k => Nat.le_refl _) (fun k i x y h1 h2 v hv => by rw [h1] at h2; cases h2; exact hv) hTx rfl (fun k j => ?_) (z3a hr.hd trivial) (fun k hk => ?_)
 ·by_cases hk : k = l
  ·subst hk; simp [Kx.okC, zt]
  ·have h0 := hr.okC k j
   cases h : σ.H k with
   | cells g' n' c' e' =>
    rw [Kx.okC, h] at h0
    simp only [Kx.okC, zR _ hk, h]
    exact fun hj => hTx.ok1 _ (h0 hj)
   | no _ => simp [Kx.okC, zR _ hk, h]
   | flat _ _ _ _ _ => simp [Kx.okC, zR _ hk, h]
 ·show (updH σ.H l _ k).live
  rw [zR _ hk.2]; exact hr.live k hk.1
theorem RelE.grow (hr : RelE P B X w0 S0 pa E tm σ) {l g : Nat} {e : TypeId} {r : RT} {rows rows' : List (DenR r)} (hH : σ.H l = .flat g false e r rows) {cs : Array Value} {ty : TypeId} (hc : BlkR P (ZH E l) cs.size cs (zr r rows')) :
  RelE P B X w0 S0 pa (Zn (ZH E l) (E.w.alloc (.cells cs ty)) l cs.size) tm (σ.put (.H l) (.hd (.flat (g + 1) false e r rows'))) ∧ (ZH E l).le (Zn (ZH E l) (E.w.alloc (.cells cs ty)) l cs.size) ∧
   ∀ n c : Nat, rows'.length = n → n ≤ c → c * P.cellsOf e ≤ cs.size → c ≤ maxLen → VR P (Zn (ZH E l) (E.w.alloc (.cells cs ty)) l cs.size) (.slice (some ⟨E.w.heap.size, 0, none⟩) n c) (av3 (updH σ.H l (.flat (g + 1) false e r rows')) (.arw l (g + 1) e)) := by
 have hsz : r.size = P.cellsOf e := by have := hr.hd l; rw [hH] at this; exact this
 have h1 := hr.kill (l := l) (g := g) (by rw [hH]; exact Nat.le_refl _)
 have h2 := h1.newFlat (l := l) (g := g) (e := e) (r := r) (rows := rows') (by rw [y7]; exact zt _ _) hsz (ty := ty) hc
 have e1 : (σ.put (.H l) (.hd (.no g))).put (.H l) (.hd (.flat (g + 1) false e r rows')) = σ.put (.H l) (.hd (.flat (g + 1) false e r rows')) := by
  rw [y7, y7, y7]
  congr 1
  funext k
  simp only [updH]
  split <;> rfl
 have e2 : updH (σ.put (.H l) (.hd (.no g))).H l (.flat (g + 1) false e r rows') = updH σ.H l (.flat (g + 1) false e r rows') := by
  rw [y7]
  funext k
  simp only [updH]
  split <;> rfl
 rw [e1, e2] at h2
 exact h2
theorem RelE.frz (hr : RelE P B X w0 S0 pa E tm σ) {l g : Nat} {e : TypeId} {r : RT} {rows : List (DenR r)} (hH : σ.H l = .flat g false e r rows) :
  RelE P B X w0 S0 pa (z3O E l (rows.length * r.size)) tm (σ.put (.H l) (.hd (.flat g true e r rows))) ∧ Tx P E σ.H (z3O E l (rows.length * r.size)) (updH σ.H l (.flat g true e r rows)) := by
 have hsz : r.size = P.cellsOf e := by have := hr.hd l; rw [hH] at this; exact this
 have hTx := Tx.frz hr.w3 hH (Y4 hH) hsz
 have hk : E.le { E with S := (z3O E l (rows.length * r.size)).S } := ⟨fun _ _ _ _ h => h, fun _ _ h => .inl h, fun _ h => ⟨h, rfl, rfl⟩, fun _ _ _ _ h => .inl h, fun _ _ h => h⟩
 have hoth : ∀ k, k ≠ l → (({ σ with H := updH σ.H l (.flat g true e r rows) } : KS).m k).length = (σ.m k).length ∧ ∀ (i : Nat) (x y : AV), (σ.m k)[i]? = some x → (({ σ with H := updH σ.H l (.flat g true e r rows) } : KS).m k)[i]? = some y →
   ∀ v, VR P E v x → VR P (z3O E l (rows.length * r.size)) v y := by
  intro k hk
  cases h : σ.H k with
  | no g' => simp [KS.m, zR _ hk, h]
  | flat g' fr e r rows =>
   simp only [KS.m, zR _ hk, h]
   refine ⟨trivial, fun i x y h1 h2 v hv => ?_⟩
   rw [h1] at h2; cases h2
   cases fr with
   | true => simp at h1
   | false =>
    simp only [Bool.false_eq_true, if_false, List.getElem?_map, Option.map_eq_some_iff] at h1
    obtain ⟨c, _, rfl⟩ := h1
    cases hv with | c _ _ h => exact .c _ _ (h.mono (fun _ _ _ _ h => h) fun _ _ h => .inl h)
  | cells g' n cnt e =>
   simp only [KS.m, zR _ hk, h, List.length_map, true_and]
   intro i x y h1 h2 v hv
   rw [List.getElem?_map, Option.map_eq_some_iff] at h1 h2
   obtain ⟨a, ha, rfl⟩ := h1
   obtain ⟨b, hb, rfl⟩ := h2
   rw [ha] at hb; cases hb
   obtain ⟨h3, h4⟩ := List.getElem?_eq_some_iff.1 ha
   simp at h3 h4; subst h4
   have hok := hr.okC k i
   rw [Kx.okC, h] at hok
   exact hTx.v1 v _ (hok h3) hv
 have hw' := zuN (m' := fun k => ({ σ with H := updH σ.H l (.flat g true e r rows) } : KS).m k) hr.w3 l (rows.length * r.size) (by simp [KS.m, zt]) (fun k hk => Nat.le_of_eq (hoth k hk).1) (fun k hk => (hoth k hk).2)
 refine ⟨?_, hTx⟩
 rw [y7]
 refine hr.step hw' (fun k => Nat.le_refl _) (fun k i x y h1 h2 v hv => by rw [h1] at h2; cases h2; exact hv) hTx rfl (fun k j => ?_) (z3a hr.hd hsz) (fun k hk => ?_)
 ·by_cases hk : k = l
  ·subst hk; simp [Kx.okC, zt]
  ·have h0 := hr.okC k j
   cases h : σ.H k with
   | cells g' n' c' e' =>
    rw [Kx.okC, h] at h0
    simp only [Kx.okC, zR _ hk, h]
    exact fun hj => hTx.ok1 _ (h0 hj)
   | no _ => simp [Kx.okC, zR _ hk, h]
   | flat _ _ _ _ _ => simp [Kx.okC, zR _ hk, h]
 ·show (updH σ.H l _ k).live
  rw [zR _ hk.2]; exact hr.live k hk.1
theorem RelE.storeC (hr : RelE P B X w0 S0 pa E tm σ) {l g n cnt off : Nat} {e : TypeId} (hH : σ.H l = .cells g n cnt e) (hA : E.A l) {xs : List RV} (hok : ∀ x ∈ xs, ok1 σ.H x) (hin : off + xs.length ≤ n) {ws : Array Value} (hc : CellsR P E ws (xs.map (av1 σ.H))) {cur : Array Value}
  {ty : TypeId} (hh : E.w.heap[E.β l]? = some (.cells cur ty (0, 0))) :
  RelE P B X w0 S0 pa { E with w := E.w.setRow (E.β l) (ym cur off ws.toList 0) } tm (σ.puts (putL l off xs)) ∧ E.le { E with w := E.w.setRow (E.β l) (ym cur off ws.toList 0) } := by
 rw [z14]
 obtain ⟨cs, ty', hh', hb, _⟩ := hr.w3.loc l hA
 rw [hh] at hh'; cases hh'
 have hm := z39 hH
 have hml : (σ.m l).length = n := by rw [hm]; simp
 have hm' : ({ σ with C := updC σ.C l off xs } : KS).m l = Z8 (σ.m l) off (xs.map (av1 σ.H)) := by
  apply List.ext_getElem?
  intro q
  rw [y6 _ _ _ _ (by rw [hml, List.length_map]; exact hin)]
  simp only [KS.m, hH, List.getElem?_map, List.length_map]
  by_cases hq : q < n
  ·rw [List.getElem?_range hq]
   simp only [Option.map_some, updC, true_and]
   by_cases h1 : off ≤ q ∧ q < off + xs.length
   ·rw [if_pos h1, if_pos h1]
    have h2 : q - off < xs.length := by omega
    simp [List.getD, List.getElem?_eq_getElem h2]
   ·rw [if_neg h1, if_neg h1]
  ·rw [List.getElem?_eq_none (by simpa using hq), if_neg (by omega)]; rfl
 have hblk : BlkR P E (E.cp l) (ym cur off ws.toList 0) (Z8 (σ.m l) off (xs.map (av1 σ.H))) := by
  have h1 := hb.1
  have h2 := hb.2.1
  refine ⟨by rw [z0T, hb.1], by rw [VD (by rw [hml, List.length_map]; exact hin)]; exact hb.2.1, fun i v x hv hx => ?_⟩
  rw [y6 _ _ _ _ (by rw [hml, List.length_map]; exact hin)] at hx
  have hwl : ws.toList.length = xs.length := by rw [Array.length_toList, hc.1, List.length_map]
  rw [jz _ _ _ _ _ (by rw [hwl]; omega)] at hv
  simp only [Nat.add_zero, hwl, List.length_map] at hv hx
  split at hv
  ·rename_i hq
   rw [if_pos hq] at hx
   exact hc.2 _ _ _ (by simpa using hv) hx
  ·rename_i hq
   rw [if_neg hq] at hx
   exact hb.2.2 _ _ _ hv hx
 have hle : E.le { E with w := E.w.setRow (E.β l) (ym cur off ws.toList 0) } := (z8E (z := []) hr.w3 hA hh ⟨hblk.1, Nat.zero_le _, fun i v x _ hx => by simp at hx⟩).2
 obtain ⟨hw, _⟩ := z8E hr.w3 hA hh (hblk.mono hle)
 refine ⟨hr.step hw (fun k => ?_) (fun k i x y h1 h2 v hv => ?_) (Tx.le hle) rfl (fun k j => ?_) hr.hd hr.live, hle⟩
 ·by_cases hk : k = l
  ·subst hk; rw [hm']; simp [setM]
  ·simp only [setM, if_neg hk, KS.m]
   split <;> simp
 ·by_cases hk : k = l
  ·subst hk
   rw [hm'] at h2
   simp only [setM, if_true] at h1
   rw [h1] at h2; cases h2; exact hv
  ·simp only [setM, if_neg hk] at h1
   have : ({ σ with C := updC σ.C l off xs } : KS).m k = σ.m k := by simp only [KS.m, updC, hk, false_and, if_false]
   rw [this, h1] at h2; cases h2; exact hv
 ·have h0 := hr.okC k j
  cases h : σ.H k with
  | cells g' n' c' e' =>
   rw [Kx.okC, h] at h0
   simp only [Kx.okC, h]
   intro hj
   simp only [updC]
   split
   ·rename_i hq
    have h2 : j - off < xs.length := by omega
    have : xs.getD (j - off) .any ∈ xs := by simp [List.getD, List.getElem?_eq_getElem h2]
    exact hok _ this
   ·exact h0 hj
  | no _ => simp [Kx.okC, h]
  | flat _ _ _ _ _ => simp [Kx.okC, h]
end
end Go.Kx
namespace Go.Kx
open Go.Rb
structure FrzOf (σ σ1 : KS) : Prop where
 T : σ1.T = σ.T
 C : σ1.C = σ.C
 H : ∀ l, σ1.H l = σ.H l ∨ ∃ g e r rows, σ.H l = .flat g false e r rows ∧ σ1.H l = .flat g true e r rows
theorem FrzOf.refl (σ : KS) : FrzOf σ σ := ⟨rfl, rfl, fun _ => .inl rfl⟩
theorem FrzOf.gen {σ σ1 : KS} (h : FrzOf σ σ1) (l : Nat) : (σ1.H l).gen = (σ.H l).gen := by
 rcases h.H l with h | ⟨g, e, r, rows, h1, h2⟩
 ·rw [h]
 ·rw [h1, h2]; rfl
theorem FrzOf.ok0 {σ σ1 : KS} (h : FrzOf σ σ1) {x : RV} (hx : ok0 σ.H x) : ok0 σ1.H x := by
 cases x <;> first | (simp only [Go.Kx.ok0, h.gen] at hx ⊢; exact hx) | trivial
theorem FrzOf.ok1 {σ σ1 : KS} (h : FrzOf σ σ1) {x : RV} (hx : ok1 σ.H x) : ok1 σ1.H x := by
 cases x with
 | fn f caps => exact fun c hc => h.ok0 (hx c hc)
 | d c x => exact h.ok0 (x := .d c x) hx
 | nils => exact h.ok0 (x := .nils) hx
 | ag xs => exact h.ok0 (x := .ag xs) hx
 | tup xs => exact h.ok0 (x := .tup xs) hx
 | arw l g e => exact h.ok0 (x := .arw l g e) hx
 | ars l g e o n => exact h.ok0 (x := .ars l g e o n) hx
 | ptr l g o => exact h.ok0 (x := .ptr l g o) hx
 | pel l g e i k => exact h.ok0 (x := .pel l g e i k) hx
 | arx l g e i k c => exact h.ok0 (x := .arx l g e i k c) hx
 | el r x o => exact h.ok0 (x := .el r x o) hx
 | und => exact h.ok0 (x := .und) hx
 | ifc b => exact h.ok0 (x := .ifc b) hx
 | any => exact h.ok0 (x := .any) hx
theorem FrzOf.no {σ σ1 : KS} (h : FrzOf σ σ1) {l g : Nat} (hl : σ.H l = .no g) : σ1.H l = .no g := by
 rcases h.H l with h1 | ⟨_, _, _, _, h1, _⟩
 ·rw [h1, hl]
 ·rw [hl] at h1; cases h1
theorem FrzOf.trans {σ σ1 σ2 : KS} (h : FrzOf σ σ1) (k : FrzOf σ1 σ2) : FrzOf σ σ2 := by
 refine ⟨k.T.trans h.T, k.C.trans h.C, fun l => ?_⟩
 rcases k.H l with h1 | ⟨g, e, r, rows, h1, h2⟩
 ·rcases h.H l with h3 | ⟨g, e, r, rows, h3, h4⟩
  ·exact .inl (h1.trans h3)
  ·exact .inr ⟨g, e, r, rows, h3, h1.trans h4⟩
 ·rcases h.H l with h3 | ⟨g', e', r', rows', h3, h4⟩
  ·exact .inr ⟨g, e, r, rows, h3 ▸ h1, h2⟩
  ·rw [h1] at h4; cases h4
theorem z9D {σ : KS} {l : Nat} {h : Hd} (hl : σ.H l = h) : σ.put (.H l) (.hd h) = σ := by
 rw [y7]
 have : updH σ.H l h = σ.H := by
  funext k
  simp only [updH]
  split
  ·rename_i hk; rw [hk, hl]
  ·rfl
 rw [this]
section
variable {P : Program} {T : TT} {B : Nat} {X : Nat → Prop} {w0 : World} {S0 : Nat → Nat → Prop} {pa : List ((Nat → Value) × (Nat → RV))} {E : Env} {σ σ1 : KS} {tm : Nat → Value}
structure FrzTo (P : Program) (B : Nat) (X : Nat → Prop) (w0 : World) (S0 : Nat → Nat → Prop) (pa : List ((Nat → Value) × (Nat → RV))) (tm : Nat → Value) (E : Env) (σ σ1 : KS) (E' : Env) (σ2 : KS) : Prop where
 rel : RelE P B X w0 S0 pa E' tm σ2
 of : FrzOf σ σ2
 on : FrzOf σ1 σ2
 w : E'.w = E.w
 tx : Tx P E σ1.H E' σ2.H
 dat : ∀ v c, VR P E v (.c c) → VR P E' v (.c c)
theorem FrzTo.refl (hr : RelE P B X w0 S0 pa E tm σ1) (hf : FrzOf σ σ1) : FrzTo P B X w0 S0 pa tm E σ σ1 E σ1 := ⟨hr, hf, .refl _, rfl, .refl, fun _ _ h => h⟩
theorem FrzTo.trans {E1 E2 : Env} {σ2 σ3 : KS} (h : FrzTo P B X w0 S0 pa tm E σ σ1 E1 σ2) (k : FrzTo P B X w0 S0 pa tm E1 σ σ2 E2 σ3) : FrzTo P B X w0 S0 pa tm E σ σ1 E2 σ3 :=
 ⟨k.rel, k.of, h.on.trans k.on, k.w.trans h.w, h.tx.trans k.tx, fun v c hv => k.dat v c (h.dat v c hv)⟩
theorem zoD (hr : RelE P B X w0 S0 pa E tm σ1) (hf : FrzOf σ σ1) {l g : Nat} {fr : Bool} {e : TypeId} {r : RT} {rows : List (DenR r)} (hH : σ.H l = .flat g fr e r rows) {ws : Ws}
  (hw : ws = if fr = true then [] else [(.H l, .hd (.flat g true e r rows))]) : ∃ E', FrzTo P B X w0 S0 pa tm E σ σ1 E' (σ1.puts ws) ∧ (σ1.puts ws).H l = .flat g true e r rows := by
 cases fr with
 | true =>
  subst hw
  rcases hf.H l with h1 | ⟨_, _, _, _, h1, _⟩
  ·exact ⟨E, .refl hr hf, h1.trans hH⟩
  ·rw [hH] at h1; cases h1
 | false =>
  subst hw
  rcases hf.H l with h1 | ⟨g', e', r', rows', h1, h2⟩
  ·have h3 := h1.trans hH
   obtain ⟨h4, h5⟩ := hr.frz h3
   have hH2 : (σ1.put (.H l) (.hd (.flat g true e r rows))).H l = .flat g true e r rows := by rw [y7]; exact zt _ _
   have hon : FrzOf σ1 (σ1.put (.H l) (.hd (.flat g true e r rows))) := by
    rw [y7]
    refine ⟨rfl, rfl, fun k => ?_⟩
    by_cases hk : k = l
    ·subst hk; exact .inr ⟨g, e, r, rows, h3, zt _ _⟩
    ·exact .inl (zR _ hk)
   exact ⟨_, ⟨h4, hf.trans hon, hon, rfl, by show Tx P E σ1.H _ (σ1.put (.H l) (.hd (.flat g true e r rows))).H; rw [y7]; exact h5, fun v c hv => by cases hv with | c _ _ h => exact .c _ _ (h.mono (fun _ _ _ _ h => h) fun _ _ h => .inl h)⟩, hH2⟩
  ·rw [hH] at h1; cases h1
   show ∃ E', FrzTo P B X w0 S0 pa tm E σ σ1 E' (σ1.put (.H l) (.hd (.flat g true e r rows))) ∧ (σ1.put (.H l) (.hd (.flat g true e r rows))).H l = _
   rw [z9D h2]
   exact ⟨E, .refl hr hf, h2⟩
theorem z1Y (hr : RelE P B X w0 S0 pa E tm σ1) (hf : FrzOf σ σ1) {x y : RV} {ws : Ws} (h : Rdr.run σ (frz0 x) = some (y, ws)) :
  ∃ E', FrzTo P B X w0 S0 pa tm E σ σ1 E' (σ1.puts ws) ∧ (ok1 σ1.H x → ok1 (σ1.puts ws).H y ∧ ∀ v, VR P E v (av1 σ1.H x) → VR P E' v (av1 (σ1.puts ws).H y)) := by
 unfold frz0 at h
 split at h
 ·rename_i l g e
  simp only [Rdr.run, KS.lk, Sl.hd!] at h
  split at h
  ·rename_i g' fr e' r rows hH
   split at h
   ·rename_i hc
    obtain ⟨rfl, rfl⟩ := hc
    cases h
    obtain ⟨E', h1, h2⟩ := zoD hr hf hH rfl
    refine ⟨E', h1, fun hx => ⟨trivial, fun v hv => ?_⟩⟩
    have h3 := h1.tx.v v (.arw l g e) hx hv
    have h4 : av0 (σ1.puts (if fr = true then [] else [(.H l, .hd (.flat g true e r rows))])).H (.arw l g e) = .c (.sl e (rows.map (encR r))) := by
     show avW _ l g e = _
     simp [avW, h2]
    rw [h4] at h3
    exact h3
   ·cases h
  ·cases h
 ·rename_i l g e off len
  simp only [Rdr.run, KS.lk, Sl.hd!] at h
  split at h
  ·rename_i g' fr e' r rows hH
   split at h
   ·rename_i hc
    obtain ⟨rfl, rfl⟩ := hc
    simp only [Rdr.run] at h
    cases hin : inN rows off len with
    | false => rw [hin] at h; cases h
    | true =>
     rw [hin] at h
     cases h
     have hin' : off + len ≤ rows.length := by simpa [inN] using hin
     obtain ⟨E', h1, h2⟩ := zoD hr hf hH rfl
     refine ⟨E', h1, fun hx => ⟨trivial, fun v hv => ?_⟩⟩
     have h3 := h1.tx.v v (.ars l g e off len) hx hv
     have h4 : av0 (σ1.puts (if fr = true then [] else [(.H l, .hd (.flat g true e r rows))])).H (.ars l g e off len) = .c (.sl e (((rows.drop off).take len).map (encR r))) := by
      show avS _ l g e off len = _
      simp [avS, h2, hin']
     rw [h4] at h3
     exact h3
   ·cases h
  ·cases h
 ·cases h
  exact ⟨E, .refl hr hf, fun hx => ⟨hx, fun v hv => hv⟩⟩
theorem z4Z : ∀ {xs ys : List RV} {ws : Ws} {E : Env} {σ1 : KS}, RelE P B X w0 S0 pa E tm σ1 → FrzOf σ σ1 → Rdr.run σ (frzL xs) = some (ys, ws) → (∀ x ∈ xs, ok1 σ1.H x) →
  ∃ E', FrzTo P B X w0 S0 pa tm E σ σ1 E' (σ1.puts ws) ∧ ys.length = xs.length ∧ (∀ y ∈ ys, ok1 (σ1.puts ws).H y) ∧ ∀ (i : Nat) (x y : RV), xs[i]? = some x → ys[i]? = some y → ∀ v, VR P E v (av1 σ1.H x) → VR P E' v (av1 (σ1.puts ws).H y)
 | [], ys, ws, E, σ1, hr, hf, h, _ => by cases h; exact ⟨E, .refl hr hf, rfl, by simp, by simp⟩
 | x :: xs, ys, ws, E, σ1, hr, hf, h, hok => by
  simp only [frzL, Rdr.run_bind, Option.bind_eq_some_iff, Rdr.run, Option.some.injEq] at h
  obtain ⟨⟨y, w1⟩, h1, ⟨ys', w2⟩, h2, h3⟩ := h
  cases h3
  obtain ⟨E1, a1, a2⟩ := z1Y hr hf h1
  obtain ⟨b1, b2⟩ := a2 (hok x List.mem_cons_self)
  obtain ⟨E2, c1, c2, c3, c4⟩ := z4Z a1.rel a1.of h2 fun z hz => a1.tx.ok1 _ (hok z (List.mem_cons_of_mem _ hz))
  rw [Yf]
  refine ⟨E2, a1.trans c1, by simp [c2], fun z hz => ?_, fun i a b ha hb v hv => ?_⟩
  ·rcases List.mem_cons.1 hz with rfl | hz
   ·exact c1.tx.ok1 _ b1
   ·exact c3 z hz
  ·cases i with
   | zero => simp at ha hb; subst ha hb; exact c1.tx.v1 v _ b1 (b2 v hv)
   | succ i => exact c4 i a b (by simpa using ha) (by simpa using hb) v (a1.tx.v1 v a (hok a (List.mem_cons_of_mem _ (List.mem_of_getElem? (by simpa using ha)))) hv)
theorem zfZ (hr : RelE P B X w0 S0 pa E tm σ1) (hf : FrzOf σ σ1) {xs ys : List RV} {ws : Ws} (h : Rdr.run σ (frzL xs) = some (ys, ws)) (hok : ∀ x ∈ xs, ok1 σ1.H x) {vs : Array Value} (hc : CellsR P E vs (xs.map (av1 σ1.H))) :
  ∃ E', FrzTo P B X w0 S0 pa tm E σ σ1 E' (σ1.puts ws) ∧ ys.length = xs.length ∧ (∀ y ∈ ys, ok1 (σ1.puts ws).H y) ∧ CellsR P E' vs (ys.map (av1 (σ1.puts ws).H)) := by
 obtain ⟨E', h1, h2, h3, h4⟩ := z4Z hr hf h hok
 refine ⟨E', h1, h2, h3, by rw [hc.1, List.length_map, List.length_map, h2], fun i v y hv hy => ?_⟩
 rw [List.getElem?_map, Option.map_eq_some_iff] at hy
 obtain ⟨b, hb, rfl⟩ := hy
 have hi : i < xs.length := by rw [← h2]; exact (List.getElem?_eq_some_iff.1 hb).1
 have h5 := hc.2 i v _ hv (by rw [List.getElem?_map, List.getElem?_eq_getElem hi]; rfl)
 exact ⟨h4 i _ b (List.getElem?_eq_getElem hi) hb v h5.1, h5.2⟩
/-! ### Rows out of cells -/
theorem z5E {c : CT} {x : RV} {y : Den c} (h : asD c x = some y) (H : Nat → Hd) {v : Value} (hv : VR P E v (av1 H x)) : VR P E v (.c (enc c y)) := by
 unfold asD at h
 split at h
 ·rename_i c' z
  split at h
  ·rename_i hc _
   subst hc
   cases h
   exact hv
  ·cases h
 ·split at h
  ·cases h
   cases hv
   exact .c _ _ (.emp _ _ _)
  ·cases h
 ·cases h
theorem z3P (H : Nat → Hd) : ∀ {r : RT} {xs : List RV} {y : DenR r}, asR r xs = some y → xs.length = r.size ∧ ∀ (j : Nat) (x : RV) (c : C), xs[j]? = some x → (encR r y)[j]? = some c → ∀ v, VR P E v (av1 H x) → VR P E v (.c c) := by
 intro r
 induction r using RT.rec (motive_1 := fun _ => True) with
 | int | bool | str | sl => trivial
 | one c =>
  intro xs y h
  rw [ztU] at h
  match xs, h with
  | [x], h =>
   refine ⟨rfl, fun j x' c' hx hc v hv => ?_⟩
   cases j with
   | zero =>
    simp at hx; subst hx
    have hc' : (some (enc c y) : Option C) = some c' := hc
    cases hc'
    exact z5E (c := c) h H hv
   | succ j => simp at hx
 | cons c r _ ih =>
  intro xs y h
  rw [zkP] at h
  match xs, h with
  | x :: xs, h =>
   obtain ⟨h1, h2⟩ := zpq (h : zfL (asD c x) (asR r xs) = some y)
   obtain ⟨h3, h4⟩ := ih h2
   refine ⟨by simp [RT.size, h3], fun j x' c' hx hc v hv => ?_⟩
   cases j with
   | zero =>
    simp at hx; subst hx
    have hc' : (some (enc c (Prod.fst y)) : Option C) = some c' := hc
    cases hc'
    exact z5E h1 H hv
   | succ j =>
    have hc' : (encR r (Prod.snd y))[j]? = some c' := hc
    exact h4 j x' c' (by simpa using hx) hc' v hv
theorem zqI {H : Nat → Hd} {r : RT} {xs : List RV} {y : DenR r} (h : asR r xs = some y) {vs : Array Value} (hc : CellsR P E vs (xs.map (av1 H))) : CellsR P E vs ((encR r y).map .c) := by
 obtain ⟨h1, h2⟩ := z3P (P := P) (E := E) H h
 refine ⟨by rw [hc.1, List.length_map, List.length_map, ZW, h1], fun i v x hv hx => ?_⟩
 rw [List.getElem?_map, Option.map_eq_some_iff] at hx
 obtain ⟨c, hcc, rfl⟩ := hx
 have hi : i < xs.length := by rw [h1, ← ZW r y]; exact (List.getElem?_eq_some_iff.1 hcc).1
 have h5 := hc.2 i v _ hv (by rw [List.getElem?_map, List.getElem?_eq_getElem hi]; rfl)
 exact ⟨h2 i _ c (List.getElem?_eq_getElem hi) hcc v h5.1, h5.2⟩
theorem zf3 {H : Nat → Hd} : ∀ (r : RT) (j : Nat) (x : RV) (c : C), (Y0 r)[j]? = some x → (encR r (yZ r))[j]? = some c → ∀ v, VR P E v (av1 H x) → VR P E v (.c c) := by
 have one : ∀ (c : CT) (v : Value), VR P E v (av1 H (match c with | .sl _ _ => .nils | c => .d c (zero c))) → VR P E v (.c (enc c (zero c))) := by
  intro c v hv
  cases c with
  | sl e r => cases hv; exact .c _ _ (.emp _ _ _)
  | int k => exact hv
  | bool => exact hv
  | str => exact hv
 intro r
 induction r using RT.rec (motive_1 := fun _ => True) with
 | int | bool | str | sl => trivial
 | one c =>
  intro j x c' hx hc v hv
  cases j with
  | zero =>
   have hc' : (some (enc c (zero c)) : Option C) = some c' := hc
   cases hc'
   cases c <;> (simp [Y0] at hx; subst hx; exact one _ v hv)
  | succ j => cases c <;> simp [Y0] at hx
 | cons c r _ ih =>
  intro j x c' hx hc v hv
  cases j with
  | zero =>
   have hc' : (some (enc c (zero c)) : Option C) = some c' := hc
   cases hc'
   cases c <;> (simp [Y0] at hx; subst hx; exact one _ v hv)
  | succ j =>
   have hc' : (encR r (yZ r))[j]? = some c' := hc
   refine ih j x c' ?_ hc' v hv
   cases c <;> simpa [Y0] using hx
end
end Go.Kx
namespace Go.Kx
open Go.Rb
def Does (P : Program) (a : Act) (o : Oper) (w : World) (Kw : Value → World → Prop) : Prop :=
 (∃ v w', (execOp a.eval o).run P w = .ok (.value v) w' ∧ Kw v w') ∨ (∃ w', (execOp a.eval o).run P w = .ok .skip w' ∧ Kw undef w') ∨
  (∃ f args, (execOp a.eval o).run P w = .ok (.enter f args) w ∧ Calls P f args w fun e w' => ∃ v, e = .returned v ∧ Kw v w')
theorem Does.wp {P : Program} {a : Act} {o : Oper} {w : World} {Kw : Value → World → Prop} {K : Act → World → Prop} {Q : Exit → Act → World → Prop} (h : Does P a o w Kw) (hK : ∀ v w', Kw v w' → K (a.put o.dst v) w') : o.wp P a w K Q := by
 unfold Oper.wp
 rcases h with ⟨v, w', h1, h2⟩ | ⟨w', h1, h2⟩ | ⟨f, args, h1, h2⟩
 ·rw [h1]; exact hK v w' h2
 ·rw [h1]; exact hK _ w' h2
 ·rw [h1]
  refine h2.mono ?_
  rintro e w' ⟨v, rfl, h3⟩
  exact hK v w' h3
theorem Does.mono {P : Program} {a : Act} {o : Oper} {w : World} {Kw Kw' : Value → World → Prop} (h : Does P a o w Kw) (hK : ∀ v w', Kw v w' → Kw' v w') : Does P a o w Kw' := by
 rcases h with ⟨v, w', h1, h2⟩ | ⟨w', h1, h2⟩ | ⟨f, args, h1, h2⟩
 ·exact .inl ⟨v, w', h1, hK _ _ h2⟩
 ·exact .inr (.inl ⟨w', h1, hK _ _ h2⟩)
 ·refine .inr (.inr ⟨f, args, h1, h2.mono ?_⟩)
  rintro e w' ⟨v, rfl, h3⟩
  exact ⟨v, rfl, hK _ _ h3⟩
section
variable {P : Program} {T : TT} {B : Nat} {X : Nat → Prop} {w0 : World} {S0 : Nat → Nat → Prop} {pa : List ((Nat → Value) × (Nat → RV))} {E : Env} {σ σ1 : KS} {tm : Nat → Value}
def Yb (P : Program) (B : Nat) (X : Nat → Prop) (w0 : World) (S0 : Nat → Nat → Prop) (pa : List ((Nat → Value) × (Nat → RV))) (tm : Nat → Value) (σ' : KS) (x : RV) (v : Value) (w' : World) : Prop :=
 ∃ E' : Env, E'.w = w' ∧ RelE P B X w0 S0 pa E' tm σ' ∧ VR P E' v (av3 σ'.H x) ∧ ok3 σ'.H x
theorem vm {α : Type} {f : Nat → Nat → Rdr α} {x : α} : ∀ {n d : Nat}, Rdr.run σ (zbb n d f) = some x → ∃ l g, σ.H l = .no g ∧ Rdr.run σ (f l g) = some x
 | 0, d, h => by cases h
 | n + 1, d, h => by
  simp only [zbb, Rdr.run, KS.lk, Sl.hd!] at h
  split at h
  ·rename_i g hg
   exact ⟨d, g, hg, h⟩
  ·exact vm h
theorem vn : ∀ r : RT, (Y0 r).length = r.size := by
 intro r
 induction r using RT.rec (motive_1 := fun _ => True) with
 | int | bool | str | sl => trivial
 | one c => cases c <;> rfl
 | cons c r _ ih => cases c <;> simp [Y0, RT.size, ih]
theorem ziG (hr : RelE P B X w0 S0 pa E tm σ) {d n cnt : Nat} {e : TypeId} {xs : List RV} {q : Nat × Nat} {ws : Ws} (h : Rdr.run σ (newR d n cnt e xs) = some (q, ws)) (hn : xs.length = n) (hcnt : cnt ≠ 0 → n = cnt * P.cellsOf e) (hok : ∀ x ∈ xs, ok1 σ.H x) {cs : Array Value} {ty : TypeId}
  (hc : CellsR P E cs (xs.map (av1 σ.H))) : Yb P B X w0 S0 pa tm (σ.puts ws) (.ptr q.1 q.2 0) (.pointer (some ⟨E.w.heap.size, 0, none⟩)) (E.w.alloc (.cells cs ty)) := by
 obtain ⟨l, g, hl, h1⟩ := vm h
 cases h1
 obtain ⟨h2, h3⟩ := hr.newCells hl hn hcnt hok (ty := ty) hc
 have hH : (σ.puts ((.H l, .hd (.cells (g + 1) n cnt e)) :: putL l 0 xs)).H l = .cells (g + 1) n cnt e := by
  simp only [KS.puts]; rw [y7, z14]; exact zt _ _
 refine ⟨_, rfl, h2, ?_, ?_⟩
 ·show VR P _ _ (avP _ l (g + 1) 0)
  have : avP (σ.puts ((.H l, .hd (.cells (g + 1) n cnt e)) :: putL l 0 xs)).H l (g + 1) 0 = .ptr l 0 := by simp [avP, hH]
  rw [this]
  have h9 := VR.ptr (P := P) (E := Zn E (E.w.alloc (.cells cs ty)) l cs.size) l 0 (.inr rfl)
  simp only [Zn, if_true] at h9
  exact h9
 ·show g + 1 ≤ ((σ.puts ((.H l, .hd (.cells (g + 1) n cnt e)) :: putL l 0 xs)).H l).gen
  rw [hH]; exact Nat.le_refl _
theorem znE (hT : TOK P T) (hr : RelE P B X w0 S0 pa E tm σ) {e : TypeId} {k : TK} {n b : Nat} {r : RT} (hd : T e = some ⟨k, n, b, some r⟩) {d : Nat} {q : Nat × Nat} {ws : Ws} (h : Rdr.run σ (newR d n 0 0 (Y0 r)) = some (q, ws)) {a : Act} {o : Oper} (ho : o.op = .alloc e) :
  Does P a o E.w (Yb P B X w0 S0 pa tm (σ.puts ws) (.ptr q.1 q.2 0)) := by
 obtain ⟨h1, h2⟩ := hT.rt _ _ _ hd rfl
 obtain ⟨zv, hzr, hzc⟩ := VM E h2
 obtain ⟨hz1, hz2⟩ := zl1 σ.H r
 rw [← hz1] at hzc
 have := ziG (ty := e) hr h (by rw [vn]; exact h1) (fun h => absurd rfl h) hz2 hzc
 refine .inl ⟨_, _, ?_, this⟩
 obtain ⟨dst, op, ty, pos, after, guard⟩ := o
 simp only at ho
 subst ho
 simp only [execOp, Instr.alloc, Sem.run_bind, hzr, Result.andThen_ok, newVar, newRow, newObj, Sem.run_pure]; rfl
theorem zqJ (hr : RelE P B X w0 S0 pa E tm σ) {a : Act} (ha : tm = fun i => a.tmps.getD i undef) {o : Oper} {ty : TypeId} {x : Operand} (ho : o.op = .box ty x) {cs : List RV} (hcs : Rdr.run σ (z3N (evS σ x)) = some cs) {d : Nat} {q : Nat × Nat} {ws : Ws}
  (h : Rdr.run σ (newR d cs.length 0 0 cs) = some (q, ws)) : Does P a o E.w (Yb P B X w0 S0 pa tm (σ.puts ws) (.ptr q.1 q.2 0)) := by
 obtain ⟨h1, h2, h3⟩ := z4X hcs
 obtain ⟨hv, hok⟩ := hr.ev ha x
 have hc := hv.cells h1
 have := ziG (ty := ty) hr h rfl (fun h => absurd rfl h) (h3 hok) hc
 refine .inl ⟨_, _, ?_, this⟩
 obtain ⟨dst, op, ty', pos, after, guard⟩ := o
 simp only at ho
 subst ho
 simp only [execOp, Instr.box, Sem.run_bind, newVar, newRow, newObj, Sem.run_pure]; rfl
theorem zqK {w : World} {t : TypeId} {v : Value} {g off : Nat} {cur : Array Value} {e : TypeId} (hh : w.heap[g]? = some (.cells cur e (0, 0))) (hi : (P.info? t).isSome = true) (hs : v.cells.size = P.cellsOf t) (hfit : off + v.cells.size ≤ cur.size) (h1 : ∀ u ∈ v.cells.toList, u.oneCell' = true) :
  (Instr.storeAt t (.pointer (some ⟨g, off, none⟩)) v).run P w = .ok () (w.setRow g (ym cur off v.cells.toList 0)) := by
 have hst := run_storeCells_at P g off e v.cells.toList 0 cur w hh (by simpa using hfit) h1
 have hput : (cur.toList.take (off + 0) ++ v.cells.toList ++ cur.toList.drop (off + 0 + v.cells.toList.length)).toArray = ym cur off v.cells.toList 0 := by
  apply Array.ext_getElem?
  intro k
  rw [jz _ _ _ _ _ (by simpa using hfit)]
  have h1 : (cur.toList.take off).length = off := by simp; omega
  simp only [Nat.add_zero, List.getElem?_toArray, List.append_assoc]
  rw [List.getElem?_append, h1]
  by_cases h2 : k < off
  ·rw [if_pos h2, if_neg (by omega), List.getElem?_take, if_pos h2]; simp
  ·rw [if_neg h2, List.getElem?_append]
   by_cases h3 : k - off < v.cells.toList.length
   ·rw [if_pos h3, if_pos (by omega)]
   ·rw [if_neg h3, if_neg (by omega), List.getElem?_drop]
    have : off + v.cells.toList.length + (k - off - v.cells.toList.length) = k := by omega
    rw [this]; simp
 simp only [Instr.storeAt, Instr.sureAddr, Sem.run_bind, Sem.run_pure, Result.andThen_ok, storeVar, yQ hi, hs, ne_eq, not_true_eq_false, if_false, hst, hput]
theorem zqL {vs : Array Value} {xs : List AV} (h : CellsR P E vs xs) : ∀ u ∈ vs.toList, u.oneCell' = true := by
 intro u hu
 obtain ⟨i, hi⟩ := List.getElem?_of_mem hu
 have hi' : vs[i]? = some u := by simpa using hi
 have h1 : i < xs.length := by rw [← h.1]; exact (Array.getElem?_eq_some_iff.1 hi').1
 exact (h.2 i u _ hi' (List.getElem?_eq_getElem h1)).2
theorem zu2 {n : Nat} {cur : Array Value} {z : List AV} {ws : Array Value} {ys : List AV} {off : Nat} (hb : BlkR P E n cur z) (hc : CellsR P E ws ys) (hin : off + ys.length ≤ z.length) : BlkR P E n (ym cur off ws.toList 0) (Z8 z off ys) := by
 have h1 := hb.1
 have h2 := hb.2.1
 refine ⟨by rw [z0T, hb.1], by rw [VD hin]; exact hb.2.1, fun i v x hv hx => ?_⟩
 rw [y6 _ _ _ _ hin] at hx
 have hwl : ws.toList.length = ys.length := by rw [Array.length_toList, hc.1]
 rw [jz _ _ _ _ _ (by rw [hwl]; omega)] at hv
 simp only [Nat.add_zero, hwl] at hv
 split at hv
 ·rename_i hq
  rw [if_pos hq] at hx
  exact hc.2 _ _ _ (by simpa using hv) hx
 ·rename_i hq
  rw [if_neg hq] at hx
  exact hb.2.2 _ _ _ hv hx
theorem z15 {k : Key} : ∀ {L : List Key}, kin k L = false → k ∉ L
 | [], _, h => by cases h
 | x :: L, h, hm => by
  simp only [kin, Bool.or_eq_false_iff] at h
  rcases List.mem_cons.1 hm with rfl | hm
  ·have := (Key.beq_iff k k).2 rfl; rw [this] at h; exact absurd h.1 (by simp)
  ·exact z15 h.2 hm
theorem kin_true {k : Key} : ∀ {L : List Key}, kin k L = true ↔ k ∈ L
 | [] => by simp [kin]
 | x :: L => by
  simp only [kin, Bool.or_eq_true, Key.beq_iff, List.mem_cons, kin_true (L := L)]
theorem zbg : ∀ {ws : Ws} {σ : KS} {l : Nat}, Key.H l ∉ Z5 ws → (σ.puts ws).H l = σ.H l
 | [], σ, l, _ => rfl
 | (k, s) :: ws, σ, l, h => by
  simp only [Z5, List.mem_cons, not_or] at h
  show ((σ.put k s).puts ws).H l = _
  rw [zbg h.2]
  cases k with
  | T i => rfl
  | C a b => rfl
  | H a =>
   show (bif Nat.beq l a then s.hd! else σ.H l) = _
   have : ¬ l = a := fun he => h.1 (by rw [he])
   rw [nbeq]; simp [this]
theorem znF (hT : TOK P T) (hr : RelE P B X w0 S0 pa E tm σ) {a : Act} (ha : tm = fun i => a.tmps.getD i undef) {o : Oper} {t : TypeId} {ad x : Operand} (ho : o.op = .store t ad x) {ws : Ws} (h : Rdr.run σ (zkT T t (evS σ ad) (evS σ x)) = some ws) :
  Does P a o E.w (Yb P B X w0 S0 pa tm (σ.puts ws) .und) := by
 obtain ⟨hva, hoka⟩ := hr.ev ha ad
 obtain ⟨hvx, hokx⟩ := hr.ev ha x
 obtain ⟨dst, op, ty', pos, after, guard⟩ := o
 simp only at ho
 subst ho
 unfold zkT at h
 split at h
 ·rename_i d hd
  obtain ⟨hc1, _, hc3⟩ := hT.c t d hd
  simp only [Rdr.run_bind, Option.bind_eq_some_iff] at h
  obtain ⟨cs, hcs, h⟩ := h
  obtain ⟨h1, h2, h3⟩ := z4X hcs
  have hcx := hvx.cells h1
  have hok := h3 hokx
  split at h
  ·rename_i hlen
   obtain ⟨hlen, hne⟩ := hlen
   have hsz : (a.eval x).cells.size = P.cellsOf t := by rw [hcx.1, List.length_map, hlen, hc1]
   have fin : ∀ {E' : Env} {g off : Nat} {cur : Array Value} {e : TypeId}, a.eval ad = .pointer (some ⟨g, off, none⟩) → E.w.heap[g]? = some (.cells cur e (0, 0)) → off + (a.eval x).cells.size ≤ cur.size → E'.w = E.w.setRow g (ym cur off (a.eval x).cells.toList 0) →
     RelE P B X w0 S0 pa E' tm (σ.puts ws) → Does P a { dst, op := .store t ad x, type := ty', pos, after, guard } E.w (Yb P B X w0 S0 pa tm (σ.puts ws) .und) := by
    intro E' g off cur e hp hh hfit hw hrel
    refine .inr (.inl ⟨E'.w, ?_, E', rfl, hrel, .und, trivial⟩)
    have := zqK (P := P) (t := t) (v := a.eval x) hh hc3 hsz hfit (zqL hcx)
    rw [hw]
    simp only [execOp, hp, Sem.run_bind, this, Result.andThen_ok, Sem.run_pure]
   split at h
   ·rename_i l g off hev
    rw [hev] at hva
    simp only [Rdr.run, KS.lk, Sl.hd!] at h
    split at h
    ·rename_i g' n cnt e hH
     split at h
     ·rename_i hg
      obtain ⟨rfl, hin⟩ := hg
      cases h
      have hx' : av3 σ.H (.ptr l g off) = .ptr l off := by show avP σ.H l g off = _; simp [avP, hH]
      rw [hx'] at hva
      generalize hq : a.eval ad = q at hva fin
      cases hva with
      | ptr _ _ hA =>
      obtain ⟨cur, te, hh, hb, _⟩ := hr.w3.loc l hA
      obtain ⟨h4, h5⟩ := hr.storeC hH hA hok hin hcx hh
      refine fin rfl hh ?_ rfl h4
      have hml : (σ.m l).length = n := by rw [z39 hH]; simp
      have h6 := hb.1
      have h7 := hb.2.1
      rw [hcx.1, List.length_map]; omega
     ·cases h
    ·cases h
   ·rename_i l g e i k hev
    rw [hev] at hva hoka
    simp only [Rdr.run_bind, Option.bind_eq_some_iff] at h
    obtain ⟨⟨ys, w1⟩, hfz, h⟩ := h
    simp only [Rdr.run, KS.lk, Sl.hd!] at h
    split at h
    ·rename_i g' e' r rows hH
     split at h
     ·rename_i hg
      obtain ⟨rfl, rfl, hk, hkin⟩ := hg
      cases hi : rows[i]? with
      | none => simp only [atN, hi, Rdr.run] at h; cases h
      | some y =>
       simp only [atN, hi, Rdr.run] at h
       cases hy' : asR r (VN (zV r y) k ys) with
       | none => rw [hy'] at h; cases h
       | some y' =>
        rw [hy'] at h
        replace h : some (w1 ++ [(Key.H l, Sl.hd (.flat g false e r (setN rows i y')))]) = some ws := h
        cases h
        obtain ⟨E1, f1, f2, f3, f4⟩ := zfZ hr (.refl σ) hfz hok hcx
        have hH1 : (σ.puts w1).H l = .flat g false e r rows := (zbg (z15 hkin)).trans hH
        have hva1 := f1.tx.v3 _ _ hoka hva
        have hx' : av3 (σ.puts w1).H (.pel l g e i k) = .ptr l (i * r.size + k) := by show avE (σ.puts w1).H l g e i k = _; simp [avE, hH1]
        rw [hx'] at hva1
        generalize hq : a.eval ad = q at hva1 fin
        cases hva1 with
        | ptr _ _ hA =>
        obtain ⟨cur, te, hh, hb, _⟩ := f1.rel.w3.loc l hA
        have hilt : i < rows.length := (List.getElem?_eq_some_iff.1 hi).1
        have hib : (i + 1) * r.size ≤ rows.length * r.size := Nat.mul_le_mul_right _ hilt
        rw [Nat.add_mul, Nat.one_mul] at hib
        have hml : (σ.puts w1).m l = zr r rows := Y4 hH1
        -- the element's cells
        have hrow : ((zr r rows).drop (i * r.size)).take r.size = (encR r y).map .c := by
         have := ziA (k := 0) (n := r.size) hi (by omega)
         simp only [zr, ← List.map_drop, ← List.map_take]
         rw [Nat.add_zero, List.drop_zero] at this
         rw [this, List.take_of_length_le (by rw [ZW]; exact Nat.le_refl _)]
        have hys : ys.length = (a.eval x).cells.size := by rw [f4.1, List.length_map]
        -- what is there then
        have hcur := hb.1
        have hcur2 := hb.2.1
        rw [hml, Zo] at hcur2
        have hblk := zu2 (off := i * r.size + k) hb f4 (by rw [hml, Zo, List.length_map]; omega)
        rw [hml] at hblk
        have hle1 : ∀ v (j : Nat) (x' : RV) (c : C), (VN (zV r y) k ys)[j]? = some x' → (encR r y')[j]? = some c → VR P E1 v (av1 (σ.puts w1).H x') → VR P E1 v (.c c) := fun v j x' c h1 h2 h3 => (z3P (P := P) (E := E1) (σ.puts w1).H hy').2 j x' c h1 h2 v h3
        have hpl : ((VN (zV r y) k ys).map (av1 (σ.puts w1).H)) = Z8 ((encR r y).map .c) k (ys.map (av1 (σ.puts w1).H)) := by
         rw [show VN (zV r y) k ys = Z8 (zV r y) k ys from rfl, zfY, vk]
        have hz : BlkR P E1 (E1.cp l) (ym cur (i * r.size + k) (a.eval x).cells.toList 0) (zr r (setN rows i y')) := by
         refine ⟨hblk.1, by rw [Zo, setN, List.length_set]; omega, fun j v c hv hc => ?_⟩
         rw [zuU r y' hilt, y6 _ _ _ _ (by rw [Zo, List.length_map, ZW]; omega)] at hc
         rw [List.length_map, ZW] at hc
         split at hc
         ·rename_i hj
          rw [List.getElem?_map, Option.map_eq_some_iff] at hc
          obtain ⟨c', hc', rfl⟩ := hc
          -- the old reckoning of the same cell
          have h5 : ∃ x', (VN (zV r y) k ys)[j - i * r.size]? = some x' := by
           have : j - i * r.size < (VN (zV r y) k ys).length := by rw [(z3P (P := P) (E := E1) (σ.puts w1).H hy').1]; omega
           exact ⟨_, List.getElem?_eq_getElem this⟩
          obtain ⟨x', hx'⟩ := h5
          have h6 : (Z8 (zr r rows) (i * r.size + k) (ys.map (av1 (σ.puts w1).H)))[j]? = some (av1 (σ.puts w1).H x') := by
           have e1 := zqF (z := zr r rows) (cs := ys.map (av1 (σ.puts w1).H)) (off := i * r.size) (sz := r.size) (k := k) (by rw [Zo]; omega) (by rw [List.length_map]; exact hk)
           rw [← e1, hrow, ← hpl, y6 _ _ _ _ (by rw [Zo, List.length_map, (z3P (P := P) (E := E1) (σ.puts w1).H hy').1]; omega)]
           rw [List.length_map, (z3P (P := P) (E := E1) (σ.puts w1).H hy').1, if_pos hj, List.getElem?_map, hx']; rfl
          have h7 := hblk.2.2 j v _ hv h6
          exact ⟨hle1 v _ x' c' hx' hc' h7.1, h7.2⟩
         ·rename_i hj
          refine hblk.2.2 j v c hv ?_
          rw [y6 _ _ _ _ (by rw [Zo, List.length_map]; omega), List.length_map, if_neg (by omega)]
          exact hc
        obtain ⟨h4, h5⟩ := f1.rel.rows hH1 hA (by simp [setN]) hz
        have hwE : E1.w = E.w := f1.w
        refine fin (E' := { E1 with w := E1.w.setRow (E1.β l) (ym cur (i * r.size + k) (a.eval x).cells.toList 0) }) rfl (by rw [← hwE]; exact hh) (by rw [← hys]; omega) (by show E1.w.setRow _ _ = _; rw [hwE]) ?_
        rw [Yf]; exact h4
     ·cases h
    ·cases h
   ·cases h
  ·cases h
 ·cases h
end
end Go.Kx
namespace Go.Kx
open Go.Rb
theorem zf4 {P : Program} (w : World) (t ty e e2 : TypeId) (i : TypeInfo) (ht : P.underlying t = some (.slice e)) (hi : P.info? e = some i)
  (g o sLen sCap : Nat) (cur : Array Value) (hg : w.heap[g]? = some (.cells cur e2 (0, 0)))
  (a : Addr) (m c : Nat) (news : List Value) (hl : news.length = m * i.size) (hnews : ∀ j u, news[j]? = some u → w.cell? (a.add j) = some u) (h1 : ∀ u ∈ news, u.oneCell' = true)
  (hroom : sLen + m ≤ sCap) (hfit : o + sLen * i.size + news.length ≤ cur.size) :
  (Builtin.append_ #[t, t] ty #[.slice (some ⟨g, o, none⟩) sLen sCap, .slice (some a) m c]).run P w =
   .ok (.slice (some ⟨g, o, none⟩) (sLen + m) sCap) (w.setRow g (cur.toList.take (o + sLen * i.size) ++ news ++ cur.toList.drop (o + sLen * i.size + news.length)).toArray) := by
 have hf := run_firstCells_some (P := P) w i.size m a m c news hl hnews
 have hst := run_storeCells_at P g (o + sLen * i.size) e2 news 0 cur w hg (by simpa using hfit) h1
 simp only [Nat.add_zero] at hst
 simp [Builtin.append_, run_underlying ht, sizeOf, typeInfo, hi, Builtin.lenOf, hroom, hf, Ye, hst]
theorem zl3 {e : TypeId} {r : RT} {c : CT} {y : Den c} {rows : List (DenR r)} (h : asD (.sl e r) (.d c y) = some rows) : ∃ h : c = .sl e r, rows = (h ▸ y : Den (.sl e r)) := by
 unfold asD at h
 simp only at h
 split at h
 ·rename_i hc _
  cases h
  exact ⟨hc, rfl⟩
 ·cases h
theorem z3c {e e2 : TypeId} {r r' : RT} {y : List (DenR r')} {rows : List (DenR r)} (h : asD (.sl e r) (.d (.sl e2 r') y) = some rows) : ∃ (_ : e2 = e) (h2 : r' = r), rows = h2 ▸ y := by
 obtain ⟨hc, hy⟩ := zl3 h
 have h1 := CT.sl.inj hc
 obtain ⟨rfl, rfl⟩ := h1
 exact ⟨rfl, rfl, hy⟩
section
variable {P : Program} {T : TT} {B : Nat} {X : Nat → Prop} {w0 : World} {S0 : Nat → Nat → Prop} {pa : List ((Nat → Value) × (Nat → RV))} {E : Env} {σ σ1 : KS} {tm : Nat → Value}
def Lies (P : Program) (E : Env) (r : RT) (rows : List (DenR r)) (v : Value) : Prop :=
 ∃ a c, v = .slice a rows.length c ∧ rows.length ≤ c ∧ (rows ≠ [] → ∃ b off, a = some ⟨b, off, none⟩ ∧ ∃ L : List Value, L.length = rows.length * r.size ∧ (∀ (j : Nat) (u : Value), L[j]? = some u → E.w.cell? ⟨b, off + j, none⟩ = some u) ∧
  ∀ (j : Nat) (u : Value) (x : AV), L[j]? = some u → (zr r rows)[j]? = some x → VR P E u x ∧ u.oneCell' = true)
theorem z7i {e : TypeId} {r : RT} {rows : List (DenR r)} (hsz : r.size = P.cellsOf e) {v : Value} (h : VR P E v (.c (.sl e (rw' r rows)))) : Lies P E r rows v := by
 have hd := jy h
 obtain ⟨a, c, rfl, hc⟩ := hd.slice
 have hl : (rw' r rows).length = rows.length := by simp [rw']
 rw [hl] at hc ⊢
 refine ⟨a, c, rfl, hc, fun hne => ?_⟩
 obtain ⟨b, off, cap, vs, he, _, hr, hcell⟩ := hd.cells (by intro h0; exact hne (by simpa [rw'] using h0))
 cases he
 refine ⟨b, off, rfl, flat (P.cellsOf e) rows.length vs, by rw [zdZ, hsz], fun j u hj => ?_, fun j u x hj hx => ?_⟩
 ·obtain ⟨i', j', h1, h2, rfl, rfl⟩ := zl2 _ _ _ _ _ hj
  exact (hcell i' j' (by rw [hl]; exact h1) h2).1.1
 ·obtain ⟨i', j', h1, h2, rfl, rfl⟩ := zl2 _ _ _ _ _ hj
  have h3 : rows[i']? = some rows[i'] := List.getElem?_eq_getElem h1
  have h4 : j' < (encR r rows[i']).length := by rw [ZW, hsz]; exact h2
  have h5 := zbe h3 (List.getElem?_eq_getElem h4)
  rw [zr, List.getElem?_map, ← hsz, h5] at hx
  cases hx
  have h6 := (hcell i' j' (by rw [hl]; exact h1) h2).2 (encR r rows[i']) _ (by simp [rw', h3]) (List.getElem?_eq_getElem h4)
  exact ⟨.c _ _ h6, h6.oneCell⟩
theorem z5F (hr : RelE P B X w0 S0 pa E tm σ) {l g : Nat} {e : TypeId} {r : RT} {rows : List (DenR r)} (hH : σ.H l = .flat g false e r rows) {off len cap : Nat} {v : Value} (hin : off + len ≤ rows.length)
  (hv : VR P E v (.arr l (off * r.size) len cap e)) : Lies P E r ((rows.drop off).take len) v := by
 have hsz : r.size = P.cellsOf e := by have := hr.hd l; rw [hH] at this; exact this
 have hlen : ((rows.drop off).take len).length = len := by simp; omega
 cases hv with
 | arr0 _ _ a _ => exact ⟨a, 0, by simp, by simp, fun h => absurd List.take_zero h⟩
 | arr _ _ _ _ c _ hA h1 h2 h3 h4 =>
  obtain ⟨cs, ty, hh, hb, _⟩ := hr.w3.loc l hA
  have hml := Y4 hH
  have hb1 := hb.1
  have hb2 := hb.2.1
  rw [hml] at hb2
  have hzl : ((rw' r rows).flatten.map AV.c).length = rows.length * r.size := Zo r rows
  rw [hzl] at hb2
  have hol : (off + len) * r.size ≤ rows.length * r.size := Nat.mul_le_mul_right _ hin
  rw [Nat.add_mul] at hol
  refine ⟨_, c, by rw [hlen], by rw [hlen]; exact h2, fun _ => ⟨_, _, rfl, (cs.toList.drop (off * r.size)).take (len * r.size), ?_, fun j u hj => ?_, fun j u x hj hx => ?_⟩⟩
  ·rw [hlen, List.length_take, List.length_drop, Array.length_toList, hb1]; omega
  ·rw [List.getElem?_take] at hj
   split at hj
   ·rw [List.getElem?_drop] at hj
    rw [cell_of_row _ _ _ _ _ _ hh]; simpa using hj
   ·cases hj
  ·rw [List.getElem?_take] at hj
   split at hj
   ·rename_i hlt
    rw [List.getElem?_drop] at hj
    rw [z5t, zoC, List.getElem?_take, if_pos hlt, List.getElem?_drop] at hx
    refine hb.2.2 (off * r.size + j) u x (by simpa using hj) ?_
    rw [hml]; exact hx
   ·cases hj
theorem zu3 (hr : RelE P B X w0 S0 pa E tm σ) {l g : Nat} {e : TypeId} {r : RT} {rows : List (DenR r)} (hH : σ.H l = .flat g false e r rows) {off len cap : Nat} {v : Value} (hin : off + len ≤ rows.length)
  (hv : VR P E v (.arx l (off * r.size) len cap e)) : Lies P E r ((rows.drop off).take len) v ∧ ∃ a, v = .slice a len cap ∧ (a = none → len = 0 ∧ cap = 0) := by
 cases hv with
 | arx0 _ _ a _ => exact ⟨z5F hr hH hin (.arr0 _ _ _ _), a, rfl, fun _ => ⟨rfl, rfl⟩⟩
 | arx _ _ _ _ _ hA h2 h3 h4 => exact ⟨z5F hr hH hin (.arr _ _ _ _ _ _ hA (Nat.le_refl _) h2 h3 h4), _, rfl, fun h => by cases h⟩
theorem vV {v : Value} {l o n c : Nat} {e : TypeId} (h : VR P E v (.arr l o n c e)) : (n = 0 ∧ c = 0 ∧ ∃ a, v = .slice a 0 0) ∨
  ∃ c', E.A l ∧ c ≤ c' ∧ n ≤ c' ∧ o + c' * P.cellsOf e ≤ E.cp l ∧ c' ≤ maxLen ∧ v = .slice (some ⟨E.β l, o, none⟩) n c' := by
 cases h with
 | arr0 _ _ a _ => exact .inl ⟨rfl, rfl, a, rfl⟩
 | arr _ _ _ _ c' _ hA h1 h2 h3 h4 => exact .inr ⟨c', hA, h1, h2, h3, h4, rfl⟩
theorem z9E (hr : RelE P B X w0 S0 pa E tm σ) {e : TypeId} {r : RT} {x : RV} {rows : List (DenR r)} (hsz : r.size = P.cellsOf e) (h : Rdr.run σ (z4W e r x) = some rows) {v : Value} (hv : VR P E v (av3 σ.H x)) : Lies P E r rows v := by
 unfold z4W at h
 split at h
 ·rename_i c y
  cases hq : asD (.sl e r) (.d c y) with
  | none => rw [hq] at h; cases h
  | some z =>
   rw [hq] at h
   have hz : z = rows := by cases h; rfl
   subst hz
   obtain ⟨rfl, rfl⟩ := zl3 hq
   exact z7i hsz hv
 ·cases h
  replace hv : VR P E v .nils := hv
  cases hv
  exact ⟨none, 0, rfl, Nat.le_refl _, fun h => absurd rfl h⟩
 ·rename_i l g e'
  simp only [Rdr.run, KS.lk, Sl.hd!] at h
  split at h
  ·rename_i g' fr e2 r' rows' hH
   split at h
   ·rename_i hc
    obtain ⟨rfl, rfl, rfl⟩ := hc
    cases hq : asD (.sl e r) (.d (.sl e r') rows') with
    | none => rw [hq] at h; cases h
    | some z0 =>
     obtain ⟨z, rfl⟩ : ∃ z : List (DenR r), z = z0 := ⟨z0, rfl⟩
     rw [hq] at h
     have hz : z = rows := by cases h; rfl
     subst hz
     obtain ⟨_, rfl, rfl⟩ := z3c hq
     cases fr with
     | true =>
      have hx' : av3 σ.H (.arw l g e) = .c (.sl e (rw' r' z)) := by show avW σ.H l g e = _; simp [avW, hH, rw']
      rw [hx'] at hv; exact z7i hsz hv
     | false =>
      have hx' : av3 σ.H (.arw l g e) = .arr l (0 * r'.size) z.length z.length e := by show avW σ.H l g e = _; simp [avW, hH]
      rw [hx'] at hv
      have := z5F hr hH (off := 0) (len := z.length) (by omega) hv
      rw [List.drop_zero, List.take_length] at this; exact this
   ·cases h
  ·cases h
 ·rename_i l g e' off len
  simp only [Rdr.run, KS.lk, Sl.hd!] at h
  split at h
  ·rename_i g' fr e2 r' rows' hH
   split at h
   ·rename_i hc
    obtain ⟨rfl, rfl, rfl⟩ := hc
    simp only [Rdr.run] at h
    cases hin : inN rows' off len with
    | false => rw [hin] at h; cases h
    | true =>
     simp only [hin, cond] at h
     have hin' : off + len ≤ rows'.length := by simpa [inN] using hin
     cases hq : asD (.sl e r) (.d (.sl e r') (subN rows' off len)) with
     | none => rw [hq] at h; cases h
     | some z =>
      rw [hq] at h
      have hz : z = rows := by cases h; rfl
      subst hz
      obtain ⟨_, rfl, rfl⟩ := z3c hq
      cases fr with
      | true =>
       have hx' : av3 σ.H (.ars l g e off len) = .c (.sl e (rw' r' (subN rows' off len))) := by show avS σ.H l g e off len = _; simp [avS, hH, rw', hin', subN]
       rw [hx'] at hv; exact z7i hsz hv
      | false =>
       have hx' : av3 σ.H (.ars l g e off len) = .arr l (off * r'.size) len (rows'.length - off) e := by show avS σ.H l g e off len = _; simp [avS, hH]
       rw [hx'] at hv
       exact z5F hr hH hin' hv
   ·cases h
  ·cases h
 ·cases h
/-! ### The world draws -/
theorem RelE.drew (hr : RelE P B X w0 S0 pa E tm σ) : RelE P B X w0 S0 pa { E with w := E.w.drew } tm σ ∧ E.le { E with w := E.w.drew } := by
 have hle : E.le { E with w := E.w.drew } := ⟨fun _ _ _ _ h => h, fun _ _ h => h, fun _ h => ⟨h, rfl, rfl⟩, fun _ _ _ _ h => .inl h, fun _ _ h => h⟩
 have hw := hr.w3.step (w' := E.w.drew) hle ⟨hr.w3.fr.os, hr.w3.fr.tape, hr.w3.fr.output, hr.w3.fr.size, hr.w3.fr.block⟩ (Nat.le_refl _) (fun _ _ => rfl)
 exact ⟨hr.step hw (fun _ => Nat.le_refl _) (fun l i x y h1 h2 v hv => by rw [h1] at h2; cases h2; exact hv) (Tx.le hle) rfl hr.okC hr.hd hr.live, hle⟩
theorem zbh {E1 : Env} {r : RT} {all : List (DenR r)} {L Z : List Value} (hl : L.length = all.length * r.size) (hL : ∀ (j : Nat) (u : Value) (x : AV), L[j]? = some u → (zr r all)[j]? = some x → VR P E1 u x ∧ u.oneCell' = true) {cs : Array Value} (hcs : cs = (L ++ Z).toArray) :
  BlkR P E1 cs.size cs (zr r all) := by
 subst hcs
 refine ⟨rfl, by rw [Zo]; simp; omega, fun i v x hv hx => ?_⟩
 have hi : i < L.length := by rw [hl, ← Zo r all]; exact (List.getElem?_eq_some_iff.1 hx).1
 refine hL i v x ?_ hx
 simp only [List.getElem?_toArray] at hv
 rwa [List.getElem?_append_left hi] at hv
theorem zpy {E1 : Env} {r : RT} {a b : List (DenR r)} {L M : List Value} (hl : L.length = a.length * r.size) (hL : ∀ (j : Nat) (u : Value) (x : AV), L[j]? = some u → (zr r a)[j]? = some x → VR P E1 u x ∧ u.oneCell' = true)
  (hM : ∀ (j : Nat) (u : Value) (x : AV), M[j]? = some u → (zr r b)[j]? = some x → VR P E1 u x ∧ u.oneCell' = true) : ∀ (j : Nat) (u : Value) (x : AV), (L ++ M)[j]? = some u → (zr r (a ++ b))[j]? = some x → VR P E1 u x ∧ u.oneCell' = true := by
 intro j u x h1 h2
 rw [zqH] at h2
 rw [List.getElem?_append] at h1 h2
 rw [Zo, ← hl] at h2
 split at h1
 ·rename_i h; rw [if_pos h] at h2; exact hL j u x h1 h2
 ·rename_i h; rw [if_neg h] at h2; exact hM _ u x h1 h2
theorem zhV {n b : Nat} (h : (n + n / 4 + 192) * b ≤ 281474976710656) : n * b ≤ 281474976710656 := Nat.le_trans (Nat.mul_le_mul_right _ (by omega)) h
structure SrcR (P : Program) (w : World) (ty tz tt e : TypeId) (i : TypeInfo) (z : Value) (vb : Value) (n : Nat) (L : List Value) : Prop where
 nil : 0 < n → (n : Int) ≤ 9223372036854775807 → n * i.bytes ≤ 281474976710656 →
  (Builtin.append_ #[ty, tz] tt #[.slice none 0 0, vb]).run P w = .ok (.slice (some ⟨w.heap.size, 0, none⟩) n (grownCap w n 0 e)) (w.drew.alloc (.cells (L.toArray ++ Builtin.zeroCells z.cells (grownCap w n 0 e - n)) e))
 room : ∀ (e2 : TypeId) (g o sLen sCap : Nat) (cur : Array Value), w.heap[g]? = some (.cells cur e2 (0, 0)) → (∀ u ∈ L, u.oneCell' = true) → sLen + n ≤ sCap → o + sLen * i.size + L.length ≤ cur.size →
  (Builtin.append_ #[ty, tz] tt #[.slice (some ⟨g, o, none⟩) sLen sCap, vb]).run P w = .ok (.slice (some ⟨g, o, none⟩) (sLen + n) sCap) (w.setRow g (cur.toList.take (o + sLen * i.size) ++ L ++ cur.toList.drop (o + sLen * i.size + L.length)).toArray)
 grow : ∀ (b : Addr) (sLen sCap : Nat) (olds : List Value), olds.length = sLen * i.size → (∀ (j : Nat) (v : Value), olds[j]? = some v → w.cell? (b.add j) = some v) → sCap < sLen + n → ((sLen + n : Nat) : Int) ≤ 9223372036854775807 → Builtin.nextslicecap (sLen + n) sCap * i.bytes ≤ 281474976710656 →
  (Builtin.append_ #[ty, tz] tt #[.slice (some b) sLen sCap, vb]).run P w = .ok (.slice (some ⟨w.heap.size, 0, none⟩) (sLen + n) (grownCap w (sLen + n) sCap e)) (w.drew.alloc (.cells (olds.toArray ++ L.toArray ++ Builtin.zeroCells z.cells (grownCap w (sLen + n) sCap e - (sLen + n))) e))
def ztH (P : Program) (E : Env) (ty tz tt e : TypeId) (i : TypeInfo) (z : Value) (r : RT) (new : List (DenR r)) (vb : Value) : Prop :=
 (new = [] → ∀ (a : Option Addr) (n c : Nat), n ≤ c → (Builtin.append_ #[ty, tz] tt #[.slice a n c, vb]).run P E.w = .ok (.slice a n c) E.w) ∧
 (new ≠ [] → ∃ L : List Value, L.length = new.length * r.size ∧ (∀ (j : Nat) (u : Value) (x : AV), L[j]? = some u → (zr r new)[j]? = some x → VR P E u x ∧ u.oneCell' = true) ∧ SrcR P E.w ty tz tt e i z vb new.length L)
theorem ze0 (hT : TOK P T) (hr : RelE P B X w0 S0 pa E tm σ) {ty tz e : TypeId} {k : TK} {n b : Nat} {r : RT} (hu : P.underlying ty = some (.slice e)) (hd : T e = some ⟨k, n, b, some r⟩) {d : Nat} {x : RV} {new : List (DenR r)} (hok : ok3 σ.H x)
  {q : RV} {ws : Ws} (h : Rdr.run σ (appR d e r b x new) = some (q, ws)) {va vb : Value} (hva : VR P E va (av3 σ.H x)) {tt : TypeId}
  (hsrc : ∀ i z, P.info? e = some i → i.zero = some z → i.size = r.size → ztH P E ty tz tt e i z r new vb) :
  ∃ v' w', (Builtin.append_ #[ty, tz] tt #[va, vb]).run P E.w = .ok v' w' ∧ Yb P B X w0 S0 pa tm (σ.puts ws) q v' w' := by
 obtain ⟨hsz', hz⟩ := hT.rt _ _ _ hd rfl
 obtain ⟨hc1, hc2, hc3⟩ := hT.c _ _ hd
 have hsz : r.size = P.cellsOf e := by rw [hc1]; exact hsz'
 have hzl : (zc P e).map (·.length) = some (P.cellsOf e) := by rw [hz]; simp [vn, hsz]
 obtain ⟨i, z, hi, hiz, hzs, hz1⟩ := z8H hzl
 have hsize : i.size = r.size := by rw [hsz]; exact z1R hi
 have hbyt : i.bytes = b := by have : P.bytesOf e = i.bytes := by simp [Program.bytesOf, hi]
                               rw [← this]; exact hc2
 obtain ⟨zero, hnew⟩ := hsrc i z hi hiz hsize
 unfold appR at h
 split at h
 ·-- to nothing
  replace hva : VR P E va .nils := hva
  cases hva
  simp only [Rdr.run] at h
  cases hroom : zh b ([] : List (DenR r)) new with
  | false => rw [hroom] at h; cases h
  | true =>
   simp only [hroom, cond] at h
   simp only [zh, List.length_nil, Nat.zero_add, Bool.and_eq_true, decide_eq_true_eq] at hroom
   obtain ⟨l, g, hl, h1⟩ := vm h
   have h1' : some (RV.arw l (g + 1) e, [(Key.H l, Sl.hd (.flat (g + 1) false e r new))]) = some (q, ws) := h1
   cases h1'
   have hok' : ok3 (σ.puts [(Key.H l, Sl.hd (.flat (g + 1) false e r new))]).H (.arw l (g + 1) e) := by
    show g + 1 ≤ ((σ.put (.H l) (.hd (.flat (g + 1) false e r new))).H l).gen
    rw [y7]
    show g + 1 ≤ (updH σ.H l _ l).gen
    rw [zt]; exact Nat.le_refl _
   by_cases hn0 : new = []
   ·subst hn0
    obtain ⟨h2, h3⟩ := hr.newEmpty hl hsz
    refine ⟨_, _, zero rfl none 0 0 (Nat.le_refl _), E, rfl, h2, ?_, hok'⟩
    show VR P E _ (av3 (σ.put (.H l) _).H _)
    rw [y7]; exact h3 none
   ·obtain ⟨L, hL1, hL3, hS⟩ := hnew hn0
    have hlen0 : 0 < new.length := List.length_pos_iff.2 hn0
    have hmax : new.length ≤ maxLen := hroom.2
    have hrun := hS.nil hlen0 (by have : maxLen = 2 ^ 63 - 1 := rfl; omega) (by rw [hbyt]; exact zhV hroom.1)
    obtain ⟨hd1, hd2⟩ := hr.drew
    have hblk : BlkR P { E with w := E.w.drew } (L.toArray ++ Builtin.zeroCells z.cells (grownCap E.w new.length 0 e - new.length)).size (L.toArray ++ Builtin.zeroCells z.cells (grownCap E.w new.length 0 e - new.length)) (zr r new) :=
     zbh (Z := (Builtin.zeroCells z.cells (grownCap E.w new.length 0 e - new.length)).toList) hL1 (fun j u x h1 h2 => ⟨(hL3 j u x h1 h2).1.mono hd2, (hL3 j u x h1 h2).2⟩) (by simp)
    obtain ⟨h2, h3, h4⟩ := hd1.newFlat hl hsz (ty := e) hblk
    refine ⟨_, _, hrun, _, rfl, h2, ?_, hok'⟩
    show VR P _ _ (av3 (σ.put (.H l) _).H _)
    rw [y7]
    have hsz0 : (L.toArray ++ Builtin.zeroCells z.cells (grownCap E.w new.length 0 e - new.length)).size = grownCap E.w new.length 0 e * P.cellsOf e := by
     have := grownCap_ge E.w new.length 0 e
     rw [Array.size_append, yS, hzs]
     simp only [List.size_toArray, hL1, hsz]
     rw [← Nat.add_mul]; congr 1; omega
    exact h4 _ _ rfl (grownCap_ge _ _ _ _) (by rw [hsz0]; exact Nat.le_refl _) (grownCap_le_maxLen _ _ _ _ hmax)
 ·-- to an array of one's own
  rename_i l g e'
  simp only [Rdr.run, KS.lk, Sl.hd!] at h
  split at h
  ·rename_i g' e2 r' rows hH
   split at h
   ·rename_i hc
    obtain ⟨rfl, rfl, rfl⟩ := hc
    split at h
    ·rename_i hr' _
     subst hr'
     simp only [Rdr.run, VA] at h
     cases hroom : zh b rows new with
     | false => rw [hroom] at h; cases h
     | true =>
      simp only [hroom, cond] at h
      simp only [zh, Bool.and_eq_true, decide_eq_true_eq] at hroom
      have h1' : some (RV.arw l (g + 1) e, [(Key.H l, Sl.hd (.flat (g + 1) false e r' (cat rows new)))]) = some (q, ws) := h
      cases h1'
      have hHn : (σ.puts [(Key.H l, Sl.hd (.flat (g + 1) false e r' (cat rows new)))]).H = updH σ.H l (.flat (g + 1) false e r' (cat rows new)) := by
       show (σ.put (.H l) _).H = _
       rw [y7]
      have hok' : ok3 (σ.puts [(Key.H l, Sl.hd (.flat (g + 1) false e r' (cat rows new)))]).H (.arw l (g + 1) e) := by
       show g + 1 ≤ ((σ.puts [(Key.H l, Sl.hd (.flat (g + 1) false e r' (cat rows new)))]).H l).gen
       rw [hHn, zt]; exact Nat.le_refl _
      have hx' : av3 σ.H (.arw l g e) = .arr l 0 rows.length rows.length e := by show avW σ.H l g e = _; simp [avW, hH]
      have hq' : av3 (σ.puts [(Key.H l, Sl.hd (.flat (g + 1) false e r' (cat rows new)))]).H (.arw l (g + 1) e) = .arr l 0 (rows.length + new.length) (rows.length + new.length) e := by
       show avW (σ.puts [(Key.H l, Sl.hd (.flat (g + 1) false e r' (cat rows new)))]).H l (g + 1) e = _
       rw [hHn]; simp [avW, zt, cat]
      rw [hx'] at hva
      by_cases hn0 : new = []
      ·subst hn0
       have h2 := hr.rehead hH
       have hcat : cat rows ([] : List (DenR r')) = rows := by simp [cat]
       have hvs : ∃ a c, va = .slice a rows.length c ∧ rows.length ≤ c := by
        rcases vV hva with ⟨h1, _, a, rfl⟩ | ⟨c, hA, h1, h2, h3, h4, rfl⟩
        ·exact ⟨a, 0, by rw [h1], by omega⟩
        ·exact ⟨_, c, rfl, h2⟩
       obtain ⟨a, c, rfl, hac⟩ := hvs
       refine ⟨_, _, zero rfl a rows.length c hac, E, rfl, ?_, ?_, hok'⟩
       ·show RelE P B X w0 S0 pa E tm (σ.put (.H l) (.hd (.flat (g + 1) false e r' (cat rows []))))
        rw [hcat]; exact h2
       ·rw [hq']; exact hva
      ·obtain ⟨L, hL1, hL3, hS⟩ := hnew hn0
       have hlen0 : 0 < new.length := List.length_pos_iff.2 hn0
       have hmax : rows.length + new.length ≤ maxLen := hroom.2
       have h63 : ((rows.length + new.length : Nat) : Int) ≤ 9223372036854775807 := by have : maxLen = 2 ^ 63 - 1 := rfl; omega
       -- a new array
       have grow : ∀ (cap : Nat) (olds Z : List Value) (cs : Array Value), olds.length = rows.length * r'.size → (∀ (j : Nat) (u : Value) (x : AV), olds[j]? = some u → (zr r' rows)[j]? = some x → VR P E u x ∧ u.oneCell' = true) →
         cs = (olds ++ L ++ Z).toArray → rows.length + new.length ≤ cap → cap ≤ maxLen → cap * P.cellsOf e ≤ cs.size →
         Yb P B X w0 S0 pa tm (σ.puts [(Key.H l, Sl.hd (.flat (g + 1) false e r' (cat rows new)))]) (.arw l (g + 1) e) (.slice (some ⟨E.w.heap.size, 0, none⟩) (rows.length + new.length) cap) (E.w.drew.alloc (.cells cs e)) := by
        intro cap olds Z cs ho hoL hcs hcap hcm hfit
        obtain ⟨hd1, hd2⟩ := hr.drew
        have hk : ∀ {u : Value} {c : C}, VR P E u (.c c) → VR P (ZH { E with w := E.w.drew } l) u (.c c) := fun h => by
         have h' := h.mono hd2
         cases h' with | c _ _ h => exact .c _ _ h
        have hall : ∀ (j : Nat) (u : Value) (x : AV), (olds ++ L)[j]? = some u → (zr r' (rows ++ new))[j]? = some x → VR P (ZH { E with w := E.w.drew } l) u x ∧ u.oneCell' = true := by
         intro j u x h1 h2
         have h3 := zpy ho hoL hL3 j u x h1 h2
         rw [zr, List.getElem?_map, Option.map_eq_some_iff] at h2
         obtain ⟨c, _, rfl⟩ := h2
         exact ⟨hk h3.1, h3.2⟩
        have hblk := zbh (all := rows ++ new) (L := olds ++ L) (Z := Z) (by rw [List.length_append, List.length_append, ho, hL1, Nat.add_mul]) hall hcs
        obtain ⟨h2, h3, h4⟩ := hd1.grow hH (rows' := rows ++ new) (ty := e) hblk
        refine ⟨_, rfl, h2, ?_, hok'⟩
        show VR P _ _ (av3 (σ.puts [(Key.H l, Sl.hd (.flat (g + 1) false e r' (cat rows new)))]).H _)
        rw [hHn]
        exact h4 _ _ (by simp) hcap hfit hcm
       have hgz : ∀ c' : Nat, (Builtin.zeroCells z.cells (grownCap E.w (rows.length + new.length) c' e - (rows.length + new.length))).size = (grownCap E.w (rows.length + new.length) c' e - (rows.length + new.length)) * P.cellsOf e := fun c' => by rw [yS, hzs]
       have big : ∀ (c' : Nat) (ad : Addr) (olds : List Value), c' < rows.length + new.length → olds.length = rows.length * r'.size → (∀ (j : Nat) (u : Value), olds[j]? = some u → E.w.cell? (ad.add j) = some u) →
         (∀ (j : Nat) (u : Value) (x : AV), olds[j]? = some u → (zr r' rows)[j]? = some x → VR P E u x ∧ u.oneCell' = true) →
         ∃ v' w', (Builtin.append_ #[ty, tz] tt #[.slice (some ad) rows.length c', vb]).run P E.w = .ok v' w' ∧
          Yb P B X w0 S0 pa tm (σ.puts [(Key.H l, Sl.hd (.flat (g + 1) false e r' (cat rows new)))]) (.arw l (g + 1) e) v' w' := by
        intro c' ad olds hlt ho hoc hoL
        have hrun := hS.grow ad rows.length c' olds (by rw [ho, hsize]) hoc hlt h63 (growslice_fits_wide hlt (by rw [hbyt]; exact hroom.1))
        refine ⟨_, _, hrun, grow _ olds (Builtin.zeroCells z.cells (grownCap E.w (rows.length + new.length) c' e - (rows.length + new.length))).toList _ ho hoL (by simp) (grownCap_ge _ _ _ _) (grownCap_le_maxLen _ _ _ _ hmax) ?_⟩
        have := grownCap_ge E.w (rows.length + new.length) c' e
        rw [Array.size_append, Array.size_append, hgz]
        simp only [List.size_toArray, ho, hL1, hsz]
        rw [← Nat.add_mul, ← Nat.add_mul]
        exact Nat.mul_le_mul_right _ (by omega)
       rcases vV hva with ⟨hn1, _, a, rfl⟩ | ⟨c, hA, h1, h2, h3, h4, rfl⟩
       ·have hr0 : rows = [] := List.eq_nil_of_length_eq_zero hn1
        subst hr0
        ·cases a with
         | none =>
          have hrun := hS.nil hlen0 (by have : maxLen = 2 ^ 63 - 1 := rfl; simp at hmax; omega) (by rw [hbyt]; have := zhV hroom.1; simpa using this)
          refine ⟨_, _, hrun, ?_⟩
          have h9 := grow (grownCap E.w new.length 0 e) [] (Builtin.zeroCells z.cells (grownCap E.w new.length 0 e - new.length)).toList (L.toArray ++ Builtin.zeroCells z.cells (grownCap E.w new.length 0 e - new.length)) (by simp) (fun j u x h => by simp at h) (by simp)
           (by simpa using grownCap_ge E.w new.length 0 e) (grownCap_le_maxLen _ _ _ _ (by simpa using hmax)) (by
            have := grownCap_ge E.w new.length 0 e
            rw [Array.size_append, yS, hzs]
            simp only [List.size_toArray, hL1, hsz]
            rw [← Nat.add_mul]
            exact Nat.mul_le_mul_right _ (by omega))
          simpa using h9
         | some ad =>
          obtain ⟨v', w', h1, h2⟩ := big 0 ad [] (by simpa using hlen0) (by simp) (by simp) (by simp)
          exact ⟨v', w', by simpa using h1, h2⟩
       ··obtain ⟨cs, te, hh, hb, _⟩ := hr.w3.loc l hA
         have hml := Y4 hH
         have hb1 := hb.1
         have hb2 := hb.2.1
         have hzl : ((rw' r' rows).flatten.map AV.c).length = rows.length * r'.size := Zo r' rows
         rw [hml, hzl] at hb2
         have hcl : cs.toList.length = E.cp l := by rw [Array.length_toList]; exact hb1
         have hcr : rows.length * r'.size ≤ c * P.cellsOf e := by rw [hsz]; exact Nat.mul_le_mul_right _ h2
         by_cases hfit : rows.length + new.length ≤ c
         ·have hfc : (rows.length + new.length) * r'.size ≤ c * P.cellsOf e := by rw [hsz]; exact Nat.mul_le_mul_right _ hfit
          rw [Nat.add_mul] at hfc
          have hL1' : ∀ u ∈ L, u.oneCell' = true := by
           intro u hu'
           obtain ⟨j, hj⟩ := List.getElem?_of_mem hu'
           have hjl : j < (zr r' new).length := by rw [Zo, ← hL1]; exact (List.getElem?_eq_some_iff.1 hj).1
           exact (hL3 j u _ hj (List.getElem?_eq_getElem hjl)).2
          have hrun := hS.room te (E.β l) 0 rows.length c cs hh hL1' hfit (by rw [hsize, hL1, hb1]; omega)
          rw [Nat.zero_add, hsize] at hrun
          have hblk : BlkR P E (E.cp l) (cs.toList.take (rows.length * r'.size) ++ L ++ cs.toList.drop (rows.length * r'.size + L.length)).toArray (zr r' (rows ++ new)) := by
           refine ⟨by simp [hb1, hL1]; omega, by rw [Zo, List.length_append, Nat.add_mul]; omega, fun j u x h5 h6 => ?_⟩
           have hj : j < rows.length * r'.size + new.length * r'.size := by
            have := (List.getElem?_eq_some_iff.1 h6).1
            rw [Zo, List.length_append, Nat.add_mul] at this; exact this
           simp only [List.getElem?_toArray] at h5
           have htl : (cs.toList.take (rows.length * r'.size)).length = rows.length * r'.size := by rw [List.length_take, hcl]; omega
           rw [List.getElem?_append_left (by rw [List.length_append, htl, hL1]; exact hj)] at h5
           refine zpy htl (fun j u x h7 h8 => ?_) hL3 j u x h5 h6
           rw [List.getElem?_take] at h7
           split at h7
           ·refine hb.2.2 j u x (by simpa using h7) ?_
            rw [hml]; exact h8
           ·cases h7
          obtain ⟨h5, h6⟩ := hr.room hH hA hblk
          refine ⟨_, _, hrun, _, rfl, h5, ?_, hok'⟩
          rw [hq']
          exact .arr (E := { E with w := _ }) _ _ _ _ _ _ hA hfit hfit (by omega) h4
         ·refine big c ⟨E.β l, 0, none⟩ (cs.toList.take (rows.length * r'.size)) (by omega) (by rw [List.length_take, hcl]; omega) ?_ ?_
          ·intro j u hj
           rw [List.getElem?_take] at hj
           split at hj
           ·rw [Ye, cell_of_row _ _ _ _ _ _ hh]; simpa using hj
           ·cases hj
          ·intro j u x h7 h8
           rw [List.getElem?_take] at h7
           split at h7
           ·refine hb.2.2 j u x (by simpa using h7) ?_
            rw [hml]; exact h8
           ·cases h7
    ·cases h
   ·cases h
  ·cases h
 ·-- to a part that has room
  rename_i l g e' off len
  simp only [Rdr.run, KS.lk, Sl.hd!] at h
  split at h
  ·rename_i g' e2 r' rows hH
   split at h
   ·rename_i hc
    obtain ⟨rfl, rfl, rfl⟩ := hc
    split at h
    ·rename_i hr' _
     subst hr'
     simp only [Rdr.run, VA] at h
     cases hroom : inN rows (addN off len) (lenN new) with
     | false => rw [hroom] at h; cases h
     | true =>
      simp only [hroom, cond] at h
      replace hroom : off + len + new.length ≤ rows.length := of_decide_eq_true hroom
      have h1' : some (RV.ars l g e off (addN len (lenN new)), [(Key.H l, Sl.hd (.flat g false e r' (zK rows (addN off len) new)))]) = some (q, ws) := h
      cases h1'
      have hlo : (zK rows (addN off len) new).length = rows.length := zbf hroom
      have hHn : (σ.puts [(Key.H l, Sl.hd (.flat g false e r' (zK rows (addN off len) new)))]).H = updH σ.H l (.flat g false e r' (zK rows (addN off len) new)) := by
       show (σ.put (.H l) _).H = _
       rw [y7]
      have hok' : ok3 (σ.puts [(Key.H l, Sl.hd (.flat g false e r' (zK rows (addN off len) new)))]).H (.ars l g e off (addN len (lenN new))) := by
       show g ≤ ((σ.puts [(Key.H l, Sl.hd (.flat g false e r' (zK rows (addN off len) new)))]).H l).gen
       rw [hHn, zt]; exact Nat.le_refl _
      have hx' : av3 σ.H (.ars l g e off len) = .arr l (off * r'.size) len (rows.length - off) e := by show avS σ.H l g e off len = _; simp [avS, hH]
      have hq' : av3 (σ.puts [(Key.H l, Sl.hd (.flat g false e r' (zK rows (addN off len) new)))]).H (.ars l g e off (addN len (lenN new))) = .arr l (off * r'.size) (len + new.length) (rows.length - off) e := by
       show avS (σ.puts [(Key.H l, Sl.hd (.flat g false e r' (zK rows (addN off len) new)))]).H l g e off (addN len (lenN new)) = _
       rw [hHn]; simp only [addN] at hlo; simp [avS, zt, hlo, addN, lenN]
      rw [hx'] at hva
      by_cases hn0 : new = []
      ·subst hn0
       have hov : zK rows (addN off len) [] = rows := by simp [zK]
       have hvs : ∃ a c, va = .slice a len c ∧ len ≤ c := by
        rcases vV hva with ⟨h1, _, a, rfl⟩ | ⟨c, hA, h1, h2, h3, h4, rfl⟩
        ·exact ⟨a, 0, by rw [h1], by omega⟩
        ·exact ⟨_, c, rfl, h2⟩
       obtain ⟨a, c, rfl, hac⟩ := hvs
       refine ⟨_, _, zero rfl a len c hac, E, rfl, ?_, ?_, hok'⟩
       ·show RelE P B X w0 S0 pa E tm (σ.put (.H l) (.hd (.flat g false e r' (zK rows (addN off len) []))))
        rw [hov, z9D hH]; exact hr
       ·rw [hq']; exact hva
      ·obtain ⟨L, hL1, hL3, hS⟩ := hnew hn0
       have hlen0 : 0 < new.length := List.length_pos_iff.2 hn0
       rcases vV hva with ⟨hz1, hz2, a, rfl⟩ | ⟨c, hA, h1, h2, h3, h4, rfl⟩
       ·omega
       ·obtain ⟨cs, te, hh, hb, _⟩ := hr.w3.loc l hA
        have hml := Y4 hH
        have hb1 := hb.1
        have hb2 := hb.2.1
        have hzl : ((rw' r' rows).flatten.map AV.c).length = rows.length * r'.size := Zo r' rows
        rw [hml, hzl] at hb2
        have hcl : cs.toList.length = E.cp l := by rw [Array.length_toList]; exact hb1
        have hrr : (off + len + new.length) * r'.size ≤ rows.length * r'.size := Nat.mul_le_mul_right _ hroom
        rw [Nat.add_mul, Nat.add_mul] at hrr
        have hL1' : ∀ u ∈ L, u.oneCell' = true := by
         intro u hu'
         obtain ⟨j, hj⟩ := List.getElem?_of_mem hu'
         have hjl : j < (zr r' new).length := by rw [Zo, ← hL1]; exact (List.getElem?_eq_some_iff.1 hj).1
         exact (hL3 j u _ hj (List.getElem?_eq_getElem hjl)).2
        have hrun := hS.room te (E.β l) (off * r'.size) len c cs hh hL1' (by omega) (by rw [hsize, hL1, hb1]; omega)
        rw [hsize] at hrun
        have hblk : BlkR P E (E.cp l) (cs.toList.take (off * r'.size + len * r'.size) ++ L ++ cs.toList.drop (off * r'.size + len * r'.size + L.length)).toArray (zr r' (zK rows (addN off len) new)) := by
         refine ⟨by simp [hb1, hL1]; omega, by rw [Zo, hlo]; omega, fun j u x h5 h6 => ?_⟩
         rw [zhU, y6 _ _ _ _ (by rw [Zo, Zo]; simp only [addN, Nat.add_mul]; omega)] at h6
         rw [Zo] at h6
         simp only [addN, Nat.add_mul] at h6
         have h5' : (Z8 cs.toList (off * r'.size + len * r'.size) L)[j]? = some u := by simpa [Z8] using h5
         rw [y6 _ _ _ _ (by rw [hL1, hcl]; omega), hL1] at h5'
         split at h5'
         ·rename_i hq; rw [if_pos hq] at h6; exact hL3 _ u x h5' h6
         ·rename_i hq
          rw [if_neg hq] at h6
          refine hb.2.2 j u x (by simpa using h5') ?_
          rw [hml]; exact h6
        obtain ⟨h5, h6⟩ := hr.rows hH hA hlo hblk
        refine ⟨_, _, hrun, _, rfl, h5, ?_, hok'⟩
        rw [hq']
        exact .arr (E := { E with w := _ }) _ _ _ _ _ _ hA h1 (by omega) h3 h4
    ·cases h
   ·cases h
  ·cases h
 ·-- to a part that has no room
  rename_i l g e' off len cap
  simp only [Rdr.run, KS.lk, Sl.hd!] at h
  split at h
  ·rename_i g' e2 r' rows hH
   split at h
   ·rename_i hc
    obtain ⟨rfl, rfl, rfl⟩ := hc
    split at h
    ·rename_i hr' _
     subst hr'
     simp only [Rdr.run, VA] at h
     cases hroom : (inN rows off len && zh b (subN rows off len) new) with
     | false => rw [hroom] at h; cases h
     | true =>
      rw [hroom] at h
      cases hfit : fits len new cap with
      | true => simp only [hfit, cond, Rdr.run] at h; cases h
      | false =>
      simp only [hfit, cond] at h
      simp only [inN, zh, Bool.and_eq_true, decide_eq_true_eq] at hroom
      obtain ⟨hin, hr1, hr2⟩ := hroom
      simp only [fits, Bool.or_eq_false_iff, List.isEmpty_eq_false_iff, decide_eq_false_iff_not] at hfit
      obtain ⟨hn0, hfit⟩ := hfit
      have hsl : (subN rows off len).length = len := by simp [subN]; omega
      rw [hsl] at hr1 hr2
      obtain ⟨l', gg, hl', h1⟩ := vm h
      have h1' : some (RV.arw l' (gg + 1) e, [(Key.H l', Sl.hd (.flat (gg + 1) false e r' (cat (subN rows off len) new)))]) = some (q, ws) := h1
      cases h1'
      have hok' : ok3 (σ.puts [(Key.H l', Sl.hd (.flat (gg + 1) false e r' (cat (subN rows off len) new)))]).H (.arw l' (gg + 1) e) := by
       show gg + 1 ≤ ((σ.put (.H l') (.hd (.flat (gg + 1) false e r' (cat (subN rows off len) new)))).H l').gen
       rw [y7]
       show gg + 1 ≤ (updH σ.H l' _ l').gen
       rw [zt]; exact Nat.le_refl _
      have hx' : av3 σ.H (.arx l g e off len cap) = .arx l (off * r'.size) len cap e := by show avX σ.H l g e off len cap = _; simp [avX, hH]
      rw [hx'] at hva
      obtain ⟨hlies, a, rfl, ha⟩ := zu3 hr hH hin hva
      obtain ⟨L, hL1, hL3, hS⟩ := hnew hn0
      have hlen0 : 0 < new.length := List.length_pos_iff.2 hn0
      have hmax : len + new.length ≤ maxLen := hr2
      have h63 : ((len + new.length : Nat) : Int) ≤ 9223372036854775807 := by have : maxLen = 2 ^ 63 - 1 := rfl; omega
      obtain ⟨hd1, hd2⟩ := hr.drew
      have fin : ∀ (cap' : Nat) (olds Z : List Value) (cs : Array Value), olds.length = len * r'.size → (∀ (j : Nat) (u : Value) (x : AV), olds[j]? = some u → (zr r' (subN rows off len))[j]? = some x → VR P E u x ∧ u.oneCell' = true) →
        cs = (olds ++ L ++ Z).toArray → len + new.length ≤ cap' → cap' ≤ maxLen → cap' * P.cellsOf e ≤ cs.size →
        Yb P B X w0 S0 pa tm (σ.puts [(Key.H l', Sl.hd (.flat (gg + 1) false e r' (cat (subN rows off len) new)))]) (.arw l' (gg + 1) e) (.slice (some ⟨E.w.heap.size, 0, none⟩) (len + new.length) cap') (E.w.drew.alloc (.cells cs e)) := by
       intro cap' olds Z cs ho hoL hcs hcap hcm hft
       have hblk := zbh (E1 := { E with w := E.w.drew }) (all := subN rows off len ++ new) (L := olds ++ L) (Z := Z) (by rw [List.length_append, List.length_append, ho, hL1, Nat.add_mul, hsl])
        (fun j u x h1 h2 => by
         have h3 := zpy (a := subN rows off len) (by rw [ho, hsl]) hoL hL3 j u x h1 h2
         exact ⟨h3.1.mono hd2, h3.2⟩) hcs
       obtain ⟨h2, h3, h4⟩ := hd1.newFlat hl' hsz (ty := e) hblk
       refine ⟨_, rfl, h2, ?_, hok'⟩
       show VR P _ _ (av3 (σ.put (.H l') _).H _)
       rw [y7]
       exact h4 _ _ (by rw [List.length_append, hsl]) hcap hft hcm
      have hgz : ∀ c' : Nat, (Builtin.zeroCells z.cells (grownCap E.w (len + new.length) c' e - (len + new.length))).size = (grownCap E.w (len + new.length) c' e - (len + new.length)) * P.cellsOf e := fun c' => by rw [yS, hzs]
      have big : ∀ (ad : Addr) (olds : List Value), a = some ad → olds.length = len * r'.size → (∀ (j : Nat) (u : Value), olds[j]? = some u → E.w.cell? (ad.add j) = some u) →
        (∀ (j : Nat) (u : Value) (x : AV), olds[j]? = some u → (zr r' (subN rows off len))[j]? = some x → VR P E u x ∧ u.oneCell' = true) →
        ∃ v' w', (Builtin.append_ #[ty, tz] tt #[.slice a len cap, vb]).run P E.w = .ok v' w' ∧
         Yb P B X w0 S0 pa tm (σ.puts [(Key.H l', Sl.hd (.flat (gg + 1) false e r' (cat (subN rows off len) new)))]) (.arw l' (gg + 1) e) v' w' := by
       intro ad olds he ho hoc hoL
       subst he
       have hlt : cap < len + new.length := by omega
       have hrun := hS.grow ad len cap olds (by rw [ho, hsize]) hoc hlt h63 (growslice_fits_wide hlt (by rw [hbyt]; exact hr1))
       refine ⟨_, _, hrun, fin _ olds (Builtin.zeroCells z.cells (grownCap E.w (len + new.length) cap e - (len + new.length))).toList _ ho hoL (by simp) (grownCap_ge _ _ _ _) (grownCap_le_maxLen _ _ _ _ hmax) ?_⟩
       have := grownCap_ge E.w (len + new.length) cap e
       rw [Array.size_append, Array.size_append, hgz]
       simp only [List.size_toArray, ho, hL1, hsz]
       rw [← Nat.add_mul, ← Nat.add_mul]
       exact Nat.mul_le_mul_right _ (by omega)
      cases a with
      | none =>
       obtain ⟨rfl, rfl⟩ := ha rfl
       have hrun := hS.nil hlen0 (by have : maxLen = 2 ^ 63 - 1 := rfl; simp at hmax; omega) (by rw [hbyt]; have := zhV hr1; simpa using this)
       refine ⟨_, _, hrun, ?_⟩
       have h9 := fin (grownCap E.w new.length 0 e) [] (Builtin.zeroCells z.cells (grownCap E.w new.length 0 e - new.length)).toList (L.toArray ++ Builtin.zeroCells z.cells (grownCap E.w new.length 0 e - new.length)) (by simp) (fun j u x h => by simp at h) (by simp)
        (by simpa using grownCap_ge E.w new.length 0 e) (grownCap_le_maxLen _ _ _ _ (by simpa using hmax)) (by
         have := grownCap_ge E.w new.length 0 e
         rw [Array.size_append, yS, hzs]
         simp only [List.size_toArray, hL1, hsz]
         rw [← Nat.add_mul]
         exact Nat.mul_le_mul_right _ (by omega))
       simpa using h9
      | some ad =>
       by_cases hl0 : len = 0
       ·subst hl0
        exact big ad [] rfl (by simp) (by simp) (by simp)
       ·obtain ⟨a2, c2, he, _, hL⟩ := hlies
        have he1 : some ad = a2 := (Value.slice.inj he).1
        subst he1
        obtain ⟨b3, o3, he, L3, k1, k2, k3⟩ := hL (by
         intro h0
         have : ((rows.drop off).take len).length = 0 := by rw [h0]; rfl
         simp at this; omega)
        cases he
        exact big ⟨b3, o3, none⟩ L3 rfl (by rw [k1]; exact congrArg (· * r'.size) hsl) (fun j u hj => by rw [Ye]; exact k2 j u hj) k3
    ·cases h
   ·cases h
  ·cases h
 ·cases h
theorem zl4 (hT : TOK P T) (hr : RelE P B X w0 S0 pa E tm σ) {ty e : TypeId} {k : TK} {n b : Nat} {r : RT} (hu : P.underlying ty = some (.slice e)) (hd : T e = some ⟨k, n, b, some r⟩) {d : Nat} {x y : RV} {new : List (DenR r)} (hok : ok3 σ.H x)
  (hy : Rdr.run σ (z4W e r y) = some new) {q : RV} {ws : Ws} (h : Rdr.run σ (appR d e r b x new) = some (q, ws)) {va vb : Value} (hva : VR P E va (av3 σ.H x)) (hvb : VR P E vb (av3 σ.H y)) {tt : TypeId} :
  ∃ v' w', (Builtin.append_ #[ty, ty] tt #[va, vb]).run P E.w = .ok v' w' ∧ Yb P B X w0 S0 pa tm (σ.puts ws) q v' w' := by
 refine ze0 (tz := ty) hT hr hu hd hok h hva fun i z hi hiz hsize => ?_
 have hsz : r.size = P.cellsOf e := by rw [← hsize]; exact z1R hi
 obtain ⟨ab, cb, rfl, hcb, hnew⟩ := z9E hr hsz hy hvb
 refine ⟨fun h0 a n c hn => ?_, fun h0 => ?_⟩
 ·subst h0; exact zfX hu (by rw [hi]; rfl) a ab n c cb hn
 ·obtain ⟨bb, off, rfl, L, hL1, hL2, hL3⟩ := hnew h0
  have hLc : ∀ (j : Nat) (u : Value), L[j]? = some u → E.w.cell? ((⟨bb, off, none⟩ : Addr).add j) = some u := fun j u hj => by rw [Ye]; exact hL2 j u hj
  refine ⟨L, hL1, hL3, ⟨fun h1 h2 h3 => ?_, fun e2 g o sLen sCap cur h1 h2 h3 h4 => ?_, fun b' sLen sCap olds h1 h2 h3 h4 h5 => ?_⟩⟩
  ·exact run_append_nil (P := P) E.w ty tt e i z hu hi hiz ⟨bb, off, none⟩ new.length cb L (by rw [hL1, hsize]) hLc h1 h2 h3
  ·exact zf4 (P := P) E.w ty tt e e2 i hu hi g o sLen sCap cur h1 ⟨bb, off, none⟩ new.length cb L (by rw [hL1, hsize]) hLc h2 h3 h4
  ·exact run_append_grow (P := P) E.w ty tt e i z hu hi hiz b' sLen sCap olds h1 h2 ⟨bb, off, none⟩ new.length cb L (by rw [hL1, hsize]) hLc h3 h4 h5
end
end Go.Kx
namespace Go.Kx
open Go.Rb
theorem zl5 {α : Type} (z a b : List α) (o : Nat) (h : o + a.length + b.length ≤ z.length) : Z8 (Z8 z o a) (o + a.length) b = Z8 z o (a ++ b) := by
 apply List.ext_getElem?
 intro q
 have e0 : (Z8 z o a).length = z.length := VD (by omega)
 have e1 := y6 (Z8 z o a) b (o + a.length) q (by rw [e0]; omega)
 have e2 := y6 z (a ++ b) o q (by rw [List.length_append]; omega)
 have e3 := y6 z a o q (by omega)
 rw [e1, e2, e3, List.length_append]
 by_cases h1 : o + a.length ≤ q ∧ q < o + a.length + b.length
 ·rw [if_pos h1, if_pos (by omega), List.getElem?_append_right (by omega)]; congr 1; omega
 ·rw [if_neg h1]
  by_cases h2 : o ≤ q ∧ q < o + a.length
  ·rw [if_pos h2, if_pos (by omega), List.getElem?_append_left (by omega)]
  ·rw [if_neg h2, if_neg (by omega)]
theorem zl6 (r : RT) (n : Nat) (y : DenR r) (q : Nat) (h : q < n * r.size) : (zr r (List.replicate n y))[q]? = ((encR r y).map .c)[q % r.size]? := by
 have hs := YL r
 have h1 : q / r.size < n := (Nat.div_lt_iff_lt_mul hs).2 h
 have h2 : q % r.size < (encR r y).length := by rw [ZW]; exact Nat.mod_lt _ hs
 have h3 : (List.replicate n y)[q / r.size]? = some y := by simp [h1]
 have h4 := zbe h3 (List.getElem?_eq_getElem h2)
 have h5 : q / r.size * r.size + q % r.size = q := by rw [Nat.mul_comm]; exact Nat.div_add_mod q r.size
 rw [h5] at h4
 rw [zr, List.getElem?_map, h4, List.getElem?_map, List.getElem?_eq_getElem h2]
section
variable {P : Program} {T : TT} {B : Nat} {X : Nat → Prop} {w0 : World} {S0 : Nat → Nat → Prop} {pa : List ((Nat → Value) × (Nat → RV))} {E : Env} {σ σ1 : KS} {tm : Nat → Value}
theorem ze1 {E0 : Env} {r : RT} : ∀ {ps : List (Nat × RV)} {vs : List (Nat × Value)} {j : Nat} {rows : List (DenR r)} {ws : Ws} {E : Env} {σ1 : KS}, FrzTo P B X w0 S0 pa tm E0 σ σ E σ1 → Rdr.run σ (zbc r ps j) = some (rows, ws) → ps.length = vs.length →
  (∀ (i : Nat) (p : Nat × RV) (q : Nat × Value), ps[i]? = some p → vs[i]? = some q → p.1 = q.1 ∧ VR P E0 q.2 (av3 σ.H p.2) ∧ ok3 σ.H p.2) →
  ∃ E', FrzTo P B X w0 S0 pa tm E0 σ σ E' (σ1.puts ws) ∧ rows.length = vs.length ∧ (∀ (i : Nat) (q : Nat × Value) (y : DenR r), vs[i]? = some q → rows[i]? = some y → q.1 = j + i ∧ CellsR P E' q.2.cells ((encR r y).map .c)) ∧ ∀ v c, VR P E v (.c c) → VR P E' v (.c c)
 | [], vs, j, rows, ws, E, σ1, ft, h, hl, _ => by
  cases h
  exact ⟨E, ft, by rw [← hl]; rfl, (fun i q y _ hy => by simp at hy), fun _ _ h => h⟩
 | (i0, x) :: ps, [], j, rows, ws, E, σ1, ft, h, hl, _ => by simp at hl
 | (i0, x) :: ps, (i1, v) :: vs, j, rows, ws, E, σ1, ft, h, hl, hp => by
  simp only [zbc] at h
  split at h
  ·rename_i hij
   simp only [Rdr.run_bind, Option.bind_eq_some_iff, Rdr.run, Option.some.injEq] at h
   obtain ⟨cs, h1, ⟨ys, w1⟩, h2, y, h3, ⟨rows', w2⟩, h4, h5⟩ := h
   cases h5
   obtain ⟨p1, p2, p3⟩ := hp 0 _ _ rfl rfl
   simp only at p1 p2 p3
   obtain ⟨c1, c2, c3⟩ := z4X h1
   have hok := c3 p3
   have hc0 := p2.cells c1
   have hc : CellsR P E v.cells (cs.map (av1 σ1.H)) := by
    refine ⟨by rw [hc0.1, List.length_map, List.length_map], fun k u z hu hz => ?_⟩
    rw [List.getElem?_map, Option.map_eq_some_iff] at hz
    obtain ⟨c, hcc, rfl⟩ := hz
    have h9 := hc0.2 k u _ hu (by rw [List.getElem?_map, hcc]; rfl)
    exact ⟨ft.tx.v1 u c (hok c (List.mem_of_getElem? hcc)) h9.1, h9.2⟩
   obtain ⟨E1, f1, f2, f3, f4⟩ := zfZ ft.rel ft.of h2 (fun c hc => ft.tx.ok1 _ (hok c hc)) hc
   have hy : asR r ys = some y := by
    cases hq : asR r ys with
    | none => rw [hq] at h3; cases h3
    | some z => rw [hq] at h3; cases h3; rfl
   have f5 := zqI hy f4
   obtain ⟨E2, g1, g2, g3, hdat2⟩ := ze1 (ps := ps) (vs := vs) (ft.trans f1) h4 (by simpa using hl) (fun i p q hp' hq => hp (i + 1) p q (by simpa using hp') (by simpa using hq))
   rw [Yf]
   refine ⟨E2, g1, by simp [g2], fun i q y' hq hy' => ?_, fun v c hv => hdat2 v c (f1.dat v c hv)⟩
   cases i with
   | zero =>
    simp at hq hy'
    subst hq hy'
    refine ⟨by simp only; omega, f5.1, fun k u z hu hz => ?_⟩
    have h9 := f5.2 k u z hu hz
    rw [List.getElem?_map, Option.map_eq_some_iff] at hz
    obtain ⟨c, hcc, rfl⟩ := hz
    refine ⟨?_, h9.2⟩
    exact hdat2 _ _ h9.1
   | succ i =>
    obtain ⟨k1, k2⟩ := g3 i q y' (by simpa using hq) (by simpa using hy')
    exact ⟨by omega, k2⟩
  ·cases h
theorem ziH {sz : Nat} {r : RT} (hr : r.size = sz) : ∀ {vs : List (Nat × Value)} {rows : List (DenR r)} {j : Nat} {Z : Array Value} {z : List AV}, CellsR P E Z z → rows.length = vs.length → (j + rows.length) * sz ≤ z.length →
  (∀ (i : Nat) (q : Nat × Value) (y : DenR r), vs[i]? = some q → rows[i]? = some y → q.1 = j + i ∧ CellsR P E q.2.cells ((encR r y).map .c)) →
  ∃ cs, Instr.fill (fun i => some (i * sz, sz)) Z vs = some cs ∧ CellsR P E cs (Z8 z (j * sz) (zr r rows))
 | [], [], j, Z, z, hc, _, _, _ => ⟨Z, rfl, by simpa [Z8, zr, rw'] using hc⟩
 | [], _ :: _, _, _, _, _, h, _, _ => by simp at h
 | _ :: _, [], _, _, _, _, h, _, _ => by simp at h
 | (i0, v) :: vs, y :: rows, j, Z, z, hc, hl, hz, hp => by
  obtain ⟨h1, h2⟩ := hp 0 _ _ rfl rfl
  simp only [Nat.add_zero] at h1 h2
  subst h1
  have hvs : v.cells.size = sz := by rw [h2.1, List.length_map, ZW, hr]
  simp only [List.length_cons] at hz hl
  have hj : i0 * sz + sz ≤ z.length := by
   have : (i0 + 1) * sz ≤ (i0 + (rows.length + 1)) * sz := Nat.mul_le_mul_right _ (by omega)
   rw [Nat.add_mul, Nat.one_mul] at this; omega
  rw [zix _ Z i0 v vs (off := i0 * sz) (size := sz) rfl hvs (by rw [hvs, hc.1]; exact hj)]
  have hrel := zb9 (off := i0 * sz) hc h2 (by rw [List.length_map, ZW, hr]; exact hj)
  have hlen : (Z8 z (i0 * sz) ((encR r y).map AV.c)).length = z.length := VD (by rw [List.length_map, ZW, hr]; exact hj)
  obtain ⟨cs, h3, h4⟩ := ziH hr (vs := vs) (rows := rows) (j := i0 + 1) hrel (by omega) (by rw [zoz, hlen]; rw [show i0 + 1 + rows.length = i0 + (rows.length + 1) from by omega]; exact hz)
   (fun i q y' hq hy => by obtain ⟨k1, k2⟩ := hp (i + 1) q y' (by simpa using hq) (by simpa using hy); exact ⟨by omega, k2⟩)
  refine ⟨cs, h3, ?_⟩
  have e1 : (i0 + 1) * sz = i0 * sz + ((encR r y).map AV.c).length := by rw [List.length_map, ZW, hr, Nat.add_mul]; omega
  have e2 : zr r (y :: rows) = (encR r y).map .c ++ zr r rows := by simp [zr, rw']
  rw [zoz, e1, zl5 _ _ _ _ (by rw [List.length_map, ZW, hr, Zo, hr]; rw [Nat.add_mul, Nat.add_mul] at hz; omega), ← e2] at h4
  exact h4
theorem zsl (hT : TOK P T) (hr : RelE P B X w0 S0 pa E tm σ) {a : Act} (ha : tm = fun i => a.tmps.getD i undef) {o : Oper} {t e : TypeId} {n c b c' b' : Nat} {k : TK} {r : RT} {rt : Option RT} {ps : Array (Nat × Operand)} (ho : o.op = .buildSlice t n ps) (hd : T t = some ⟨.sl e, c', b', rt⟩) (he : T e = some ⟨k, c, b, some r⟩)
  (hn : ps.size = n) (hlim : n * c ≤ 16777216) {rows : List (DenR r)} {ws w : Ws} (h1 : Rdr.run σ (zbc r (ps.toList.map fun p => (p.1, evS σ p.2)) 0) = some (rows, ws)) {d : Nat} {q : RV} (h2 : Rdr.run σ (newF d e r rows) = some (q, w)) :
  Does P a o E.w (Yb P B X w0 S0 pa tm (σ.puts (ws ++ w)) q) := by
 obtain ⟨hu, hi⟩ := hT.sl t _ e hd rfl
 obtain ⟨hsz', hz⟩ := hT.rt _ _ _ he rfl
 obtain ⟨hc1, hc2, hc3⟩ := hT.c _ _ he
 have hsz : r.size = P.cellsOf e := by rw [hc1]; exact hsz'
 have hzl : (zc P e).map (·.length) = some (P.cellsOf e) := by rw [hz]; simp [vn, hsz]
 obtain ⟨i, z, hi', hiz, hzs, hz1⟩ := z8H hzl
 have hsz0 : P.cellsOf e ≠ 0 := by rw [← hsz]; have := YL r; omega
 have hss : ∀ w, (sizeOf e).run P w = .ok (P.cellsOf e) w := yQ (by rw [hi']; rfl)
 obtain ⟨E1, f1, f2, f3, _⟩ := ze1 (vs := ps.toList.map fun p => (p.1, a.eval p.2)) (.refl hr (.refl σ)) h1 (by simp) (fun i p q hp hq => by
  rw [List.getElem?_map, Option.map_eq_some_iff] at hp hq
  obtain ⟨u, hu', rfl⟩ := hp
  obtain ⟨u', hu2, rfl⟩ := hq
  rw [hu'] at hu2; cases hu2
  exact ⟨rfl, (hr.ev ha _).1, (hr.ev ha _).2⟩)
 have hrl : rows.length = n := by rw [f2]; simpa using hn
 generalize hZ : (Array.range (n * P.cellsOf e)).map (z.cells[· % z.cells.size]!) = Z
 have hZs : Z.size = n * P.cellsOf e := by rw [← hZ]; simp
 have hZ1 : ∀ v ∈ Z, v.oneCell' = true := by
  rw [← hZ]
  intro v hv
  simp only [Array.mem_map, Array.mem_range] at hv
  obtain ⟨q, _, rfl⟩ := hv
  have : q % z.cells.size < z.cells.size := Nat.mod_lt _ (by omega)
  rw [getElem!_pos z.cells _ this]
  exact hz1 _ (Array.getElem_mem this)
 have hcr : CellsR P E1 Z (List.replicate (n * P.cellsOf e) .any) :=
  ⟨by simp [hZs], fun i v x hv hx => by
   rw [List.getElem?_replicate] at hx
   split at hx
   ·cases hx; exact ⟨.any _, hZ1 v (Array.mem_of_getElem? hv)⟩
   ·cases hx⟩
 obtain ⟨cs, hfill, hcs⟩ := ziH hsz hcr f2 (by rw [hrl]; simp) f3
 have hfull : Z8 (List.replicate (n * P.cellsOf e) AV.any) (0 * P.cellsOf e) (zr r rows) = zr r rows := by
  have : (zr r rows).length = n * P.cellsOf e := by rw [Zo, hrl, hsz]
  simp [Z8, this]
 rw [hfull] at hcs
 have hcsz : cs.size = n * P.cellsOf e := by rw [hcs.1, Zo, hrl, hsz]
 obtain ⟨l, g, hl, h3⟩ := vm h2
 have h3' : some (RV.arw l (g + 1) e, [(Key.H l, Sl.hd (.flat (g + 1) false e r rows))]) = some (q, w) := h3
 cases h3'
 have hl1 := f1.of.no hl
 obtain ⟨k1, k2, k3⟩ := f1.rel.newFlat hl1 hsz (rows := rows) (ty := e) (cs := cs) ⟨rfl, by rw [← hcs.1]; exact Nat.le_refl _, hcs.2⟩
 have hHn : (σ.puts (ws ++ [(Key.H l, Sl.hd (.flat (g + 1) false e r rows))])).H = updH (σ.puts ws).H l (.flat (g + 1) false e r rows) := by
  rw [Yf]
  show ((σ.puts ws).put (.H l) _).H = _
  rw [y7]
 have hrun : (Instr.buildSlice t n (ps.map fun p => (p.1, a.eval p.2))).run P E.w = .ok (.slice (some ⟨E.w.heap.size, 0, none⟩) n n) (E.w.alloc (.cells cs e)) := by
  have hlim' : ¬ (n * P.cellsOf e > 2 ^ 24) := by rw [hc1]; exact Nat.not_lt.2 hlim
  have hfill' : Instr.fill (fun i => some (i * P.cellsOf e, P.cellsOf e)) Z (ps.map fun p => (p.1, a.eval p.2)).toList = some cs := by simpa using hfill
  by_cases h0 : n * P.cellsOf e = 0
  ·have hZ0 : (Array.range (n * P.cellsOf e)).map ((#[] : Array Value)[· % (#[] : Array Value).size]!) = Z := by rw [← hZ, h0]; simp
   simp only [Instr.buildSlice, Sem.run_bind, run_underlying hu, Result.andThen_ok, hss, hlim', if_false, if_pos h0, hZ0, hfill', newRow, newObj, Sem.run_pure]
   rfl
  ·have hzero : (zeroValue e).run P E.w = .ok z E.w := by simp [zeroValue, typeInfo, hi', hiz]
   simp only [Instr.buildSlice, Sem.run_bind, run_underlying hu, Result.andThen_ok, hss, hlim', if_false, if_neg h0, hzero, hZ, hfill', newRow, newObj, Sem.run_pure]
   rfl
 refine .inl ⟨.slice (some ⟨E.w.heap.size, 0, none⟩) n n, E.w.alloc (.cells cs e), ?_, Zn E1 (E1.w.alloc (.cells cs e)) l cs.size, by show E1.w.alloc _ = _; rw [f1.w], ?_, ?_, ?_⟩
 ·obtain ⟨dst, op, ty, pos, after, guard⟩ := o
  simp only at ho
  subst ho
  simp only [execOp, Sem.run_bind]
  have : (ps.map fun (p : Nat × Operand) => (p.1, a.eval p.2)) = (ps.map fun (i, x) => (i, a.eval x)) := rfl
  rw [← this, hrun, Result.andThen_ok, Sem.run_pure]
 ·rw [Yf]; exact k1
 ·rw [hHn]
  have hm : n ≤ maxLen := by
   have h8 : c ≠ 0 := fun h0 => hsz0 (by rw [hc1]; exact h0)
   have : n * 1 ≤ n * c := Nat.mul_le_mul_left _ (by omega)
   have h9 : maxLen = 2 ^ 63 - 1 := rfl
   omega
  have := k3 n n hrl (Nat.le_refl _) (by rw [hcsz]; exact Nat.le_refl _) hm
  rw [f1.w] at this ⊢
  exact this
 ·show g + 1 ≤ ((σ.puts (ws ++ [(Key.H l, Sl.hd (.flat (g + 1) false e r rows))])).H l).gen
  rw [hHn, zt]; exact Nat.le_refl _
theorem zsm (hT : TOK P T) (hr : RelE P B X w0 S0 pa E tm σ) {a : Act} {o : Oper} {t e : TypeId} {c b c' b' : Nat} {k : TK} {r : RT} {rt : Option RT} {ln cp : Operand} (ho : o.op = .makeSlice t ln cp) (hd : T t = some ⟨.sl e, c', b', rt⟩) (he : T e = some ⟨k, c, b, some r⟩)
  {n : Int} (hln : a.eval ln = .int .i64 n) (hcp : a.eval cp = .int .i64 n) (hroom : z3B b n = true) {d : Nat} {q : RV} {w : Ws} (h2 : Rdr.run σ (newF d e r (repI n (yZ r))) = some (q, w)) : Does P a o E.w (Yb P B X w0 S0 pa tm (σ.puts w) q) := by
 obtain ⟨hu, hi⟩ := hT.sl t _ e hd rfl
 obtain ⟨hsz', hz⟩ := hT.rt _ _ _ he rfl
 obtain ⟨hc1, hc2, hc3⟩ := hT.c _ _ he
 have hsz : r.size = P.cellsOf e := by rw [hc1]; exact hsz'
 have hzl : (zc P e).map (·.length) = some (P.cellsOf e) := by rw [hz]; simp [vn, hsz]
 obtain ⟨i, z, hi', hiz, hzs, hz1⟩ := z8H hzl
 have hbe : P.bytesOf e = b := hc2
 simp only [z3B, Bool.and_eq_true, decide_eq_true_eq] at hroom
 obtain ⟨h0, h1, h63⟩ := hroom
 obtain ⟨Z, hZ1, hZ2, hrun⟩ := zhT (P := P) (w := E.w) (k := .i64) (k' := .i64) hu hi' hiz h0 (by rw [hbe]; exact h1) h63
 obtain ⟨zv, hzr, hzc⟩ := VM E hz
 have hzv : zv = z := by
  have : (zeroValue e).run P E.w = .ok z E.w := by simp [zeroValue, typeInfo, hi', hiz]
  rw [this] at hzr; cases hzr; rfl
 subst hzv
 have hsp := YL r
 have hblk : BlkR P E Z.size Z (zr r (repI n (yZ r))) := by
  refine ⟨rfl, by rw [Zo, hZ1, hsz]; simp [repI], fun q v x hv hx => ?_⟩
  have hq : q < n.toNat * r.size := by have := (List.getElem?_eq_some_iff.1 hx).1; rw [Zo] at this; simpa [repI] using this
  have h5 := hZ2 q (by rw [← hsz]; exact hq)
  rw [hv] at h5
  cases h5
  rw [repI, zl6 r _ _ q hq, List.getElem?_map, Option.map_eq_some_iff] at hx
  obtain ⟨cc, hcc, rfl⟩ := hx
  have hm : q % zv.cells.size = q % r.size := by rw [hzs, hsz]
  have hlt : q % r.size < zv.cells.size := by rw [hzs, ← hsz]; exact Nat.mod_lt _ hsp
  rw [hm, getElem!_pos zv.cells _ hlt]
  have hlz : q % r.size < (Y0 r).length := by rw [vn]; exact Nat.mod_lt _ hsp
  have h6 := hzc.2 (q % r.size) _ _ (Array.getElem?_eq_getElem hlt) (by rw [List.getElem?_map, List.getElem?_eq_getElem hlz]; rfl)
  exact ⟨zf3 (H := noH) r _ _ cc (List.getElem?_eq_getElem hlz) hcc _ h6.1, h6.2⟩
 obtain ⟨l, g, hl, h3⟩ := vm h2
 have h3' : some (RV.arw l (g + 1) e, [(Key.H l, Sl.hd (.flat (g + 1) false e r (repI n (yZ r))))]) = some (q, w) := h3
 cases h3'
 obtain ⟨k1, k2, k3⟩ := hr.newFlat hl hsz (ty := e) hblk
 have hHn : (σ.puts [(Key.H l, Sl.hd (.flat (g + 1) false e r (repI n (yZ r))))]).H = updH σ.H l (.flat (g + 1) false e r (repI n (yZ r))) := by
  show (σ.put (.H l) _).H = _
  rw [y7]
 refine .inl ⟨.slice (some ⟨E.w.heap.size, 0, none⟩) n.toNat n.toNat, _, ?_, _, rfl, k1, ?_, ?_⟩
 ·obtain ⟨dst, op, ty, pos, after, guard⟩ := o
  simp only at ho
  subst ho
  simp only [execOp, hln, hcp, Sem.run_bind, hrun, Result.andThen_ok, Sem.run_pure]; rfl
 ·rw [hHn]
  exact k3 n.toNat n.toNat (by simp [repI]) (Nat.le_refl _) (by rw [hZ1]; exact Nat.le_refl _) (by have h9 : maxLen = 2 ^ 63 - 1 := rfl; omega)
 ·show g + 1 ≤ ((σ.puts [(Key.H l, Sl.hd (.flat (g + 1) false e r (repI n (yZ r))))]).H l).gen
  rw [hHn, zt]; exact Nat.le_refl _
theorem znG (hT : TOK P T) (hr : RelE P B X w0 S0 pa E tm σ) {ty e : TypeId} {k : TK} {n b : Nat} {r : RT} (hu : P.underlying ty = some (.slice e)) (hd : T e = some ⟨k, n, b, some r⟩) {x : RV} {ws : Ws} (h : Rdr.run σ (zkU e r x) = some ws) {va : Value} (hva : VR P E va (av3 σ.H x)) {tt : TypeId} :
  ∃ v' w', (Builtin.clear_ #[ty] tt #[va]).run P E.w = .ok v' w' ∧ ∃ E', E'.w = w' ∧ RelE P B X w0 S0 pa E' tm (σ.puts ws) := by
 obtain ⟨hsz', hz⟩ := hT.rt _ _ _ hd rfl
 obtain ⟨hc1, hc2, hc3⟩ := hT.c _ _ hd
 have hsz : r.size = P.cellsOf e := by rw [hc1]; exact hsz'
 obtain ⟨zv, hzr, hzc⟩ := VM E hz
 have hsp := YL r
 unfold zkU at h
 split at h
 ·rename_i l g e' off len
  simp only [Rdr.run, KS.lk, Sl.hd!] at h
  split at h
  ·rename_i g' e2 r' rows hH
   split at h
   ·rename_i hc
    obtain ⟨rfl, rfl, rfl⟩ := hc
    split at h
    ·rename_i hr' _
     subst hr'
     simp only [Rdr.run, VA] at h
     cases hin : inN rows off len with
     | false => rw [hin] at h; cases h
     | true =>
      simp only [hin, cond] at h
      have hin' : off + len ≤ rows.length := of_decide_eq_true hin
      have h1' : some [(Key.H l, Sl.hd (.flat g false e r' (zK rows off (repN len (yZ r')))))] = some ws := h
      cases h1'
      have hx' : av3 σ.H (.ars l g e off len) = .arr l (off * r'.size) len (rows.length - off) e := by show avS σ.H l g e off len = _; simp [avS, hH]
      rw [hx'] at hva
      have hlo : (zK rows off (repN len (yZ r'))).length = rows.length := zbf (by simp [repN]; exact hin')
      by_cases hl0 : len = 0
      ·subst hl0
       have hov : zK rows off (repN 0 (yZ r')) = rows := by simp [zK, repN]
       have hvs : ∃ a c, va = .slice a 0 c := by
        rcases vV hva with ⟨h1, _, a, rfl⟩ | ⟨c, hA, h1, h2, h3, h4, rfl⟩
        ·exact ⟨a, 0, rfl⟩
        ·exact ⟨_, c, rfl⟩
       obtain ⟨a, c, rfl⟩ := hvs
       refine ⟨.tuple #[], E.w, ?_, E, rfl, ?_⟩
       ·cases a <;> simp [Builtin.clear_, run_underlying hu]
       ·show RelE P B X w0 S0 pa E tm (σ.put (.H l) (.hd (.flat g false e r' (zK rows off (repN 0 (yZ r'))))))
        rw [hov, z9D hH]; exact hr
      ·rcases vV hva with ⟨h1, _, a, rfl⟩ | ⟨c, hA, h1, h2, h3, h4, rfl⟩
       ·exact absurd h1 hl0
       ·obtain ⟨cs, te, hh, hb, _⟩ := hr.w3.loc l hA
        have hml := Y4 hH
        have hb1 := hb.1
        have hb2 := hb.2.1
        have hzl : ((rw' r' rows).flatten.map AV.c).length = rows.length * r'.size := Zo r' rows
        rw [hml, hzl] at hb2
        have hzs : zv.cells.size = r'.size := by rw [hzc.1, List.length_map, vn]
        have hrr : (off + len) * r'.size ≤ rows.length * r'.size := Nat.mul_le_mul_right _ hin'
        rw [Nat.add_mul] at hrr
        have hcl : cs.toList.length = E.cp l := by rw [Array.length_toList]; exact hb1
        have hZs : (Builtin.zeroCells zv.cells len).size = len * r'.size := by rw [yS, hzs]
        have hZ : ∀ (q : Nat) (u : Value) (y : AV), (Builtin.zeroCells zv.cells len)[q]? = some u → (zr r' (repN len (yZ r')))[q]? = some y → VR P E u y ∧ u.oneCell' = true := by
         intro q u y h5 h6
         have hq : q < len * r'.size := by rw [← hZs]; exact (Array.getElem?_eq_some_iff.1 h5).1
         rw [repN, zl6 r' _ _ q hq, List.getElem?_map, Option.map_eq_some_iff] at h6
         obtain ⟨cc, hcc, rfl⟩ := h6
         have hlt : q % r'.size < zv.cells.size := by rw [hzs]; exact Nat.mod_lt _ hsp
         have h7 : u = zv.cells[q % r'.size] := by
          simp only [Builtin.zeroCells, Array.getElem?_map] at h5
          rw [Option.map_eq_some_iff] at h5
          obtain ⟨q', hq', rfl⟩ := h5
          obtain ⟨h8, h9⟩ := Array.getElem?_eq_some_iff.1 hq'
          simp at h9
          subst h9
          rw [hzs, getElem!_pos zv.cells _ hlt]
         subst h7
         have hlz : q % r'.size < (Y0 r').length := by rw [vn]; exact Nat.mod_lt _ hsp
         have h6 := hzc.2 (q % r'.size) _ _ (Array.getElem?_eq_getElem hlt) (by rw [List.getElem?_map, List.getElem?_eq_getElem hlz]; rfl)
         exact ⟨zf3 (H := noH) r' _ _ cc (List.getElem?_eq_getElem hlz) hcc _ h6.1, h6.2⟩
        have hZ1 : ∀ u ∈ (Builtin.zeroCells zv.cells len).toList, u.oneCell' = true := by
         intro u hu'
         obtain ⟨q, hq⟩ := List.getElem?_of_mem hu'
         have hq' : (Builtin.zeroCells zv.cells len)[q]? = some u := by simpa using hq
         have hql : q < (zr r' (repN len (yZ r'))).length := by rw [Zo]; simp only [repN, List.length_replicate]; rw [← hZs]; exact (Array.getElem?_eq_some_iff.1 hq').1
         exact (hZ q u _ hq' (List.getElem?_eq_getElem hql)).2
        have hst := run_storeCells_at P (E.β l) (off * r'.size) te (Builtin.zeroCells zv.cells len).toList 0 cs E.w hh (by rw [Array.length_toList, hZs, hb1]; omega) hZ1
        simp only [Nat.add_zero] at hst
        have hblk : BlkR P E (E.cp l) (cs.toList.take (off * r'.size) ++ (Builtin.zeroCells zv.cells len).toList ++ cs.toList.drop (off * r'.size + (Builtin.zeroCells zv.cells len).toList.length)).toArray (zr r' (zK rows off (repN len (yZ r')))) := by
         have hplen : (Z8 cs.toList (off * r'.size) (Builtin.zeroCells zv.cells len).toList).length = cs.toList.length := VD (by rw [Array.length_toList, hZs, hcl]; omega)
         refine ⟨by rw [List.size_toArray]; exact hplen.trans hcl, by rw [Zo, hlo]; omega, fun j u x h5 h6 => ?_⟩
         have hzl2 : (zr r' (repN len (yZ r'))).length = len * r'.size := by rw [Zo]; simp [repN]
         rw [zhU, y6 _ _ _ _ (by rw [hzl2, Zo]; omega), hzl2] at h6
         have h5' : (Z8 cs.toList (off * r'.size) (Builtin.zeroCells zv.cells len).toList)[j]? = some u := by simpa [Z8] using h5
         rw [y6 _ _ _ _ (by rw [Array.length_toList, hZs, hcl]; omega), Array.length_toList, hZs] at h5'
         split at h5'
         ·rename_i hq; rw [if_pos hq] at h6; exact hZ _ u x (by simpa using h5') h6
         ·rename_i hq
          rw [if_neg hq] at h6
          refine hb.2.2 j u x (by simpa using h5') ?_
          rw [hml]; exact h6
        obtain ⟨h5, h6⟩ := hr.rows hH hA hlo hblk
        refine ⟨.tuple #[], _, ?_, _, rfl, h5⟩
        cases len with
        | zero => exact absurd rfl hl0
        | succ len => simp [Builtin.clear_, run_underlying hu, hzr, hst]
    ·cases h
   ·cases h
  ·cases h
 ·cases h
theorem zqM (hT : TOK P T) (hr : RelE P B X w0 S0 pa E tm σ) {ty e : TypeId} {k : TK} {n0 b0 : Nat} {r : RT} (hu : P.underlying ty = some (.slice e)) (hd : T e = some ⟨k, n0, b0, some r⟩) {l g off len cap : Nat} {rows new : List (DenR r)} (hH : σ.H l = .flat g false e r rows) (hin : off + len ≤ rows.length)
  {va vb : Value} (hva : VR P E va (.arr l (off * r.size) len cap e)) (hnew : Lies P E r new vb) {tz tt : TypeId} :
  ∃ w', (Builtin.copy_ #[ty, tz] tt #[va, vb]).run P E.w = .ok (goInt (new.take len).length) w' ∧ ∃ E', E'.w = w' ∧ RelE P B X w0 S0 pa E' tm (σ.put (.H l) (.hd (.flat g false e r (zK rows off (new.take len))))) := by
 obtain ⟨hsz', hz⟩ := hT.rt _ _ _ hd rfl
 obtain ⟨hc1, hc2, hc3⟩ := hT.c _ _ hd
 have hsz : r.size = P.cellsOf e := by rw [hc1]; exact hsz'
 have hzl : (zc P e).map (·.length) = some (P.cellsOf e) := by rw [hz]; simp [vn, hsz]
 obtain ⟨i, z, hi, hiz, hzs, hz1⟩ := z8H hzl
 have hsize : i.size = r.size := by rw [hsz]; exact z1R hi
 obtain ⟨sa, sc, rfl, hsc, hcell⟩ := hnew
 have hlen : (new.take len).length = Nat.min new.length len := by rw [List.length_take]; exact Nat.min_comm _ _
 by_cases hn0 : (new.take len).length = 0
 ·have hov : zK rows off (new.take len) = rows := by rw [List.eq_nil_of_length_eq_zero hn0]; simp [zK]
  have hld : ∀ (x : Addr), (loadCells x 0).run P E.w = .ok #[] E.w := fun x => by simpa using run_loadCells_list (P := P) E.w x [] (by simp)
  have hm : Nat.min new.length len = 0 := by rw [← hlen]; exact hn0
  obtain ⟨va1, va2, va3, rfl, hva4⟩ : ∃ a n c, va = .slice a n c ∧ n = len := by
   rcases vV hva with ⟨h1, _, a, rfl⟩ | ⟨c, hA, h1, h2, h3, h4, rfl⟩
   ·exact ⟨a, 0, 0, rfl, h1.symm⟩
   ·exact ⟨_, len, c, rfl, rfl⟩
  refine ⟨E.w, ?_, E, rfl, by rw [hov, z9D hH]; exact hr⟩
  rw [hn0]
  have hm2 : Nat.min new.length va2 = 0 := by rw [hva4]; exact hm
  cases va1 <;> cases sa <;> simp [Builtin.copy_, run_underlying hu, Builtin.lenOf, Builtin.firstCells, sizeOf, typeInfo, hi, hm2, storeCells, hld]
 ·have hl0 : len ≠ 0 := by rintro rfl; simp at hn0
  have hne : new ≠ [] := by rintro rfl; simp at hn0
  obtain ⟨sb, so, rfl, L, hL1, hL2, hL3⟩ := hcell hne
  rcases vV hva with ⟨h1, _, a, rfl⟩ | ⟨c, hA, h1, h2, h3, h4, rfl⟩
  ·exact absurd h1 hl0
  ·obtain ⟨cs, te, hh, hb, _⟩ := hr.w3.loc l hA
   have hml := Y4 hH
   have hb1 := hb.1
   have hb2 := hb.2.1
   have hzl : ((rw' r rows).flatten.map AV.c).length = rows.length * r.size := Zo r rows
   rw [hml, hzl] at hb2
   have hnl : (new.take len).length ≤ len := by rw [List.length_take]; exact Nat.min_le_left _ _
   have hnl2 : (new.take len).length ≤ new.length := by rw [List.length_take]; exact Nat.min_le_right _ _
   have hlo : (zK rows off (new.take len)).length = rows.length := zbf (by omega)
   have hrr : (off + (new.take len).length) * r.size ≤ rows.length * r.size := Nat.mul_le_mul_right _ (by omega)
   rw [Nat.add_mul] at hrr
   have hrs : (new.take len).length * r.size ≤ new.length * r.size := Nat.mul_le_mul_right _ hnl2
   have hcl : cs.toList.length = E.cp l := by rw [Array.length_toList]; exact hb1
   have hZs : (L.take ((new.take len).length * r.size)).length = (new.take len).length * r.size := by rw [List.length_take, hL1]; exact Nat.min_eq_left hrs
   have hLt : ∀ (q : Nat) (u : Value), (L.take ((new.take len).length * r.size))[q]? = some u → L[q]? = some u ∧ q < (new.take len).length * r.size := fun q u hq => by
    have hlt : q < (new.take len).length * r.size := by rw [← hZs]; exact (List.getElem?_eq_some_iff.1 hq).1
    rw [List.getElem?_take_of_lt hlt] at hq
    exact ⟨hq, hlt⟩
   have hzt : ∀ q, q < (new.take len).length * r.size → (zr r (new.take len))[q]? = (zr r new)[q]? := fun q hq => by
    have e1 : new.take len = new.take (new.take len).length := by rw [List.take_eq_take_iff, List.length_take]; omega
    rw [e1, z5t, List.getElem?_take_of_lt hq]
   have hZ : ∀ (q : Nat) (u : Value) (y : AV), (L.take ((new.take len).length * r.size))[q]? = some u → (zr r (new.take len))[q]? = some y → VR P E u y ∧ u.oneCell' = true := by
    intro q u y h5 h6
    obtain ⟨h7, h8⟩ := hLt q u h5
    rw [hzt q h8] at h6
    exact hL3 q u y h7 h6
   have hZ1 : ∀ u ∈ L.take ((new.take len).length * r.size), u.oneCell' = true := by
    intro u hu'
    obtain ⟨q, hq⟩ := List.getElem?_of_mem hu'
    have hql : q < (zr r (new.take len)).length := by rw [Zo]; exact (hLt q u hq).2
    exact (hZ q u _ hq (List.getElem?_eq_getElem hql)).2
   have hf := run_firstCells_some (P := P) E.w i.size (new.take len).length ⟨sb, so, none⟩ new.length sc (L.take ((new.take len).length * r.size)) (by rw [hZs, hsize]) (fun j u hj => by
    have := hL2 j u (hLt j u hj).1
    rw [Ye]; exact this)
   have hst := run_storeCells_at P (E.β l) (off * r.size) te (L.take ((new.take len).length * r.size)) 0 cs E.w hh (by rw [hZs, hb1]; omega) hZ1
   simp only [Nat.add_zero] at hst
   have hblk : BlkR P E (E.cp l) (cs.toList.take (off * r.size) ++ L.take ((new.take len).length * r.size) ++ cs.toList.drop (off * r.size + (L.take ((new.take len).length * r.size)).length)).toArray (zr r (zK rows off (new.take len))) := by
    have hplen : (Z8 cs.toList (off * r.size) (L.take ((new.take len).length * r.size))).length = cs.toList.length := VD (by rw [hZs, hcl]; omega)
    refine ⟨by rw [List.size_toArray]; exact hplen.trans hcl, by rw [Zo, hlo]; omega, fun j u x h5 h6 => ?_⟩
    have hzl2 : (zr r (new.take len)).length = (new.take len).length * r.size := Zo _ _
    rw [zhU, y6 _ _ _ _ (by rw [hzl2, Zo]; omega), hzl2] at h6
    have h5' : (Z8 cs.toList (off * r.size) (L.take ((new.take len).length * r.size)))[j]? = some u := by simpa [Z8] using h5
    rw [y6 _ _ _ _ (by rw [hZs, hcl]; omega), hZs] at h5'
    split at h5'
    ·rename_i hq; rw [if_pos hq] at h6; exact hZ _ u x h5' h6
    ·rename_i hq
     rw [if_neg hq] at h6
     refine hb.2.2 j u x (by simpa using h5') ?_
     rw [hml]; exact h6
   obtain ⟨h5, h6⟩ := hr.rows hH hA hlo hblk
   refine ⟨_, ?_, _, rfl, h5⟩
   have hmin := hlen.symm
   clear h5 h6 hblk hZ1 hZ hzt hLt hZs hrs hrr hlo hnl hnl2 hlen hn0
   generalize L.take ((new.take len).length * r.size) = L' at *
   generalize (new.take len).length = m at *
   simp [Builtin.copy_, run_underlying hu, Builtin.lenOf, sizeOf, typeInfo, hi, hmin, hf, hst]
theorem ze2 (hT : TOK P T) (hr : RelE P B X w0 S0 pa E tm σ) {ty e : TypeId} {k : TK} {n0 b0 : Nat} {r : RT} (hu : P.underlying ty = some (.slice e)) (hd : T e = some ⟨k, n0, b0, some r⟩) {l g off : Nat} {e' : TypeId} {lf : Nat → Nat} {new : List (DenR r)} {q : RV} {ws : Ws}
  (h : Rdr.run σ (zkD e r l g e' off lf new) = some (q, ws)) {va vb : Value} (hva : ∀ rows, σ.H l = .flat g false e r rows → e' = e → off + lf rows.length ≤ rows.length → ∃ cap, VR P E va (.arr l (off * r.size) (lf rows.length) cap e)) (hnew : Lies P E r new vb) {tz tt : TypeId} :
  ∃ v' w', (Builtin.copy_ #[ty, tz] tt #[va, vb]).run P E.w = .ok v' w' ∧ Yb P B X w0 S0 pa tm (σ.puts ws) q v' w' := by
 unfold zkD at h
 simp only [Rdr.run, KS.lk, Sl.hd!] at h
 split at h
 ·rename_i g' e2 r' rows hH
  split at h
  ·rename_i hc
   obtain ⟨rfl, rfl, rfl⟩ := hc
   split at h
   ·rename_i hr' _
    subst hr'
    simp only [Rdr.run, VA] at h
    cases hin : inN rows off (lf (lenN rows)) with
    | false => rw [hin] at h; cases h
    | true =>
     simp only [hin, cond] at h
     have hin' : off + lf rows.length ≤ rows.length := of_decide_eq_true hin
     have htk : YE new (intN (lf (lenN rows))) = new.take (lf rows.length) := by simp [YE, intN, lenN]
     rw [htk] at h
     cases h
     obtain ⟨cap, hv⟩ := hva rows hH rfl hin'
     obtain ⟨w', h1, E', h2, h3⟩ := zqM hT hr hu hd hH hin' hv hnew (tz := tz) (tt := tt)
     exact ⟨_, w', h1, E', h2, h3, .c _ _ (.int _ _), trivial⟩
   ·cases h
  ·cases h
 ·cases h
theorem zpz (hT : TOK P T) (hr : RelE P B X w0 S0 pa E tm σ) {ty e : TypeId} {k : TK} {n0 b0 : Nat} {r : RT} (hu : P.underlying ty = some (.slice e)) (hd : T e = some ⟨k, n0, b0, some r⟩) {x : RV} {new : List (DenR r)} {q : RV} {ws : Ws}
  (h : Rdr.run σ (zpr e r x new) = some (q, ws)) {va vb : Value} (hva : VR P E va (av3 σ.H x)) (hnew : Lies P E r new vb) {tz tt : TypeId} :
  ∃ v' w', (Builtin.copy_ #[ty, tz] tt #[va, vb]).run P E.w = .ok v' w' ∧ Yb P B X w0 S0 pa tm (σ.puts ws) q v' w' := by
 unfold zpr at h
 split at h
 ·rename_i l g e' off len
  refine ze2 hT hr hu hd h (fun rows hH he _ => ?_) hnew
  subst he
  have hx' : av3 σ.H (.ars l g e' off len) = .arr l (off * r.size) len (rows.length - off) e' := by show avS σ.H l g e' off len = _; simp [avS, hH]
  rw [hx'] at hva
  exact ⟨_, hva⟩
 ·rename_i l g e'
  refine ze2 hT hr hu hd h (fun rows hH he _ => ?_) hnew
  subst he
  have hx' : av3 σ.H (.arw l g e') = .arr l 0 rows.length rows.length e' := by show avW σ.H l g e' = _; simp [avW, hH]
  rw [hx'] at hva
  exact ⟨_, by rw [Nat.zero_mul]; exact hva⟩
 ·cases h
theorem zsn (hT : TOK P T) (hr : RelE P B X w0 S0 pa E tm σ) {ty e tz : TypeId} {k : TK} {n0 b : Nat} {r : RT} (hu : P.underlying ty = some (.slice e)) (hd : T e = some ⟨k, n0, b, some r⟩) {d : Nat} {x y : RV}
  {q : RV} {ws : Ws} (h : Rdr.run σ (appZ T d e r b tz x y) = some (q, ws)) {va vb : Value} (hva : VR P E va (av3 σ.H x)) (hvb : VR P E vb (av3 σ.H y)) {tt : TypeId} :
  ∃ v' w', (Builtin.append_ #[ty, tz] tt #[va, vb]).run P E.w = .ok v' w' ∧ Yb P B X w0 S0 pa tm (σ.puts ws) q v' w' := by
 unfold appZ at h
 split at h
 ·rename_i k1 n1 k2 c2 b2 rt2 hz
  obtain ⟨n, rfl⟩ : ∃ n : Int, n = n1 := ⟨n1, rfl⟩
  simp only [Rdr.run] at h
  cases hroom : z1T b n with
  | false => rw [hroom] at h; cases h
  | true =>
  simp only [hroom, cond] at h
  simp only [z1T, Bool.and_eq_true, decide_eq_true_eq] at hroom
  obtain ⟨h0, h1, h63⟩ := hroom
  replace hva : VR P E va .nils := hva
  cases hva
  have hvi := yE (k := k1) (n := n) hvb
  subst hvi
  obtain ⟨hsz', hzc⟩ := hT.rt _ _ _ hd rfl
  obtain ⟨hc1, hc2, hc3⟩ := hT.c _ _ hd
  have hsz : r.size = P.cellsOf e := by rw [hc1]; exact hsz'
  have hzl : (zc P e).map (·.length) = some (P.cellsOf e) := by rw [hzc]; simp [vn, hsz]
  obtain ⟨i, z, hi, hiz, hzs, hz1⟩ := z8H hzl
  have hsize : i.size = r.size := by rw [hsz]; exact z1R hi
  have hbyt : i.bytes = b := by have : P.bytesOf e = i.bytes := by simp [Program.bytesOf, hi]
                                rw [← this]; exact hc2
  have hsp := YL r
  obtain ⟨m, rfl⟩ : ∃ m : Nat, n = (m : Int) := ⟨n.toNat, by omega⟩
  have hmb : m * b ≤ 140737488355328 := by have : ((m * b : Nat) : Int) ≤ 140737488355328 := by rw [Int.natCast_mul]; exact h1
                                           omega
  have hrun := Go.Lib.run_append_nil_zeros (P := P) E.w ty tz tt e i z k1 k2 hu (hT.int _ _ _ hz rfl) hi hiz m (by omega) (by omega) h63 (by rw [hbyt]; omega)
  obtain ⟨zv, hzr, hzcc⟩ := VM E hzc
  have hzv : zv = z := by
   have : (zeroValue e).run P E.w = .ok z E.w := by simp [zeroValue, typeInfo, hi, hiz]
   rw [this] at hzr; cases hzr; rfl
  subst hzv
  obtain ⟨hd1, hd2⟩ := hr.drew
  have hge := grownCap_ge E.w m 0 e
  have hZs : (Builtin.zeroCells zv.cells m ++ Builtin.zeroCells zv.cells (grownCap E.w m 0 e - m)).size = grownCap E.w m 0 e * P.cellsOf e := by
   rw [Array.size_append, yS, yS, hzs, ← Nat.add_mul]; congr 1; omega
  have hblk : BlkR P { E with w := E.w.drew } (Builtin.zeroCells zv.cells m ++ Builtin.zeroCells zv.cells (grownCap E.w m 0 e - m)).size (Builtin.zeroCells zv.cells m ++ Builtin.zeroCells zv.cells (grownCap E.w m 0 e - m)) (zr r (repI (m : Int) (yZ r))) := by
   refine ⟨rfl, by rw [Zo, hZs, hsz]; simp [repI]; exact Nat.mul_le_mul_right _ hge, fun q v x hv hx => ?_⟩
   have hq : q < m * r.size := by have := (List.getElem?_eq_some_iff.1 hx).1; rw [Zo] at this; simpa [repI] using this
   have hzsz : (Builtin.zeroCells zv.cells m).size = m * r.size := by rw [yS, hzs, hsz]
   rw [Array.getElem?_append_left (by rw [hzsz]; exact hq)] at hv
   have hlt : q % r.size < zv.cells.size := by rw [hzs, ← hsz]; exact Nat.mod_lt _ hsp
   have h5 : (Builtin.zeroCells zv.cells m)[q]? = some zv.cells[q % r.size] := by
    simp only [Builtin.zeroCells, Array.getElem?_map]
    rw [Array.getElem?_range, if_pos (by rw [hzs, ← hsz]; exact hq)]
    have hm : q % zv.cells.size = q % r.size := by rw [hzs, hsz]
    simp only [Option.map_some, hm]
    rw [getElem!_pos zv.cells _ hlt]
   rw [hv] at h5
   cases h5
   rw [repI, zl6 r _ _ q (by simpa using hq), List.getElem?_map, Option.map_eq_some_iff] at hx
   obtain ⟨cc, hcc, rfl⟩ := hx
   have hlz : q % r.size < (Y0 r).length := by rw [vn]; exact Nat.mod_lt _ hsp
   have h6 := hzcc.2 (q % r.size) _ _ (Array.getElem?_eq_getElem hlt) (by rw [List.getElem?_map, List.getElem?_eq_getElem hlz]; rfl)
   exact ⟨(zf3 (H := noH) r _ _ cc (List.getElem?_eq_getElem hlz) hcc _ h6.1).mono hd2, h6.2⟩
  obtain ⟨l, g, hl, h3⟩ := vm h
  have h3' : some (RV.arw l (g + 1) e, [(Key.H l, Sl.hd (.flat (g + 1) false e r (repI (m : Int) (yZ r))))]) = some (q, ws) := h3
  cases h3'
  obtain ⟨k1', k2', k3'⟩ := hd1.newFlat hl hsz (ty := e) hblk
  have hHn : (σ.puts [(Key.H l, Sl.hd (.flat (g + 1) false e r (repI (m : Int) (yZ r))))]).H = updH σ.H l (.flat (g + 1) false e r (repI (m : Int) (yZ r))) := by
   show (σ.put (.H l) _).H = _
   rw [y7]
  refine ⟨_, _, hrun, _, rfl, k1', ?_, ?_⟩
  ·rw [hHn]
   exact k3' _ _ (by simp [repI]) hge (by rw [hZs]; exact Nat.le_refl _) (grownCap_le_maxLen _ _ _ _ (by have h9 : maxLen = 2 ^ 63 - 1 := rfl; omega))
  ·show g + 1 ≤ ((σ.puts [(Key.H l, Sl.hd (.flat (g + 1) false e r (repI (m : Int) (yZ r))))]).H l).gen
   rw [hHn, zt]; exact Nat.le_refl _
 ·cases h
end
end Go.Kx
