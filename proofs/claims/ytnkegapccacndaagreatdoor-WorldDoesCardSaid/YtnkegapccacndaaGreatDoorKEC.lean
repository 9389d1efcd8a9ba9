/-
  What is proved, part by part: every operation that the state of an activation speaks of does what is said of it. regions in the order of the text; what a code does not write stays. a map of two constants, made and asked: what it answers. a region that draws its order does what its operations do in the order of the text. what a loop's rounds hand on. rows behind cells are one array again; a variable is data from now on; a world grows. a code does what it comes to. functions are entered, and hand back what they hand back; a function whose body is walked where it is called. arguments are handed on as data, results are taken as data or as rows of one's own. results are taken as data or as rows of one's own. Conditions: none.
-/
import Derived.Test.YtnkegapccacndaaGreatDoorKEB
import Derived.Orders
import Derived.Lib.BufferRead
import Derived.Lib.AppendStr
import Derived.Lib.AtoiErrMem
import Derived.Laws.BytesArg
import Derived.Deep.LoopGhost
set_option linter.unusedVariables false
set_option linter.unusedSimpArgs false
set_option linter.unnecessarySimpa false
set_option maxRecDepth 4000
namespace Go.Kx
open Go.Rb
def yv (P : Program) (f : FuncId) : Prop := ∃ fn c, P.funcs[f]? = some fn ∧ fn.body = some c ∧ (fn.name == "runtime.NumGoroutine") = false
theorem zbi {P : Program} {w : World} {f : FuncId} (h : yv P f) (args : Array Value) : (callFunc f args).run P w = .ok (.enter f args) w := by
 obtain ⟨fn, c, hf, hb, hn⟩ := h
 have hp : (program : Sem Program).run P w = .ok P w := rfl
 simp only [callFunc, Sem.run_bind, hp, Result.andThen_ok, hf, hn, hb, Bool.false_eq_true, if_false, Option.isNone_some, Sem.run_pure]
def Vals (P : Program) (E : Env) (σ : KS) (vs : Array Value) (xs : List RV) : Prop :=
 vs.size = xs.length ∧ ∀ (i : Nat) (v : Value) (x : RV), vs[i]? = some v → xs[i]? = some x → VR P E v (av3 σ.H x) ∧ ok3 σ.H x
def YX (P : Program) (f : FuncId) (sp : Spec) : Prop :=
 yv P f ∧ ∀ (B : Nat) (X : Nat → Prop) (w0 : World) (S0 : Nat → Nat → Prop) (pa : List ((Nat → Value) × (Nat → RV))) (E : Env) (σ : KS) (tm : Nat → Value) (d : Nat) (xs : List RV) (rv : RV) (ws : Ws) (vs : Array Value),
  RelE P B X w0 S0 pa E tm σ → Rdr.run σ (sp d xs) = some (rv, ws) → Vals P E σ vs xs → Calls P f vs E.w fun e w' => ∃ v, e = .returned v ∧ Yb P B X w0 S0 pa tm (σ.puts ws) rv v w'
section
variable {P : Program} {T : TT} {B : Nat} {X : Nat → Prop} {w0 : World} {S0 : Nat → Nat → Prop} {pa : List ((Nat → Value) × (Nat → RV))} {E : Env} {σ σ1 : KS} {tm : Nat → Value}
theorem RelE.after (hr : RelE P B X w0 S0 pa E tm σ) {x : RV} {v : Value} (hv : VR P E v (av3 σ.H x)) (hx : ok3 σ.H x) : Yb P B X w0 S0 pa tm (σ.puts []) x v E.w := ⟨E, rfl, hr, hv, hx⟩
theorem zoE (hr : RelE P B X w0 S0 pa E tm σ) {a : Act} (ha : tm = fun i => a.tmps.getD i undef) {g : Operand} {f : FuncId} {caps : List RV} (hg : evS σ g = .fn f caps) {u : Unit} (hc : Rdr.run σ (vldL caps) = some u) :
  ∃ cs : Array Value, a.eval g = .func (.func f) #[] cs ∧ ∀ args : Array Operand, Vals P E σ (args.map a.eval ++ cs) (args.toList.map (evS σ) ++ caps) := by
 obtain ⟨hv, hok⟩ := hr.ev ha g
 rw [hg] at hv hok
 have h3 := z9B hc
 have hany : ¬ ((caps.map (av0 σ.H)).any AV.isAny = true) := by
  rw [List.any_map, List.any_eq_true]
  rintro ⟨c, hc, hi⟩
  exact (h3 c hc).1 ((jA _).1 hi)
 have hx : av3 σ.H (.fn f caps) = .fn f (caps.map (av0 σ.H)) := by
  show av1 σ.H (.fn f caps) = _
  simp only [av1]; rw [if_neg hany]
 rw [hx] at hv
 generalize hq : a.eval g = q at hv
 cases hv with
 | fn _ cs _ hl hcv =>
 refine ⟨cs, rfl, fun args => ⟨by simp [hl], fun i v x h1 h2 => ?_⟩⟩
 rw [Array.getElem?_append] at h1
 rw [List.getElem?_append] at h2
 simp only [Array.size_map, List.length_map, Array.length_toList] at h1 h2
 split at h1
 ·rename_i hi
  rw [if_pos hi] at h2
  rw [Array.getElem?_map, Option.map_eq_some_iff] at h1
  rw [List.getElem?_map, Option.map_eq_some_iff, Array.getElem?_toList] at h2
  obtain ⟨r, hr1, rfl⟩ := h1
  obtain ⟨r', hr2, rfl⟩ := h2
  rw [hr1] at hr2; cases hr2
  exact hr.ev ha r
 ·rename_i hi
  rw [if_neg hi] at h2
  have hmem := List.mem_of_getElem? h2
  obtain ⟨g1, g2, g3⟩ := h3 x hmem
  obtain ⟨g4, g5⟩ := z13 g2
  rw [z5D g2, z5r _ _ g3]
  refine ⟨hcv _ v _ h1 (by rw [List.getElem?_map, h2]; rfl), ?_⟩
  exact z5C _ _ (z8F _ _ (ztW (hok x hmem) g3) g4) g5
theorem zl7 {w : World} {t e : TypeId} {lo hi : Option Value} (hu : P.underlying t = some (.slice e)) (hi' : (P.info? e).isSome = true) (hlo : vU P w 0 0 lo) (hhi : vU P w 0 0 hi) :
  (Instr.sliceAt t (.slice none 0 0) lo hi none).run P w = .ok (.slice none 0 0) w := by
 simp only [Instr.sliceAt, Sem.run_bind, run_underlying hu, Result.andThen_ok, Instr.slice, Sem.run_pure, je true hlo hhi (Nat.le_refl _) (Nat.le_refl _), yQ hi']
 rfl
theorem zpA {b : Int} {k : IntKind} {v : Value} (hv : VR P E v (.c (.int k b))) (hb : b = 0) : vU P E.w 0 0 (some v) := by
 refine Jk (lo := some (.c (.int k b))) (fun y hy => ⟨v, rfl, by cases hy; exact hv⟩) (fun h => by cases h) ?_
 subst hb; rfl
theorem RelE.grown (hr : RelE P B X w0 S0 pa E tm σ) {w' : World} {S2 : Nat → Nat → Prop} (hfr : Fr E.w.heap.size (fun _ => False) E.w w') (h1 : ∀ b o, E.S b o → S2 b o) (h2 : ∀ b o, S2 b o → E.S b o ∨ E.w.heap.size ≤ b) (h3 : ∀ b o, S2 b o → b < w'.heap.size) :
  RelE P B X w0 S0 pa { E with w := w', S := S2 } tm σ ∧ E.le { E with w := w', S := S2 } := by
 have hle : E.le { E with w := w', S := S2 } := by
  refine ⟨fun b o u hs hc => ?_, h1, fun _ h => ⟨h, rfl, rfl⟩, fun _ _ _ _ h => .inl h, fun _ _ h => h⟩
  exact (z0V (hfr.block b (hr.w3.slt b o hs) (by simp))).trans hc
 have hw : W3 P B X w0 S0 { E with w := w', S := S2 } σ.m := by
  refine ⟨⟨hfr.os.trans hr.w3.fr.os, hfr.tape.trans hr.w3.fr.tape, hfr.output.trans hr.w3.fr.output, Nat.le_trans hr.w3.fr.size hfr.size, fun k hk hX => (hfr.block k (Nat.lt_of_lt_of_le hk hr.w3.hB) (by simp)).trans (hr.w3.fr.block k hk hX)⟩, Nat.le_trans hr.w3.hB hfr.size,
   fun b o h => h1 b o (hr.w3.s0 b o h), fun b o h => ?_, h3, hr.w3.hA, fun l hA => ?_, hr.w3.locne, hr.w3.ow, hr.w3.gl⟩
  ·rcases h2 b o h with h | h
   ·exact hr.w3.sNew b o h
   ·exact .inr (.inl (Nat.le_trans hr.w3.hB h))
  ·obtain ⟨cs, e, hh, hc, hs, hb⟩ := hr.w3.loc l hA
   refine ⟨cs, e, (hfr.block _ (hr.w3.lt hA) (by simp)).trans hh, hc.mono hle, fun o ho => ?_, hb⟩
   rcases h2 _ _ ho with h | h
   ·exact hs o h
   ·exact absurd h (Nat.not_le.2 (hr.w3.lt hA))
 exact ⟨hr.step hw (fun _ => Nat.le_refl _) (fun l i x y h4 h5 v hv => by rw [h4] at h5; cases h5; exact hv) (Tx.le hle) rfl hr.okC hr.hd hr.live, hle⟩
/-! ### Bytes and strings -/
theorem zl8 {w w' : World} {s : Sem Value} {u : Value} (h : s.run P w = .ok u w') : (do pure (Next.value (← s)) : Sem Next).run P w = .ok (.value u) w' := by
 simp only [Sem.run_bind, h, Result.andThen_ok, Sem.run_pure]
abbrev u8R : RT := .one (.int .u8)
theorem zpB : ∀ (rows : List Int) (i : Nat), i < rows.length → (zr u8R (show List (DenR u8R) from rows))[i]? = some (.c (.int .u8 (rows.getD i 0)))
 | [], i, h => absurd h (Nat.not_lt_zero _)
 | n :: rows, 0, _ => rfl
 | n :: rows, i + 1, h => by
  have := zpB rows i (by simpa using h)
  show (zr u8R (show List (DenR u8R) from rows))[i]? = _
  rw [this]; rfl
theorem zu4 {src dst e : TypeId} (hu : P.underlying src = some (.slice e)) (he : P.underlying e = some (.int .u8)) (hd : P.underlying dst = some .string) {rows : List Int} {v : Value} (hl : Lies P E u8R (show List (DenR u8R) from rows) v) :
  (convert src dst v).run P E.w = .ok (.string ⟨List.toArray (strB rows)⟩) E.w := by
 obtain ⟨a, c, rfl, hc, hne⟩ := hl
 by_cases h0 : rows = []
 ·subst h0
  have e0 : (List.length (show List (DenR u8R) from ([] : List Int))) = 0 := rfl
  rw [e0, run_convert_bytes_string E.w src dst e a 0 c hu he hd]
  cases a <;> (simp [Conv.bytesToString, strB]; rfl)
 ·obtain ⟨b, off, rfl, L, hL1, hL2, hL3⟩ := hne h0
  have hlen : L.length = rows.length := by rw [hL1]; exact Nat.mul_one _
  have := run_convert_bytes_arg (P := P) E.w src e hu he b off rows.length c rows rfl (fun i hi => by
   have h1 : L[i]? = some (L[i]'(by omega)) := List.getElem?_eq_getElem (by omega)
   have h2 := (hL3 i _ _ h1 (zpB rows i hi)).1
   rw [hL2 i _ h1, yE h2]) dst hd
  exact this
theorem z9F (s : List UInt8) : List.length (show List (DenR u8R) from bytB s) = s.length := (List.length_map (as := s) (fun b : UInt8 => (b.toNat : Int)))
theorem zu5 (hr : RelE P B X w0 S0 pa E tm σ) {src dst e : TypeId} (hs : P.underlying src = some .string) (hd : P.underlying dst = some (.slice e)) (he : P.underlying e = some (.int .u8)) (hsz : P.cellsOf e = 1) (s : List UInt8) :
  ∃ v' w', (convert src dst (.string ⟨List.toArray s⟩)).run P E.w = .ok v' w' ∧ Yb P B X w0 S0 pa tm (σ.puts []) (.d (.sl e u8R) (bytB s)) v' w' := by
 have hrun := Lib.run_convert_string_bytes (P := P) E.w src dst e ⟨List.toArray s⟩ hs hd he
 have hbl := Lib.bytesWorld_below E.w e ⟨List.toArray s⟩
 have hsize : (Lib.bytesWorld E.w e ⟨List.toArray s⟩).heap.size = E.w.heap.size + 1 := Lib.bytesWorld_size _ _ _
 let S2 : Nat → Nat → Prop := fun b o => E.S b o ∨ (E.w.heap.size ≤ b ∧ b < (Lib.bytesWorld E.w e ⟨List.toArray s⟩).heap.size)
 obtain ⟨k1, k2⟩ := hr.grown (w' := Lib.bytesWorld E.w e ⟨List.toArray s⟩) (S2 := S2) ⟨hbl.os, hbl.tape, hbl.output, hbl.size, fun k hk _ => hbl.block k hk⟩ (fun b o hb => .inl hb) (fun b o hb => by
  rcases hb with hb | hb
  ·exact .inl hb
  ·exact .inr hb.1) (fun b o hb => by
  rcases hb with hb | hb
  ·exact Nat.lt_of_lt_of_le (hr.w3.slt b o hb) hbl.size
  ·exact hb.2)
 refine ⟨_, _, hrun, _, rfl, k1, ?_, trivial⟩
 have hn : (⟨List.toArray s⟩ : ByteArray).size = s.length := by simp [ByteArray.size]
 show VR P _ _ (.c (.sl e (List.map (encR u8R) (show List (DenR u8R) from bytB s))))
 refine .c _ _ (.sl e E.w.heap.size 0 _ _ _ (fun i _ => .int .u8 ((s.getD i 0).toNat : Int)) (by rw [hn, List.length_map, z9F]) (grownCap_ge _ _ _ _) (fun i r h => ?_) (fun i j r c h h2 => ?_) (fun i j r c h h2 => ?_))
 ·rw [List.getElem?_map, Option.map_eq_some_iff] at h
  obtain ⟨n, _, rfl⟩ := h
  rw [hsz]; rfl
 ·rw [List.getElem?_map, Option.map_eq_some_iff] at h
  obtain ⟨n, h, rfl⟩ := h
  have hi : i < s.length := by have := (List.getElem?_eq_some_iff.1 h).1; rwa [z9F] at this
  have hj : j = 0 := by
   have := (List.getElem?_eq_some_iff.1 h2).1
   have e1 : (encR u8R n).length = 1 := rfl
   omega
  subst hj
  rw [hsz, Nat.mul_one, Nat.add_zero, Nat.zero_add]
  have := Lib.bytesWorld_cell E.w e ⟨List.toArray s⟩ i (by rw [hn]; exact hi)
  refine ⟨by rw [this], .inr ⟨Nat.le_refl _, by rw [hsize]; exact Nat.lt_succ_self _⟩⟩
 ·rw [List.getElem?_map, Option.map_eq_some_iff] at h
  obtain ⟨n, h, rfl⟩ := h
  have hi : i < s.length := by have := (List.getElem?_eq_some_iff.1 h).1; rwa [z9F] at this
  have hj : j = 0 := by
   have := (List.getElem?_eq_some_iff.1 h2).1
   have e1 : (encR u8R n).length = 1 := rfl
   omega
  subst hj
  have h3 : (bytB s)[i]? = some ((s.getD i 0).toNat : Int) := by simp [bytB, List.getD, List.getElem?_eq_getElem hi]
  have h4 : (bytB s)[i]? = some n := h
  rw [h3] at h4; cases h4
  have h5 : some (C.int .u8 ((s.getD i 0).toNat : Int)) = some c := h2
  cases h5
  exact .int _ _
theorem zu6 {ty tz tt e : TypeId} {i : TypeInfo} {z : Value} (hu : P.underlying ty = some (.slice e)) (hz : P.underlying tz = some .string) (hi : P.info? e = some i) (hiz : i.zero = some z) (hsize : i.size = 1) (s : List UInt8) :
  ztH P E ty tz tt e i z u8R (show List (DenR u8R) from bytB s) (.string ⟨List.toArray s⟩) := by
 have hn : (⟨List.toArray s⟩ : ByteArray).size = s.length := by simp [ByteArray.size]
 have hcl : Lib.strCells ⟨List.toArray s⟩ = s.map fun b => Value.int .u8 (b.toNat : Int) := by simp [Lib.strCells]
 have hlen := z9F s
 have hl2 : (Lib.strCells ⟨List.toArray s⟩).length = s.length := by rw [Lib.strCells_length, hn]
 refine ⟨fun h0 a n c hnc => ?_, fun h0 => ⟨Lib.strCells ⟨List.toArray s⟩, by rw [hl2, hlen]; exact (Nat.mul_one _).symm, fun j u x h1 h2 => ?_, ⟨fun h1 h2 h3 => ?_, fun e2 g o sLen sCap cur h1 h2 h3 h4 => ?_, fun b' sLen sCap olds h1 h2 h3 h4 h5 => ?_⟩⟩⟩
 ·have hs : s = [] := by rw [h0] at hlen; exact List.eq_nil_of_length_eq_zero hlen.symm
  subst hs
  have hf := fun q => Lib.run_firstCells_string (P := P) q 1 ⟨List.toArray []⟩
  have e0 : (⟨List.toArray []⟩ : ByteArray).size = 0 := rfl
  have e1 : Lib.strCells ⟨List.toArray []⟩ = [] := rfl
  rw [e0, e1] at hf
  cases a <;> simp [Builtin.append_, run_underlying hu, run_underlying hz, sizeOf, typeInfo, hi, hsize, Builtin.lenOf, e0, hf, storeCells, hnc]
 ·have hj : j < s.length := by rw [← hl2]; exact (List.getElem?_eq_some_iff.1 h1).1
  have h3 := zpB (bytB s) j (by simpa [bytB] using hj)
  rw [h3] at h2
  cases h2
  rw [hcl, List.getElem?_map, List.getElem?_eq_getElem hj] at h1
  cases h1
  have h4 : (bytB s).getD j 0 = ((s[j]).toNat : Int) := by simp [bytB, List.getD, List.getElem?_eq_getElem hj]
  rw [h4]
  exact ⟨.c _ _ (.int _ _), rfl⟩
 ·rw [hlen] at h1 h2 h3 ⊢
  rw [← hn] at h1 h2 h3 ⊢
  have := run_append_nil_string (P := P) E.w ty tz tt e i z hu hz hi hiz ⟨List.toArray s⟩ h1 h2 h3
  rw [this]
  simp [Lib.strCells]
 ·rw [hlen] at h3 ⊢
  rw [← hn] at h3 ⊢
  have hf := Lib.run_firstCells_string (P := P) E.w 1 ⟨List.toArray s⟩
  have hst := run_storeCells_at P g (o + sLen * i.size) e2 (Lib.strCells ⟨List.toArray s⟩) 0 cur E.w h1 (by simpa using h4) (Lib.strCells_oneCell _)
  simp only [Nat.add_zero] at hst
  rw [hsize, Nat.mul_one] at hst ⊢
  simp [Builtin.append_, run_underlying hu, run_underlying hz, sizeOf, typeInfo, hi, hsize, Builtin.lenOf, h3, hf, Ye, hst]
 ·rw [hlen] at h3 h4 h5 ⊢
  rw [← hn] at h3 h4 h5 ⊢
  exact Lib.run_append_grow_string (P := P) E.w ty tz tt e i z hu hz hi hiz b' sLen sCap olds h1 h2 _ h3 h4 h5
theorem zso (hT : TOK P T) (hr : RelE P B X w0 S0 pa E tm σ) {ty e tz : TypeId} {k : TK} {n0 b : Nat} {r : RT} (hu : P.underlying ty = some (.slice e)) (hd : T e = some ⟨k, n0, b, some r⟩) {d : Nat} {x y : RV} (hok : ok3 σ.H x) {q : RV} {ws : Ws}
  (h : Rdr.run σ (appO T d e r b tz x y) = some (q, ws)) {va vb : Value} (hva : VR P E va (av3 σ.H x)) (hvb : VR P E vb (av3 σ.H y)) {tt : TypeId} :
  ∃ v' w', (Builtin.append_ #[ty, tz] tt #[va, vb]).run P E.w = .ok v' w' ∧ Yb P B X w0 S0 pa tm (σ.puts ws) q v' w' := by
 unfold appO at h
 split at h
 ·rename_i hdz
  split at h
  ·rename_i hde
   have hs := YO hvb
   subst hs
   refine ze0 hT hr hu hde hok h hva fun i z hi hiz hsize => ?_
   exact zu6 hu (hT.str _ _ hdz rfl) hi hiz hsize _
  ·exact (zJ h).elim
 ·exact zsn hT hr hu hd h hva hvb
theorem zqN {Γ : FuncId → Option GS} (hT : TOK P T) (hΓ : ∀ f sp, Γ f = some (.r sp) → YX P f sp) (hr : RelE P B X w0 S0 pa E tm σ) {a : Act} (ha : tm = fun i => a.tmps.getD i undef) {o : Oper} {x : RV} {ws : Ws} (h : Rdr.run σ (opR T Γ o.dst o.op) = some (x, ws)) :
  Does P a o E.w (Yb P B X w0 S0 pa tm (σ.puts ws) x) := by
 have rd : ∀ {y : RV}, Rdr.run σ (rdR T o.op) = some y → Does P a o E.w (Yb P B X w0 S0 pa tm (σ.puts []) y) := by
  intro y hy
  obtain ⟨u, h1, h2, h3⟩ := zsk hT hr ha hy
  exact .inl ⟨u, E.w, h1, hr.after h2 h3⟩
 obtain ⟨dst, op, ty', pos, after, guard⟩ := o
 simp only at h rd
 unfold opR at h
 split at h
 ·-- alloc
  split at h
  ·rename_i e d k n b r hd
   simp only [Rdr.run_bind, Option.bind_eq_some_iff, Rdr.run, Option.some.injEq] at h
   obtain ⟨⟨q, w⟩, h1, h2⟩ := h
   cases h2
   exact znE hT hr hd h1 rfl
  ·exact (zJ h).elim
 ·-- box
  split at h
  ·rename_i ty x0 d
   simp only [Rdr.run_bind, Zp, Option.bind_some, Option.bind_eq_some_iff] at h
   obtain ⟨cs, h1, h⟩ := h
   split at h
   ·exact (zJ h).elim
   ·simp only [Rdr.run_bind, Option.bind_eq_some_iff, Rdr.run, Option.some.injEq] at h
    obtain ⟨⟨q, w⟩, h2, h3⟩ := h
    cases h3
    exact zqJ hr ha rfl h1 h2
  ·exact (zJ h).elim
 ·-- store
  simp only [Rdr.run_bind, Zp, Option.bind_some, Option.bind_eq_some_iff, Rdr.run, Option.some.injEq] at h
  obtain ⟨w, h1, h2⟩ := h
  cases h2
  exact znF hT hr ha rfl h1
 ·-- buildSlice
  split at h
  ·rename_i t n ps d e c' b' rt hd
   split at h
   ·rename_i k c b r he
    split at h
    ·rename_i hc
     simp only [Rdr.run_bind, zhS, Option.bind_some, Option.bind_eq_some_iff, Rdr.run, Option.some.injEq] at h
     obtain ⟨⟨rows, w1⟩, h1, ⟨q, w2⟩, h2, h3⟩ := h
     cases h3
     exact zsl hT hr ha rfl hd he hc.1 hc.2 h1 h2
    ·exact (zJ h).elim
   ·exact (zJ h).elim
  ·exact (zJ h).elim
 ·-- makeSlice
  rename_i t ln cp
  split at h
  ·rename_i d e c' b' rt hd
   split at h
   ·rename_i k c b r he
    simp only [Rdr.run_bind, Zp, Option.bind_some] at h
    split at h
    ·rename_i n0 m0 hln hcp
     obtain ⟨n, rfl⟩ : ∃ n : Int, n = n0 := ⟨n0, rfl⟩
     obtain ⟨m, rfl⟩ : ∃ m : Int, m = m0 := ⟨m0, rfl⟩
     replace h : Rdr.run σ (Rdr.test (eqI n m && z3B b n) (newF d e r (repI n (yZ r))) Rdr.fail) = some (x, ws) := h
     simp only [Rdr.run] at h
     cases hb : (eqI n m && z3B b n) with
     | false => rw [hb] at h; cases h
     | true =>
      simp only [hb, cond] at h
      simp only [eqI, Bool.and_eq_true, beq_iff_eq] at hb
      obtain ⟨rfl, hroom⟩ := hb
      have e1 := (hr.ev ha ln).1
      have e2 := (hr.ev ha cp).1
      rw [hln] at e1
      rw [hcp] at e2
      exact zsm hT hr rfl hd he (yE (k := .i64) (n := n) e1) (yE (k := .i64) (n := n) e2) hroom h
    ·exact (zJ h).elim
   ·exact (zJ h).elim
  ·exact (zJ h).elim
 ·-- append
  rename_i args ts
  split at h
  ·rename_i d p y ty tz hargs hts
   split at h
   ·rename_i e c' b' rt hd
    split at h
    ·rename_i k c b r he
     simp only [Rdr.run_bind, Zp, Option.bind_some] at h
     have e1 := z5p hargs
     have e2 := z5p hts
     subst e1 e2
     split at h
     ·rename_i htt
      subst htt
      simp only [Rdr.run_bind, Option.bind_eq_some_iff] at h
      obtain ⟨new, h1, h2⟩ := h
      obtain ⟨v', w', h3, h4⟩ := zl4 (tt := ty') hT hr (hT.sl ty _ e hd rfl).1 he (hr.ev ha p).2 h1 h2 (hr.ev ha p).1 (hr.ev ha y).1
      refine .inl ⟨v', w', ?_, h4⟩
      simp [execOp, resolve, invoke, builtin, h3]
     ·obtain ⟨v', w', h3, h4⟩ := zso (tt := ty') hT hr (hT.sl ty _ e hd rfl).1 he (hr.ev ha p).2 h (hr.ev ha p).1 (hr.ev ha y).1
      refine .inl ⟨v', w', ?_, h4⟩
      simp [execOp, resolve, invoke, builtin, h3]
    ·exact (zJ h).elim
   ·exact (zJ h).elim
  ·exact (zJ h).elim
 ·-- a call
  rename_i g args ts
  simp only [Rdr.run_bind, Zp, Option.bind_some] at h
  split at h
  ·rename_i f caps hg
   split at h
   ·rename_i sp d hsp
    simp only [Rdr.run_bind, zhR, Option.bind_some, Option.bind_eq_some_iff] at h
    obtain ⟨u, h1, h2⟩ := h
    obtain ⟨cs, hq, hvals⟩ := zoE hr ha hg h1
    obtain ⟨hbody, hcall⟩ := hΓ f sp hsp
    refine .inr (.inr ⟨f, args.map a.eval ++ cs, ?_, hcall B X w0 S0 pa E σ tm _ _ _ _ _ hr h2 (hvals args)⟩)
    simp only [execOp, resolve, hq, Deferred.ofValue, Sem.run_bind, Sem.run_pure, Result.andThen_ok, invoke, Array.empty_append]
    exact zbi hbody _
   ·exact (zJ h).elim
  ·exact (zJ h).elim
 ·-- clear
  rename_i args ts
  split at h
  ·rename_i p ty hargs hts
   split at h
   ·rename_i e c' b' rt hd
    split at h
    ·rename_i k c b r he
     simp only [Rdr.run_bind, Zp, Option.bind_some, Option.bind_eq_some_iff, Rdr.run, Option.some.injEq] at h
     obtain ⟨w, h1, h2⟩ := h
     cases h2
     have e1 := z5o hargs
     have e2 := z5o hts
     subst e1 e2
     obtain ⟨v', w', h3, E', h4, h5⟩ := znG (tt := ty') hT hr (hT.sl ty _ e hd rfl).1 he h1 (hr.ev ha p).1
     refine .inl ⟨v', w', ?_, E', h4, h5, ?_, trivial⟩
     ·simp [execOp, resolve, invoke, builtin, h3]
     ·exact .any _
    ·exact (zJ h).elim
   ·exact (zJ h).elim
  ·exact (zJ h).elim
 ·-- copy
  rename_i args ts
  split at h
  ·rename_i p y ty tz hargs hts
   split at h
   ·rename_i e c' b' rt hd
    split at h
    ·rename_i k c b r he
     simp only [Rdr.run_bind, Zp, Option.bind_some, Option.bind_eq_some_iff] at h
     have e1 := z5p hargs
     have e2 := z5p hts
     subst e1 e2
     obtain ⟨new, h1, h⟩ := h
     split at h
     ·rename_i htt
      subst htt
      obtain ⟨hsz', _⟩ := hT.rt _ _ _ he rfl
      obtain ⟨hc1, _, _⟩ := hT.c _ _ he
      have hsz : r.size = P.cellsOf e := by rw [hc1]; exact hsz'
      obtain ⟨v', w', h3, h4⟩ := zpz (tz := ty) (tt := ty') hT hr (hT.sl ty _ e hd rfl).1 he h (hr.ev ha p).1 (z9E hr hsz h1 (hr.ev ha y).1)
      refine .inl ⟨v', w', ?_, h4⟩
      simp [execOp, resolve, invoke, builtin, h3]
     ·exact (zJ h).elim
    ·exact (zJ h).elim
   ·exact (zJ h).elim
  ·exact (zJ h).elim
 ·-- a part
  rename_i t p lo hi
  simp only [Rdr.run_bind, Zp, Option.bind_some] at h
  split at h
  ·rename_i hp
   simp only [Rdr.run_bind, ziF, Option.bind_some, zqx] at h
   have e1 := (hr.ev ha p).1
   rw [hp] at e1
   replace e1 : VR P E (a.eval p) .nils := e1
   have hpv : a.eval p = .slice none 0 0 := by generalize a.eval p = q at e1; cases e1; rfl
   have fin : ∀ {e : TypeId} {c b : Nat} {rt : Option RT}, T t = some ⟨.sl e, c, b, rt⟩ → Yp (lo.map (evS σ)) = some none → vU P E.w 0 0 (hi.map a.eval) → some (RV.nils, ([] : Ws)) = some (x, ws) →
     Does P a { dst, op := .slice t p lo hi none, type := ty', pos, after, guard } E.w (Yb P B X w0 S0 pa tm (σ.puts ws) x) := by
    intro e c b rt hd hlo hhi hx
    cases hx
    have hlo' : lo = none := by
     cases lo with
     | none => rfl
     | some l =>
      exfalso
      simp only [Option.map_some] at hlo
      unfold Yp at hlo
      split at hlo <;> simp at *
    subst hlo'
    obtain ⟨hu, hi'⟩ := hT.sl t _ e hd rfl
    refine .inl ⟨.slice none 0 0, E.w, ?_, hr.after .nils trivial⟩
    have := zl7 (P := P) (w := E.w) (lo := none) (hi := hi.map a.eval) hu hi' (.inl ⟨rfl, rfl⟩) hhi
    simp only [execOp, hpv, Option.map_none, Sem.run_bind, this, Result.andThen_ok, Sem.run_pure]
   split at h
   ·rename_i e c b rt hd hlo hhi
    refine fin hd hlo ?_ h
    cases hi with
    | none => exact .inl ⟨rfl, rfl⟩
    | some l =>
     exfalso
     simp only [Option.map_some] at hhi
     unfold Yp at hhi
     split at hhi <;> simp at *
   ·rename_i e c b rt b0 hd hlo hhi
    simp only [Rdr.run] at h
    cases hb : eqI b0 0 with
    | false => rw [hb] at h; cases h
    | true =>
     simp only [hb, cond] at h
     have hb0 : b0 = 0 := by simpa [eqI] using hb
     refine fin hd hlo ?_ h
     cases hi with
     | none => simp [Yp] at hhi
     | some l =>
      simp only [Option.map_some] at hhi ⊢
      unfold Yp at hhi
      split at hhi
      ·rename_i hq; cases hq
      ·rename_i k n hq
       simp only [Option.some.injEq] at hq hhi
       have e2 := (hr.ev ha l).1
       rw [hq] at e2
       have hnb : n = b0 := by cases hhi; rfl
       exact zpA (k := k) (b := n) e2 (hnb.trans hb0)
      ·cases hhi
   ·exact (zJ h).elim
  ·simp only [Rdr.run_bind, Option.bind_eq_some_iff, Rdr.run, Option.some.injEq] at h
   obtain ⟨y, h1, h2⟩ := h
   cases h2
   exact rd h1
 ·-- a conversion
  rename_i src dst' p
  split at h
  ·rename_i e _ _ _ _ _ _ hds hdd
   split at h
   ·rename_i hde
    simp only [Rdr.run_bind, Zp, Option.bind_some, Option.bind_eq_some_iff, Rdr.run, Option.some.injEq] at h
    obtain ⟨rows, h1, h2⟩ := h
    cases h2
    have hsz : (1 : Nat) = P.cellsOf e := by have h3 := (hT.rt _ _ _ hde rfl).1; have h4 := (hT.c _ _ hde).1; rw [h4]; exact h3
    have hl := z9E hr (r := u8R) hsz h1 (hr.ev ha p).1
    refine .inl ⟨_, E.w, ?_, hr.after (x := .d .str (strB rows)) (.c _ _ (.str _)) trivial⟩
    have := zu4 (hT.sl _ _ _ hds rfl).1 (hT.int _ _ _ hde rfl) (hT.str _ _ hdd rfl) hl
    simp only [execOp]
    exact z35 this
   ·exact (zJ h).elim
  ·rename_i _ _ _ e _ _ _ hds hdd
   split at h
   ·rename_i hde
    simp only [Rdr.run_bind, Zp, Option.bind_some] at h
    split at h
    ·rename_i s hp
     cases h
     have hv := (hr.ev ha p).1
     rw [hp] at hv
     have hcell : P.cellsOf e = 1 := by have h3 := (hT.rt _ _ _ hde rfl).1; have h4 := (hT.c _ _ hde).1; rw [h4]; exact h3.symm
     obtain ⟨v', w', h1, h2⟩ := zu5 hr (hT.str _ _ hds rfl) (hT.sl _ _ _ hdd rfl).1 (hT.int _ _ _ hde rfl) hcell s
     refine .inl ⟨v', w', ?_, h2⟩
     have he : a.eval p = .string ⟨List.toArray s⟩ := YO hv
     simp only [execOp, he]
     exact zl8 h1
    ·exact (zJ h).elim
   ·exact (zJ h).elim
  ·simp only [Rdr.run_bind, Option.bind_eq_some_iff, Rdr.run, Option.some.injEq] at h
   obtain ⟨y, h1, h2⟩ := h
   cases h2
   exact rd h1
 ·simp only [Rdr.run_bind, Option.bind_eq_some_iff, Rdr.run, Option.some.injEq] at h
  obtain ⟨y, h1, h2⟩ := h
  cases h2
  exact rd h1
/-! ### Nothing, held against a slice -/
theorem zqO (hr : RelE P B X w0 S0 pa E tm σ) {x : RV} {q : Option Bool} (h : Rdr.run σ (nilR x) = some q) {v : Value} (hv : VR P E v (av3 σ.H x)) : ∃ a n c, v = .slice a n c ∧ ∀ b, q = some b → a.isNone = b := by
 have lies : ∀ {r : RT} {rows : List (DenR r)}, Lies P E r rows v → (isE rows = false → q = some false) → (isE rows = true → q = none) → ∃ a n c, v = .slice a n c ∧ ∀ b, q = some b → a.isNone = b := by
  rintro r rows ⟨a, c, rfl, _, hne⟩ h1 h2
  refine ⟨a, _, c, rfl, fun b hb => ?_⟩
  cases he : isE rows with
  | true => rw [h2 he] at hb; cases hb
  | false =>
   rw [h1 he] at hb; cases hb
   obtain ⟨b, off, rfl, _⟩ := hne (by intro h0; subst h0; cases he)
   rfl
 unfold nilR at h
 split at h
 ·cases h
  replace hv : VR P E v .nils := hv
  cases hv
  exact ⟨none, 0, 0, rfl, fun b hb => by cases hb; rfl⟩
 ·rename_i e r rows
  replace h : Rdr.run σ (Rdr.test (isE (α := DenR r) rows) (.ret none) (.ret (some false))) = some q := h
  have hd := jy (x := .sl e (rw' r rows)) hv
  obtain ⟨a, c, rfl, hc⟩ := hd.slice
  refine ⟨a, _, c, rfl, fun b hb => ?_⟩
  cases he : isE (α := DenR r) rows with
  | true => simp only [Rdr.run, he, cond] at h; cases h; cases hb
  | false =>
   simp only [Rdr.run, he, cond] at h; cases h; cases hb
   have hne : rw' r rows ≠ [] := by
    intro h0
    have : rows = [] := List.map_eq_nil_iff.1 h0
    subst this; cases he
   obtain ⟨b, off, cap, vs, h1, _⟩ := hd.cells hne
   cases h1; rfl
 ·rename_i l g e
  simp only [Rdr.run, KS.lk, Sl.hd!] at h
  split at h
  ·rename_i g' fr e' r rows hH
   split at h
   ·rename_i hc
    obtain ⟨rfl, rfl⟩ := hc
    simp only [Rdr.run] at h
    have hsz : r.size = P.cellsOf e := by have := hr.hd l; rw [hH] at this; exact this
    have hl : Lies P E r rows v := by
     cases fr with
     | true =>
      have hx' : av3 σ.H (.arw l g e) = .c (.sl e (rw' r rows)) := by show avW σ.H l g e = _; simp [avW, hH, rw']
      rw [hx'] at hv; exact z7i hsz hv
     | false =>
      have hx' : av3 σ.H (.arw l g e) = .arr l (0 * r.size) rows.length rows.length e := by show avW σ.H l g e = _; simp [avW, hH]
      rw [hx'] at hv
      have := z5F hr hH (off := 0) (len := rows.length) (by omega) hv
      rw [List.drop_zero, List.take_length] at this; exact this
    refine lies hl (fun he => ?_) (fun he => ?_)
    ·simp only [he, cond, Rdr.run] at h; cases h; rfl
    ·simp only [he, cond, Rdr.run] at h; cases h; rfl
   ·cases h
  ·cases h
 ·cases h
end
end Go.Kx
namespace Go.Kx
open Go.Rb
/-! ### What is not written -/
def cz (k : Key) (s : Sl) : Sl := match k with | .H _ => .hd s.hd! | _ => .rv s.rv!
theorem zoF (σ : KS) (k : Key) (s : Sl) (k' : Key) : (σ.put k s).lk k' = bif k'.beq k then cz k s else σ.lk k' := by
 cases k with
 | T i => cases k' with
  | T j => simp only [KS.put, KS.lk, Key.beq, cz]; cases Nat.beq j i <;> rfl
  | H j => rfl
  | C a b => rfl
 | H i => cases k' with
  | T j => rfl
  | H j => simp only [KS.put, KS.lk, Key.beq, cz]; cases Nat.beq j i <;> rfl
  | C a b => rfl
 | C l j => cases k' with
  | T j => rfl
  | H j => rfl
  | C a b => simp only [KS.put, KS.lk, Key.beq, cz]; cases (Nat.beq a l && Nat.beq b j) <;> rfl
theorem zuV {a b : Key} (h : a ≠ b) : a.beq b = false := by
 cases hb : a.beq b with
 | false => rfl
 | true => exact absurd ((Key.beq_iff a b).1 hb) h
theorem zbj {σ : KS} {k k' : Key} {s : Sl} (h : k' ≠ k) : (σ.put k s).lk k' = σ.lk k' := by rw [zoF, zuV h]; rfl
theorem z3F {σ : KS} {k : Key} {s : Sl} : (σ.put k s).lk k = cz k s := by rw [zoF, (Key.beq_iff k k).2 rfl]; rfl
theorem yT : ∀ {ws : Ws} {σ : KS} {k : Key}, k ∉ Z5 ws → (σ.puts ws).lk k = σ.lk k
 | [], _, _, _ => rfl
 | (a, s) :: ws, σ, k, h => by
  simp only [Z5, List.mem_cons, not_or] at h
  show ((σ.put a s).puts ws).lk k = _
  rw [yT h.2, zbj h.1]
theorem KS.ext' {σ σ' : KS} (h : ∀ k, σ'.lk k = σ.lk k) : σ' = σ := by
 have h1 : σ'.T = σ.T := funext fun i => by have := h (.T i); simpa [KS.lk] using this
 have h2 : σ'.H = σ.H := funext fun i => by have := h (.H i); simpa [KS.lk] using this
 have h3 : σ'.C = σ.C := funext fun i => funext fun j => by have := h (.C i j); simpa [KS.lk] using this
 obtain ⟨a, b, c⟩ := σ
 obtain ⟨a', b', c'⟩ := σ'
 simp only at h1 h2 h3
 rw [h1, h2, h3]
theorem zg0 {σ : KS} {d : Nat} {x : RV} (h : σ.T d = x) : σ.put (.T d) (.rv x) = σ := by
 refine KS.ext' fun k => ?_
 by_cases hk : k = .T d
 ·subst hk; rw [z3F]; simp [cz, KS.lk, Sl.rv!, h]
 ·rw [zbj hk]
theorem natIn_iff {i : Nat} : ∀ {L : List Nat}, natIn i L = true ↔ i ∈ L
 | [] => by simp [natIn]
 | x :: L => by simp [natIn, natIn_iff (L := L), nbeq]
structure Fm (W : List Nat) (D D' : List Key) (σ σ' : KS) : Prop where
 T : ∀ i, i ∉ W → σ'.T i = σ.T i
 H : ∀ l, Key.H l ∉ D' → σ'.H l = σ.H l
 C : ∀ l j, Key.C l j ∉ D' → σ'.C l j = σ.C l j
 D : ∀ k, k ∈ D → k ∈ D'
theorem Fm.refl (W : List Nat) (D : List Key) (σ : KS) : Fm W D D σ σ := ⟨fun _ _ => rfl, fun _ _ => rfl, fun _ _ _ => rfl, fun _ h => h⟩
theorem Fm.trans {W : List Nat} {D D1 D2 : List Key} {σ σ1 σ2 : KS} (h : Fm W D D1 σ σ1) (k : Fm W D1 D2 σ1 σ2) : Fm W D D2 σ σ2 :=
 ⟨fun i hi => (k.T i hi).trans (h.T i hi), fun l hl => (k.H l hl).trans (h.H l fun h' => hl (k.D _ h')), fun l j hl => (k.C l j hl).trans (h.C l j fun h' => hl (k.D _ h')), fun x hx => k.D _ (h.D _ hx)⟩
theorem Fm.mono {W W' : List Nat} {D D' : List Key} {σ σ' : KS} (h : Fm W D D' σ σ') (hW : ∀ i, i ∈ W → i ∈ W') : Fm W' D D' σ σ' := ⟨fun i hi => h.T i fun h' => hi (hW i h'), h.H, h.C, h.D⟩
theorem z7j : ∀ a b : Ws, Z5 (a ++ b) = Z5 a ++ Z5 b
 | [], _ => rfl
 | _ :: a, b => by simp [Z5, z7j a b]
theorem jC : ∀ a b : Ws, yR (a ++ b) = yR a ++ yR b
 | [], _ => rfl
 | (.T _, _) :: a, b => jC a b
 | (.H _, _) :: a, b => by simp [yR, jC a b]
 | (.C _ _, _) :: a, b => by simp [yR, jC a b]
theorem z3Q : ∀ {ws : Ws} {k : Key}, k ∈ Z5 ws → (∀ i, k ≠ .T i) → k ∈ yR ws
 | [], _, h, _ => by cases h
 | (a, s) :: ws, k, h, hn => by
  simp only [Z5, List.mem_cons] at h
  rcases h with rfl | h
  ·cases k with
   | T i => exact absurd rfl (hn i)
   | H i => exact List.mem_cons_self
   | C a b => exact List.mem_cons_self
  ·have := z3Q h hn
   cases a with
   | T i => exact this
   | H i => exact List.mem_cons_of_mem _ this
   | C a b => exact List.mem_cons_of_mem _ this
theorem z5G : ∀ {ws : Ws} {L : List Nat} {i : Nat}, tsub L ws = true → Key.T i ∈ Z5 ws → i ∈ L
 | [], _, _, _, h => by cases h
 | (a, s) :: ws, L, i, h, hm => by
  simp only [Z5, List.mem_cons] at hm
  cases a with
  | T j =>
   simp only [tsub, Bool.and_eq_true] at h
   rcases hm with hm | hm
   ·cases hm; exact natIn_iff.1 h.1
   ·exact z5G h.2 hm
  | H j => rcases hm with hm | hm; cases hm; exact z5G (ws := ws) (show tsub L ws = true from h) hm
  | C a b => rcases hm with hm | hm; cases hm; exact z5G (ws := ws) (show tsub L ws = true from h) hm
theorem zdE {ws : Ws} {W : List Nat} {D : List Key} {σ : KS} (h : ∀ i, Key.T i ∈ Z5 ws → i ∈ W) : Fm W D (yR ws ++ D) σ (σ.puts ws) := by
 refine ⟨fun i hi => ?_, fun l hl => ?_, fun l j hl => ?_, fun k hk => List.mem_append_right _ hk⟩
 ·have := yT (σ := σ) (k := .T i) fun h' => hi (h i h')
  simpa [KS.lk] using this
 ·have := yT (σ := σ) (k := .H l) fun h' => hl (List.mem_append_left _ (z3Q h' (by simp)))
  simpa [KS.lk] using this
 ·have := yT (σ := σ) (k := .C l j) fun h' => hl (List.mem_append_left _ (z3Q h' (by simp)))
  simpa [KS.lk] using this
/-! ### Activations -/
def RelA (P : Program) (B : Nat) (X : Nat → Prop) (w0 : World) (S0 : Nat → Nat → Prop) (pa : List ((Nat → Value) × (Nat → RV))) (n : Nat) (a : Act) (w : World) (σ : KS) : Prop :=
 ∃ E : Env, E.w = w ∧ RelE P B X w0 S0 pa E (fun i => a.tmps.getD i undef) σ ∧ a.defers = [] ∧ a.tmps.size = n
def Jp (n : Nat) (o : Oper) : Bool := match o.dst with | some d => decide (d < n) | none => true
def dstL (o : Oper) : List Nat := match o.dst with | some d => [d] | none => []
def CSOK (P : Program) (f : FuncId) (cs : List RV → (α : Type) → KS → List Key → (RV → KS → List Key → Option α) → Option α) : Prop :=
 yv P f ∧ ∀ (B : Nat) (X : Nat → Prop) (w0 : World) (S0 : Nat → Nat → Prop) (pa : List ((Nat → Value) × (Nat → RV))) (E : Env) (σ : KS) (tm : Nat → Value) (xs : List RV) (vs : Array Value) (α : Type) (D : List Key)
  (K : RV → KS → List Key → Option α) (r : α) (post : Value → World → Prop),
  RelE P B X w0 S0 pa E tm σ → Vals P E σ vs xs → cs xs α σ D K = some r →
  (∀ rv σ' D' E' v, RelE P B X w0 S0 pa E' tm σ' → Fm [] D D' σ σ' → VR P E' v (av3 σ'.H rv) → ok3 σ'.H rv → K rv σ' D' = some r → post v E'.w) → Calls P f vs E.w fun e w' => ∃ v, e = .returned v ∧ post v w'
structure ΓOK (P : Program) (Γ : FuncId → Option GS) : Prop where
 r : ∀ f sp, Γ f = some (.r sp) → YX P f sp
 c : ∀ f cs, Γ f = some (.c cs) → CSOK P f cs
section
variable {P : Program} {T : TT} {Γ : FuncId → Option GS} {B : Nat} {X : Nat → Prop} {w0 : World} {S0 : Nat → Nat → Prop} {pa : List ((Nat → Value) × (Nat → RV))} {n : Nat} {σ : KS} {a : Act} {w : World} {α : Type} {r : α}
theorem zhW {d : Nat} {v : Value} (hd : d < a.tmps.size) : (fun i => (a.put (some d) v).tmps.getD i undef) = updV (fun i => a.tmps.getD i undef) d v := by
 funext i
 simp only [Act.put, updV]
 by_cases h : i = d
 ·subst h; simp [Array.getD, hd]
 ·rw [if_neg h]; simp only [Array.getD_eq_getD_getElem?, Array.getElem?_setIfInBounds_ne (Ne.symm h)]
theorem VE {E : Env} {dst : Option Nat} {x : RV} {v : Value} (hr : RelE P B X w0 S0 pa E (fun i => a.tmps.getD i undef) σ) (hde : a.defers = []) (hn : a.tmps.size = n) (hd : ∀ d, dst = some d → d < n) (hv : VR P E v (av3 σ.H x)) (hx : ok3 σ.H x) :
  RelA P B X w0 S0 pa n (a.put dst v) E.w (putD σ dst x) := by
 cases dst with
 | none => exact ⟨E, rfl, hr, hde, hn⟩
 | some d =>
  have hlt : d < a.tmps.size := by rw [hn]; exact hd d rfl
  refine ⟨E, rfl, ?_, by simp [Act.put, hde], by simp [Act.put, hn]⟩
  rw [zhW hlt]
  exact hr.putT hv hx
theorem zg1 {o : Oper} (hd : Jp n o = true) : ∀ d, o.dst = some d → d < n := by
 intro d h; rw [Jp, h] at hd; simpa using hd
theorem zbk {o : Oper} {ws : Ws} (h : Rdr.run σ (z1V T Γ o) = some ws) : ∃ x w1, Rdr.run σ (opR T Γ o.dst o.op) = some (x, w1) ∧ tsub [] w1 = true ∧ σ.puts ws = putD (σ.puts w1) o.dst x ∧ (∀ i, Key.T i ∈ Z5 ws → i ∈ dstL o) ∧ yR ws = yR w1 := by
 unfold z1V at h
 simp only [Rdr.run_bind, Option.bind_eq_some_iff] at h
 obtain ⟨⟨x, w1⟩, h1, h2⟩ := h
 have hts : ∀ i, Key.T i ∈ Z5 w1 → tsub [] w1 = true → False := fun i hi ht => by have := z5G ht hi; cases this
 cases ht : tsub [] w1 with
 | false => simp only [ht] at h2; cases h2
 | true =>
  simp only [ht, if_true] at h2
  refine ⟨x, w1, h1, ht, ?_⟩
  cases hd : o.dst with
  | none =>
   rw [hd] at h2
   cases h2
   exact ⟨rfl, fun i hi => (hts i hi ht).elim, rfl⟩
  | some d =>
   rw [hd] at h2
   cases h2
   refine ⟨by rw [Yf]; rfl, fun i hi => ?_, by rw [jC]; simp [yR]⟩
   rw [z7j, List.mem_append] at hi
   rcases hi with hi | hi
   ·exact (hts i hi ht).elim
   ·simp only [Z5, List.mem_singleton] at hi
    cases hi; simp [dstL, hd]
theorem zoG (hT : TOK P T) (hΓ : ΓOK P Γ) (hr : RelA P B X w0 S0 pa n a w σ) {o : Oper} {ws : Ws} (h : Rdr.run σ (z1V T Γ o) = some ws) (hd : Jp n o = true) {K : Act → World → Prop} {Q : Exit → Act → World → Prop}
  (hK : ∀ a' w', RelA P B X w0 S0 pa n a' w' (σ.puts ws) → K a' w') : o.wp P a w K Q := by
 obtain ⟨E, rfl, hr, hde, hn⟩ := hr
 obtain ⟨x, w1, h1, _, h2, _, _⟩ := zbk h
 refine (zqN hT hΓ.r hr rfl h1).wp fun v w' ⟨E', h3, h4, h5, h6⟩ => hK _ _ ?_
 subst h3
 rw [h2]
 exact VE h4 hde hn (zg1 hd) h5 h6
theorem zl9 (hr : RelA P B X w0 S0 pa n a w σ) {o : Oper} (hd : Jp n o = true) : RelA P B X w0 S0 pa n (a.put o.dst undef) w (σ.puts (YT o)) := by
 obtain ⟨E, rfl, hr, hde, hn⟩ := hr
 have : σ.puts (YT o) = putD σ o.dst .und := by unfold YT; cases o.dst <;> rfl
 rw [this]
 exact VE hr hde hn (zg1 hd) .und trivial
theorem skip_keys {o : Oper} : (∀ i, Key.T i ∈ Z5 (YT o) → i ∈ dstL o) ∧ yR (YT o) = [] := by
 unfold YT dstL
 cases o.dst with
 | none => simp [Z5, yR]
 | some d => simp [Z5, yR]
def Yq (ops : Array Oper) (σ : KS) (o : Oper) : Option Bool :=
 match z1W ops σ o with
 | .run => some true
 | .skip => some false
 | .on _ b want => some (b == want)
 | .stuck => none
theorem z7k {ops : Array Oper} {o : Oper} {d : Nat} {b want : Bool} (h : z1W ops σ o = .on d b want) : σ.T d = .d .bool b ∧ σ.pin (.tmp d) b = σ ∧ Key.T d ∈ vt ops o := by
 unfold z1W at h
 split at h
 ·cases h
 ·rename_i j wn hg
  split at h
  ·cases h
  ·rename_i d' hd
   split at h
   ·rename_i b' hb
    cases h
    exact ⟨hb, zg0 hb, by simp [vt, hg, hd]⟩
   ·cases h
   ·cases h
theorem z1Z {E : Env} {tm : Nat → Value} (hr : RelE P B X w0 S0 pa E tm σ) (ha : tm = fun i => a.tmps.getD i undef) {ops : Array Oper} {o : Oper} {b : Bool} (h : Yq ops σ o = some b) : Region.wanted o (yielded ops a.tmps) = b := by
 unfold Yq z1W at h
 unfold Region.wanted
 cases hg : o.guard with
 | none => simp only [hg] at h; cases h; rfl
 | some g =>
  obtain ⟨j, want⟩ := g
  simp only [hg] at h ⊢
  unfold yielded
  cases hd : (ops[j]?).bind (·.dst) with
  | none => simp only [hd] at h; cases h; simp [hd]
  | some d =>
   simp only [hd, Option.bind_some] at h ⊢
   have hv := hr.t d
   rw [ha] at hv
   simp only at hv
   cases hq : σ.T d with
   | d c y =>
    cases c with
    | bool =>
     simp only [hq] at h
     obtain ⟨y, rfl⟩ : ∃ y' : Bool, y' = y := ⟨y, rfl⟩
     rw [hq] at hv
     have hv' := z34 (b := y) hv
     have : a.tmps[d]? = some (.bool y) := by
      simp only [Array.getD_eq_getD_getElem?] at hv'
      cases hq' : a.tmps[d]? with
      | none => simp [hq', undef] at hv'
      | some q => simp [hq'] at hv'; rw [hv']
     simp only [this]
     simpa using h
    | _ => simp only [hq] at h; cases h
   | und =>
    simp only [hq] at h
    cases h
    rw [hq] at hv
    replace hv : VR P E _ .und := hv
    cases hq' : a.tmps[d]? with
    | none => simp
    | some q =>
     simp only [Array.getD_eq_getD_getElem?, hq', Option.getD_some] at hv
     have : q = undef := by generalize q = u at hv; cases hv; rfl
     simp [this, undef]
   | _ => simp only [hq] at h; cases h
theorem zqP {x y : Option α} (h : ambO x y = some r) : x = some r ∧ y = some r := by
 unfold ambO at h
 split at h
 ·rename_i he; exact ⟨h, he ▸ h⟩
 ·cases h
theorem YP {β : Type} {p : Rdr β} {K : β → Option α} (h : Rdr.runK σ p K = some r) : ∃ x, Rdr.run σ p = some x ∧ K x = some r := by
 rw [Rdr.runK_eq] at h
 exact Option.bind_eq_some_iff.1 h
theorem zoH {o : Oper} {x : RV} {D : List Key} : Fm (dstL o) D D σ (putD σ o.dst x) := by
 unfold dstL putD
 cases o.dst with
 | none => exact .refl _ _ _
 | some d => exact ⟨fun i hi => by rw [zdy, if_neg (by simpa using hi)], fun _ _ => rfl, fun _ _ _ => rfl, fun _ h => h⟩
theorem zqQ (hT : TOK P T) (hΓ : ΓOK P Γ) (hr : RelA P B X w0 S0 pa n a w σ) {o : Oper} {D : List Key} {K : KS → List Key → Option α} (h : opK T Γ σ D o K = some r) (hd : Jp n o = true) {K' : Act → World → Prop} {Q : Exit → Act → World → Prop}
  (hK : ∀ σ' D' a' w', RelA P B X w0 S0 pa n a' w' σ' → Fm (dstL o) D D' σ σ' → K σ' D' = some r → K' a' w') : o.wp P a w K' Q := by
 have plain : zbd T Γ σ D o K = some r → o.wp P a w K' Q := by
  intro h
  obtain ⟨ws, h1, h2⟩ := YP h
  obtain ⟨_, _, _, _, _, h3, _⟩ := zbk h1
  exact zoG hT hΓ hr h1 hd fun a' w' hr' => hK _ _ a' w' hr' (zdE h3) h2
 unfold opK at h
 split at h
 ·rename_i bo t x y q hop
  split at h
  ·rename_i sg d e c b rt hy hbo hdst hd'
   obtain ⟨q', h1, h2⟩ := YP h
   obtain ⟨E, rfl, hre, hde, hn⟩ := hr
   have hxv := (hre.ev rfl x).1
   have hyv := (hre.ev rfl y).1
   rw [hy] at hyv
   replace hyv : VR P E (a.eval y) .nils := hyv
   have hyv' : a.eval y = .slice none 0 0 := by generalize a.eval y = u at hyv; cases hyv; rfl
   obtain ⟨ad, m, cc, hxe, hb⟩ := zqO hre h1 hxv
   have hu := (hT.sl t _ e hd' rfl).1
   have hbo' : (bo = .eql ∧ sg = true) ∨ (bo = .neq ∧ sg = false) := by
    unfold isEq at hbo
    split at hbo
    ·cases hbo; exact .inl ⟨rfl, rfl⟩
    ·cases hbo; exact .inr ⟨rfl, rfl⟩
    ·cases hbo
   have hrun := zpw (P := P) (w := E.w) (x := x) (y := y) (a := ad) (k := m) (c := cc) (op := bo) (by rcases hbo' with h | h; exact .inl h.1; exact .inr h.1) hu
   have fin : ∀ bv : Bool, (if bo = .eql then ad.isNone else !ad.isNone) = bv → K (putB σ d bv) D = some r → o.wp P a E.w K' Q := by
    intro bv hbv hk
    have hdoes : Does P a o E.w (fun v w' => v = .bool bv ∧ w' = E.w) := by
     refine .inl ⟨_, _, ?_, rfl, rfl⟩
     obtain ⟨dst, op, ty, pos, after, guard⟩ := o
     simp only at hop
     subst hop
     rw [← hxe, ← hyv', hbv] at hrun
     exact z35 hrun
    refine hdoes.wp ?_
    rintro v w' ⟨rfl, rfl⟩
    have := VE (dst := o.dst) (x := .d .bool bv) (v := .bool bv) hre hde hn (zg1 hd) (.c _ _ (.bool _)) trivial
    rw [hdst] at this ⊢
    refine hK _ D _ _ this ?_ hk
    have h9 := zoH (σ := σ) (o := o) (x := .d .bool bv) (D := D)
    rw [hdst] at h9
    exact h9
   split at h2
   ·rename_i b0
    refine fin (b0 == sg) ?_ h2
    have := hb b0 rfl
    rcases hbo' with ⟨rfl, rfl⟩ | ⟨rfl, rfl⟩
    ·rw [if_pos rfl, this]; cases b0 <;> rfl
    ·rw [if_neg (by simp), this]; cases b0 <;> rfl
   ·obtain ⟨h3, h4⟩ := zqP h2
    cases hv : (if bo = .eql then ad.isNone else !ad.isNone) with
    | true => exact fin true hv h3
    | false => exact fin false hv h4
  ·exact plain h
 ·rename_i g args ts hop
  split at h
  ·rename_i f caps hg
   split at h
   ·rename_i cs hcs
    obtain ⟨u, h1, h2⟩ := YP h
    obtain ⟨E, rfl, hre, hde, hn⟩ := hr
    obtain ⟨vs, hq, hvals⟩ := zoE hre rfl hg h1
    obtain ⟨hbody, hcall⟩ := hΓ.c f cs hcs
    have hc := hcall B X w0 S0 pa E σ _ _ _ α D _ r (fun v w' => K' (a.put o.dst v) w') hre (hvals args) h2 (fun rv σ' D' E' v h3 h4 h5 h6 h7 =>
     hK _ D' _ _ (VE h3 hde hn (zg1 hd) h5 h6) ((h4.mono fun i hi => by cases hi).trans zoH) h7)
    have hdoes : Does P a o E.w (fun v w' => K' (a.put o.dst v) w') := by
     refine .inr (.inr ⟨f, args.map a.eval ++ vs, ?_, hc⟩)
     obtain ⟨dst, op, ty, pos, after, guard⟩ := o
     simp only at hop
     subst hop
     simp only [execOp, resolve, hq, Deferred.ofValue, Sem.run_bind, Sem.run_pure, Result.andThen_ok, invoke, Array.empty_append]
     exact zbi hbody _
    exact hdoes.wp fun v w' h => h
   ·exact plain h
  ·exact plain h
 ·exact plain h
theorem zpC (hT : TOK P T) (hΓ : ΓOK P Γ) (hr : RelA P B X w0 S0 pa n a w σ) {ops : Array Oper} {o : Oper} {D : List Key} {K : KS → List Key → Option α} (h : evOp T Γ ops σ D o K = some r) (hd : Jp n o = true) {K' : Act → World → Prop} {Q : Exit → Act → World → Prop}
  (hK : ∀ σ' D' a' w', RelA P B X w0 S0 pa n a' w' σ' → Fm (dstL o) D D' σ σ' → K σ' D' = some r → K' a' w') : if Region.wanted o (yielded ops a.tmps) then o.wp P a w K' Q else K' (a.put o.dst undef) w := by
 have run : Yq ops σ o = some true → opK T Γ σ D o K = some r → if Region.wanted o (yielded ops a.tmps) then o.wp P a w K' Q else K' (a.put o.dst undef) w := by
  intro h1 h2
  have h3 : Region.wanted o (yielded ops a.tmps) = true := by obtain ⟨E, rfl, hre, _⟩ := hr; exact z1Z hre rfl h1
  rw [if_pos h3]
  exact zqQ hT hΓ hr h2 hd hK
 have skip : Yq ops σ o = some false → K (σ.puts (YT o)) D = some r → if Region.wanted o (yielded ops a.tmps) then o.wp P a w K' Q else K' (a.put o.dst undef) w := by
  intro h1 h2
  have h3 : Region.wanted o (yielded ops a.tmps) = false := by obtain ⟨E, rfl, hre, _⟩ := hr; exact z1Z hre rfl h1
  rw [h3, if_neg (by simp)]
  have h4 := zdE (ws := YT o) (W := dstL o) (D := D) (σ := σ) skip_keys.1
  rw [skip_keys.2] at h4
  exact hK _ _ _ _ (zl9 hr hd) h4 h2
 unfold evOp at h
 split at h
 ·rename_i hg; exact run (by simp [Yq, hg]) h
 ·rename_i hg; exact skip (by simp [Yq, hg]) h
 ·rename_i d b hg
  obtain ⟨hb, hpin, _⟩ := z7k hg
  cases b with
  | true => rw [hpin] at h; exact run (by simp [Yq, hg]) h
  | false => rw [hpin] at h; exact skip (by simp [Yq, hg]) h
 ·rename_i d b hg
  obtain ⟨hb, hpin, _⟩ := z7k hg
  cases b with
  | true => rw [hpin] at h; exact skip (by simp [Yq, hg]) h
  | false => rw [hpin] at h; exact run (by simp [Yq, hg]) h
 ·cases h
theorem z7X (hT : TOK P T) (hΓ : ΓOK P Γ) {ops : Array Oper} {K : KS → List Key → Option α} {Q : Exit → Act → World → Prop} {W : List Nat} : ∀ (l : List Oper) (σ : KS) (D : List Key) (a : Act) (w : World), l.all (Jp n) = true → (∀ i ∈ VB l, i ∈ W) → RelA P B X w0 S0 pa n a w σ →
  zkF T Γ ops l σ D K = some r → (∀ σ' D' a' w', RelA P B X w0 S0 pa n a' w' σ' → Fm W D D' σ σ' → K σ' D' = some r → Q .normal a' w') → wpList P ops Q l a w
 | [], σ, D, a, w, _, _, hr, h, hK => hK σ D a w hr (.refl _ _ _) h
 | o :: l, σ, D, a, w, hd, hW, hr, h, hK => by
  simp only [List.all_cons, Bool.and_eq_true] at hd
  have hWl : ∀ i ∈ VB l, i ∈ W := fun i hi => hW i (by unfold VB; split; exact List.mem_cons_of_mem _ hi; exact hi)
  have hWo : ∀ i ∈ dstL o, i ∈ W := by
   intro i hi
   refine hW i ?_
   unfold VB
   unfold dstL at hi
   split at hi
   ·rename_i d hdo; simp at hi; subst hi; simp [hdo]
   ·cases hi
  have := zpC (Q := Q) hT hΓ hr h hd.1 (K' := wpList P ops Q l) fun σ' D' a' w' hr' hf h' =>
   z7X hT hΓ l σ' D' a' w' hd.2 hWl hr' h' fun σ2 D2 a2 w2 hr2 hf2 h2 => hK σ2 D2 a2 w2 hr2 ((hf.mono hWo).trans hf2) h2
  unfold wpList
  split
  ·rename_i hw; rw [if_pos hw] at this; exact .inl this
  ·rename_i hw; rw [if_neg hw] at this; exact this
end
end Go.Kx
namespace Go.Kx
open Go.Rb
section
variable {P : Program} {w : World} {t kt et : TypeId}
def ent0 (k : Int) (s : ByteArray) (b : Nat) : MapEntry := { key := .int .i64 k, val := .string s, born := b }
def setB (w : World) (r : Nat) (o : Obj) : World := { w with heap := w.heap.setIfInBounds r o }
theorem zbl {r : Nat} {es : Array MapEntry} {c : Nat} (hb : w.heap[r]? = some (.map es c)) : (getObj r).run P w = .ok (.map es c) w := by simp [getObj, Sem.run, hb]
theorem ziI {r : Nat} {es : Array MapEntry} {c : Nat} (o : Obj) (hb : w.heap[r]? = some (.map es c)) : (setObj r o).run P w = .ok () (setB w r o) := by simp [setObj, Sem.run, hb, setB]
theorem zoI {r : Nat} {o o' : Obj} (hb : w.heap[r]? = some o') : (setB w r o).heap[r]? = some o := by
 have := (Array.getElem?_eq_some_iff.1 hb).1
 simp [setB, this]
theorem j9 (hk : P.underlying kt = some (.int .i64)) (e : Bool) (k : Int) : (Instr.checkKey e 10000 kt (.int .i64 k)).run P w = .ok () w := by
 rw [show (10000 : Nat) = 9999 + 1 from rfl]
 unfold Instr.checkKey
 simp only [Sem.run_bind, run_underlying hk, Result.andThen_ok, Sem.run_pure]
theorem z8I (hk : P.underlying kt = some (.int .i64)) (k : Int) (es : List MapEntry) (r : Option (Nat × Value)) (h : Instr.findNow (.int .i64) (.int .i64 k) es 0 = some r) : (Instr.findKey kt (.int .i64 k) es).run P w = .ok r w := by
 unfold Instr.findKey
 simp only [Sem.run_bind, run_underlying hk, Result.andThen_ok, h, Sem.run_pure]
theorem zu7 (ht : P.underlying t = some (.map kt et)) (hk : P.underlying kt = some (.int .i64)) {r : Nat} (hb : w.heap[r]? = some (.map #[] 0)) (k : Int) (s : ByteArray) :
  (Instr.mapUpdate t (.map (some r)) (.int .i64 k) (.string s)).run P w = .ok () (setB w r (.map #[ent0 k s 0] 1)) := by
 unfold Instr.mapUpdate
 simp only [Sem.run_bind, run_underlying ht, Result.andThen_ok, zbl hb, j9 hk, z8I (w := w) hk k [] none rfl, ziI _ hb]
 rfl
theorem zu8 (ht : P.underlying t = some (.map kt et)) (hk : P.underlying kt = some (.int .i64)) {r : Nat} {k1 k2 : Int} {s1 : ByteArray} (hb : w.heap[r]? = some (.map #[ent0 k1 s1 0] 1)) (hne : (k2 == k1) = false) (s2 : ByteArray) :
  (Instr.mapUpdate t (.map (some r)) (.int .i64 k2) (.string s2)).run P w = .ok () (setB w r (.map #[ent0 k1 s1 0, ent0 k2 s2 1] 2)) := by
 have hf : Instr.findNow (.int .i64) (.int .i64 k2) [ent0 k1 s1 0] 0 = some none := by
  simp [Instr.findNow, Instr.sameNow, ent0, hne]
 unfold Instr.mapUpdate
 simp only [Sem.run_bind, run_underlying ht, Result.andThen_ok, zbl hb, j9 hk, z8I (w := w) hk k2 [ent0 k1 s1 0] none hf, ziI _ hb]
 rfl
def mapA (k1 k2 : Int) (s1 s2 : ByteArray) (n : Int) : ByteArray := if n = k1 then s1 else if n = k2 then s2 else ⟨#[]⟩
theorem zu9 (ht : P.underlying t = some (.map kt et)) (hk : P.underlying kt = some (.int .i64)) (hz : ∃ i, P.info? et = some i ∧ i.zero = some (.string ⟨#[]⟩)) {r : Nat} {k1 k2 : Int} {s1 s2 : ByteArray} (hb : w.heap[r]? = some (.map #[ent0 k1 s1 0, ent0 k2 s2 1] 2)) (n : Int) :
  (Instr.lookup t (.map (some r)) (.int .i64 n) false).run P w = .ok (.string (mapA k1 k2 s1 s2 n)) w := by
 obtain ⟨i, hi, hz⟩ := hz
 have hzv : (zeroValue et).run P w = .ok (.string ⟨#[]⟩) w := by
  unfold zeroValue
  simp only [typeInfo, Sem.run_bind, Sem.run_pure]
  simp [hi, hz]
 unfold Instr.lookup
 simp only [Sem.run_bind, run_underlying ht, Result.andThen_ok, zbl hb, j9 hk]
 by_cases h1 : n = k1
 ·have hf : Instr.findNow (.int .i64) (.int .i64 n) [ent0 k1 s1 0, ent0 k2 s2 1] 0 = some (some (0, .string s1)) := by
   simp [Instr.findNow, Instr.sameNow, ent0, h1]
  simp only [Sem.run_pure, Result.andThen_ok, j9 hk, z8I (w := w) hk n _ _ hf, mapA, if_pos h1]
  rfl
 ·have e1 : (n == k1) = false := by simpa using h1
  by_cases h2 : n = k2
  ·have hf : Instr.findNow (.int .i64) (.int .i64 n) [ent0 k1 s1 0, ent0 k2 s2 1] 0 = some (some (1, .string s2)) := by
    have e2 : (n == k2) = true := by simpa using h2
    simp [Instr.findNow, Instr.sameNow, ent0, e1, e2]
   simp only [Sem.run_pure, Result.andThen_ok, j9 hk, z8I (w := w) hk n _ _ hf, mapA, if_neg h1, if_pos h2]
   rfl
  ·have hf : Instr.findNow (.int .i64) (.int .i64 n) [ent0 k1 s1 0, ent0 k2 s2 1] 0 = some none := by
    have e2 : (n == k2) = false := by simpa using h2
    simp [Instr.findNow, Instr.sameNow, ent0, e1, e2]
   simp only [Sem.run_pure, Result.andThen_ok, j9 hk, z8I (w := w) hk n _ _ hf, mapA, if_neg h1, if_neg h2, hzv]
   simp only [Sem.run_bind, hzv, Result.andThen_ok, Sem.run_pure]
   rfl
end
section
variable {P : Program} {T : TT} {Γ : FuncId → Option GS} {B : Nat} {X : Nat → Prop} {w0 : World} {S0 : Nat → Nat → Prop} {pa : List ((Nat → Value) × (Nat → RV))} {n : Nat} {σ : KS} {a : Act} {w : World} {α : Type} {r : α}
theorem z3d {ops : Array Oper} {Q : Exit → Act → World → Prop} {o : Oper} {l : List Oper} (hg : o.guard = none) (h : o.wp P a w (wpList P ops Q l) Q) : wpList P ops Q (o :: l) a w := by
 unfold wpList
 rw [if_pos (by unfold Region.wanted; rw [hg])]
 exact .inl h
theorem zf5 {d : Nat} {v : Value} (hd : d < a.tmps.size) : (a.put (some d) v).eval (.tmp d) = v := by
 have := congrFun (zhW (a := a) (v := v) hd) d
 simp only [updV, if_true] at this
 exact this
theorem ze3 {d i : Nat} {v : Value} (hd : d < a.tmps.size) (h : i ≠ d) : (a.put (some d) v).eval (.tmp i) = a.eval (.tmp i) := by
 have := congrFun (zhW (a := a) (v := v) hd) i
 simp only [updV, if_neg h] at this
 exact this
theorem fm_T {d : Nat} {x : RV} {D : List Key} {W : List Nat} (h : d ∈ W) : Fm W D D σ (σ.put (.T d) (.rv x)) :=
 ⟨fun i hi => by rw [zdy, if_neg (by rintro rfl; exact hi h)], fun _ _ => rfl, fun _ _ _ => rfl, fun _ h => h⟩
theorem zuW (q : MapQ) (k : Int) : (⟨List.toArray (mapS q k)⟩ : ByteArray) = mapA q.k1 q.k2 q.s1 q.s2 k := by
 unfold mapS mapA eqI ifB
 by_cases h1 : k = q.k1
 ·simp [h1]
 ·have e1 : (k == q.k1) = false := by simpa using h1
  rw [e1, if_neg h1]
  by_cases h2 : k = q.k2
  ·simp [h2]
  ·have e2 : (k == q.k2) = false := by simpa using h2
   rw [e2, if_neg h2]; rfl
theorem znH (hT : TOK P T) (hΓ : ΓOK P Γ) {ops : Array Oper} {K : KS → List Key → Option α} {Q : Exit → Act → World → Prop} {W : List Nat} (l : List Oper) (σ : KS) (D : List Key) (a : Act) (w : World) (hd : l.all (Jp n) = true) (hW : ∀ i ∈ VB l, i ∈ W) (hr : RelA P B X w0 S0 pa n a w σ)
  (h : zps T Γ ops l σ D K = some r) (hK : ∀ σ' D' a' w', RelA P B X w0 S0 pa n a' w' σ' → Fm W D D' σ σ' → K σ' D' = some r → Q .normal a' w') : wpList P ops Q l a w := by
 unfold zps at h
 cases hq : mapQ l with
 | none => rw [hq] at h; exact z7X hT hΓ l σ D a w hd hW hr h hK
 | some q =>
  rw [hq] at h
  simp only at h
  split at h
  ·rename_i mc mb mr hmp
   obtain ⟨kt, et, ht, hk, hz⟩ := hT.mp _ _ hmp rfl
   obtain ⟨y, h1, h⟩ := YP h
   obtain ⟨v, h2, h⟩ := YP h
   split at h
   ·rename_i c k
    unfold mapQ at hq
    split at hq
    ·rename_i d t ty1 po1 af1 t1 d1 k1 s1 ty2 po2 af2 t2 d2 k2 s2 ty3 po3 af3 m d3 ty4 po4 af4 p s x f ty5 po5 af5 q' ty p1 ty6 po6 af6 z t3 m1 q1 ty7 po7 af7 rest
     split at hq
     ·rename_i hc
      obtain ⟨⟨e1, e2, e3⟩, ⟨e4, e5, e6, e7, e8, e9⟩, e10, e11, e12⟩ := hc
      subst e1 e2 e3 e4 e5 e6 e7 e8 e9
      cases hq
      simp only at h1 h2 h ht hk
      simp only [List.all_cons, Bool.and_eq_true, Jp, decide_eq_true_eq] at hd
      obtain ⟨hd1, _, _, hd4, hd5, hd6, hd7, hdr⟩ := hd
      simp only [VB, List.mem_cons] at hW
      obtain ⟨E, rfl, hre, hde, hn⟩ := hr
      have hs : ∀ {i : Nat}, i < n → i < a.tmps.size := fun h => by rw [hn]; exact h
      have hre0 := hre
      generalize hr0 : E.w.heap.size = r0 at *
      have hb1 : (E.w.alloc (.map #[] 0)).heap[r0]? = some (.map #[] 0) := by rw [← hr0]; exact heap_alloc_new E.w _
      have hb2 := zoI (o := .map #[ent0 k1 s1 0] 1) hb1
      have hb3 := zoI (o := .map #[ent0 k1 s1 0, ent0 k2 s2 1] 2) hb2
      have ed : (a.put (some d3) (.map (some r0))).eval (.tmp d3) = .map (some r0) := zf5 (hs hd1)
      have hin1 := zu7 ht hk hb1 k1 s1
      have hin2 := zu8 ht hk hb2 e12 s2
      have hlk := zu9 ht hk hz hb3
      have hold : ∀ k, k < r0 → (setB (setB (E.w.alloc (.map #[] 0)) r0 (.map #[ent0 k1 s1 0] 1)) r0 (.map #[ent0 k1 s1 0, ent0 k2 s2 1] 2)).heap[k]? = E.w.heap[k]? := by
       intro k hk
       have := heap_alloc_old E.w (.map #[] 0) k (by rw [hr0]; exact hk)
       simp only [setB]
       rw [Array.getElem?_setIfInBounds_ne (by omega), Array.getElem?_setIfInBounds_ne (by omega)]
       exact this
      have hsz : (setB (setB (E.w.alloc (.map #[] 0)) r0 (.map #[ent0 k1 s1 0] 1)) r0 (.map #[ent0 k1 s1 0, ent0 k2 s2 1] 2)).heap.size = r0 + 1 := by
       simp [setB, hr0]
      have hfr : Fr E.w.heap.size (fun _ => False) E.w (setB (setB (E.w.alloc (.map #[] 0)) r0 (.map #[ent0 k1 s1 0] 1)) r0 (.map #[ent0 k1 s1 0, ent0 k2 s2 1] 2)) :=
       ⟨rfl, rfl, rfl, by rw [hsz, hr0]; omega, fun k hk _ => hold k (by rw [← hr0]; exact hk)⟩
      refine z3d rfl (Does.wp (Kw := fun v w' => v = .map (some r0) ∧ w' = E.w.alloc (.map #[] 0)) (.inl ⟨_, _, ?_, rfl, rfl⟩) ?_)
      ·simp only [execOp, Option.map_none]
       rw [← hr0]
       exact zl8 rfl
      rintro v1 wa ⟨rfl, rfl⟩
      refine z3d rfl (Does.wp (Kw := fun v w' => w' = setB (E.w.alloc (.map #[] 0)) r0 (.map #[ent0 k1 s1 0] 1)) (.inr (.inl ⟨_, ?_, rfl⟩)) ?_)
      ·simp only [execOp, ed]
       simp only [Act.eval, Sem.run_bind, hin1, Result.andThen_ok, Sem.run_pure]
      rintro v2 wb rfl
      refine z3d rfl (Does.wp (Kw := fun v w' => w' = setB (setB (E.w.alloc (.map #[] 0)) r0 (.map #[ent0 k1 s1 0] 1)) r0 (.map #[ent0 k1 s1 0, ent0 k2 s2 1] 2)) (.inr (.inl ⟨_, ?_, rfl⟩)) ?_)
      ·simp only [execOp]
       rw [show ((a.put (some d3) (.map (some r0))).put none v2).eval (.tmp d3) = .map (some r0) from ed]
       simp only [Act.eval, Sem.run_bind, hin2, Result.andThen_ok, Sem.run_pure]
      rintro v3 wc rfl
      generalize hw3 : setB (setB (E.w.alloc (.map #[] 0)) r0 (.map #[ent0 k1 s1 0] 1)) r0 (.map #[ent0 k1 s1 0, ent0 k2 s2 1] 2) = w3 at *
      show wpList P ops Q _ (a.put (some d3) (.map (some r0))) w3
      obtain ⟨hg, _⟩ := hre.grown (w' := w3) (S2 := E.S) hfr (fun _ _ h => h) (fun _ _ h => .inl h) (fun b o hb => Nat.lt_of_lt_of_le (hre.w3.slt b o hb) hfr.size)
      have hA := VE (dst := some d3) (x := .any) (v := .map (some r0)) hg hde hn (fun _ h => by cases h; exact hd1) (.any _) trivial
      refine z3d rfl (Does.wp (Kw := fun v w' => v = .map (some r0) ∧ w3 = w') (.inl ⟨_, _, ?_, rfl, rfl⟩) ?_)
      ·simp only [execOp, ed]; rfl
      rintro v4 wd ⟨rfl, rfl⟩
      obtain ⟨E4, hE4, hre4, hde4, hn4⟩ := hA
      simp only at hE4
      have hA := VE (dst := some m1) (x := .any) (v := .map (some r0)) hre4 hde4 hn4 (fun _ h => by cases h; exact hd4) (.any _) trivial
      rw [hE4] at hA
      obtain ⟨E5, hE5, hre5, hde5, hn5⟩ := hA
      simp only [putD] at hre5
      generalize ha5 : (a.put (some d3) (.map (some r0))).put (some m1) (.map (some r0)) = a5 at *
      have em : a5.eval (.tmp m1) = .map (some r0) := by rw [← ha5]; exact zf5 (by rw [hn4]; exact hd4)
      obtain ⟨hvx, hokx⟩ := hre5.ev (a := a5) rfl (.tmp x)
      obtain ⟨g1, g2⟩ := zkZ hT hokx h1
      obtain ⟨u5, g3, g4⟩ := zb8 hvx g1
      rw [hE5] at g3
      refine z3d rfl (Does.wp (Kw := fun v w' => v = u5 ∧ w3 = w') (.inl ⟨_, _, ?_, rfl, rfl⟩) ?_)
      ·simp only [execOp]; exact z35 g3
      rintro v5 we ⟨rfl, rfl⟩
      have hA := VE (dst := some p1) (x := y) (v := v5) hre5 hde5 hn5 (fun _ h => by cases h; exact hd5) g4 g2
      rw [hE5] at hA
      obtain ⟨E6, hE6, hre6, hde6, hn6⟩ := hA
      simp only [putD] at hre6
      generalize ha6 : a5.put (some p1) v5 = a6 at *
      have em6 : a6.eval (.tmp m1) = .map (some r0) := by rw [← ha6, ze3 (by rw [hn5]; exact hd5) e10]; exact em
      obtain ⟨hvp, _⟩ := hre6.ev (a := a6) rfl (.tmp p1)
      obtain ⟨g5, g6⟩ := zhO hT hre6 h2
      obtain ⟨u6, g7, g8⟩ := z7W hre6.w3.memOK hvp g5
      rw [hE6] at g7
      have hu6 : u6 = .int .i64 k := yE g8
      subst hu6
      refine z3d rfl (Does.wp (Kw := fun v w' => v = .int .i64 k ∧ w3 = w') (.inl ⟨_, _, ?_, rfl, rfl⟩) ?_)
      ·simp only [execOp]; exact z35 g7
      rintro v6 wf ⟨rfl, rfl⟩
      have hA := VE (dst := some q1) (x := .d (.int .i64) k) (v := .int .i64 k) hre6 hde6 hn6 (fun _ h => by cases h; exact hd6) g8 g6
      rw [hE6] at hA
      obtain ⟨E7, hE7, hre7, hde7, hn7⟩ := hA
      simp only [putD] at hre7
      generalize ha7 : a6.put (some q1) (.int .i64 k) = a7 at *
      have em7 : a7.eval (.tmp m1) = .map (some r0) := by rw [← ha7, ze3 (by rw [hn6]; exact hd6) e11]; exact em6
      have eq7 : a7.eval (.tmp q1) = .int .i64 k := by rw [← ha7]; exact zf5 (by rw [hn6]; exact hd6)
      refine z3d rfl (Does.wp (Kw := fun v w' => v = .string (mapA k1 k2 s1 s2 k) ∧ w3 = w') (.inl ⟨_, _, ?_, rfl, rfl⟩) ?_)
      ·simp only [execOp, em7, eq7]; exact z35 (hlk k)
      rintro v7 wg ⟨rfl, rfl⟩
      have hA := VE (dst := some z) (x := .d .str (mapS ⟨t3, d3, k1, s1, k2, s2, m1, p1, s, x, f, q1, ty, z, rest⟩ k)) (v := .string (mapA k1 k2 s1 s2 k)) hre7 hde7 hn7 (fun _ h => by cases h; exact hd7) (by
       show VR P E7 _ (.c (.str ⟨List.toArray (mapS _ k)⟩))
       have e9 := zuW ⟨t3, d3, k1, s1, k2, s2, m1, p1, s, x, f, q1, ty, z, rest⟩ k; simp only at e9; rw [e9]; exact .c _ _ (.str _)) trivial
      rw [hE7] at hA
      simp only [putD] at hA
      refine z7X hT hΓ (W := W) rest _ D _ w3 hdr (fun i hi => hW i ?_) hA h fun σ' D' a' w' hr' hf' h' => hK σ' D' a' w' hr' ?_ h'
      ·simp [hi]
      ·have f1 : Fm W D D σ (σ.put (.T d3) (.rv .any)) := fm_T (hW _ (by simp))
       refine f1.trans ((fm_T (hW _ (by simp))).trans ((fm_T (hW _ (by simp))).trans ((fm_T (hW _ (by simp))).trans ((fm_T (hW _ (by simp))).trans hf'))))
     ·cases hq
    ·cases hq
   ·cases h
  ·cases h
end
end Go.Kx
namespace Go.Kx
open Go.Rb
theorem z9G : ∀ {ws : Ws} {σ σ' : KS} {k : Key}, k ∈ Z5 ws → (σ.puts ws).lk k = (σ'.puts ws).lk k
 | [], _, _, _, h => by cases h
 | (a, s) :: ws, σ, σ', k, h => by
  show ((σ.put a s).puts ws).lk k = ((σ'.put a s).puts ws).lk k
  by_cases hk : k ∈ Z5 ws
  ·exact z9G hk
  ·rw [yT hk, yT hk]
   simp only [Z5, List.mem_cons] at h
   rcases h with rfl | h
   ·rw [z3F, z3F]
   ·exact absurd h hk
theorem zqR {a b : Ws} {σ : KS} (h : ∀ k, k ∈ Z5 a → k ∈ Z5 b → False) : (σ.puts a).puts b = (σ.puts b).puts a := by
 refine KS.ext' fun k => ?_
 by_cases hb : k ∈ Z5 b
 ·have ha : k ∉ Z5 a := fun ha => h k ha hb
  rw [z9G (σ' := σ) hb, yT ha]
 ·rw [yT hb]
  by_cases ha : k ∈ Z5 a
  ·exact z9G ha
  ·rw [yT ha, yT ha, yT hb]
theorem z3G : ∀ {a b : List Key}, meets a b = false → ∀ k, k ∈ a → k ∈ b → False
 | [], _, _, k, h, _ => by cases h
 | x :: a, b, h, k, hk, hb => by
  simp only [meets, Bool.or_eq_false_iff] at h
  rcases List.mem_cons.1 hk with rfl | hk
  ·exact z15 h.1 hb
  ·exact z3G h.2 k hk hb
section
variable {P : Program} {T : TT} {Γ : FuncId → Option GS} {B : Nat} {X : Nat → Prop} {w0 : World} {S0 : Nat → Nat → Prop} {pa : List ((Nat → Value) × (Nat → RV))} {n : Nat} {σ : KS} {a : Act} {w : World} {α : Type} {r : α}
def jf (T : TT) (Γ : FuncId → Option GS) (ops : Array Oper) (σ : KS) (o : Oper) (ws : Ws) (ks : List Key) : Prop :=
 (Yq ops σ o = some true ∧ Rdr.run σ (z1V T Γ o) = some ws ∧ ks = (Rdr.keys σ (z1V T Γ o)).reverse ++ vt ops o) ∨ (Yq ops σ o = some false ∧ ws = YT o ∧ ks = vt ops o)
theorem zsp {ops : Array Oper} {o : Oper} {K : KS → Ws → List Key → Option α} (h : evT T Γ ops σ o K = some r) : ∃ ws ks, jf T Γ ops σ o ws ks ∧ K (σ.puts ws) ws ks = some r := by
 have run : Yq ops σ o = some true → Rdr.runT σ (z1V T Γ o) (vt ops o) (fun ws ks => K (σ.puts ws) ws ks) = some r → ∃ ws ks, jf T Γ ops σ o ws ks ∧ K (σ.puts ws) ws ks = some r := by
  intro h1 h2
  rw [Rdr.runT_eq] at h2
  obtain ⟨ws, h3, h4⟩ := Option.bind_eq_some_iff.1 h2
  exact ⟨ws, _, .inl ⟨h1, h3, rfl⟩, h4⟩
 have skip : Yq ops σ o = some false → K (σ.puts (YT o)) (YT o) (vt ops o) = some r → ∃ ws ks, jf T Γ ops σ o ws ks ∧ K (σ.puts ws) ws ks = some r :=
  fun h1 h2 => ⟨_, _, .inr ⟨h1, rfl, rfl⟩, h2⟩
 unfold evT at h
 split at h
 ·rename_i hg; exact run (by simp [Yq, hg]) h
 ·rename_i hg; exact skip (by simp [Yq, hg]) h
 ·rename_i d b hg
  obtain ⟨hb, hpin, _⟩ := z7k hg
  cases b with
  | true => rw [hpin] at h; exact run (by simp [Yq, hg]) h
  | false => rw [hpin] at h; exact skip (by simp [Yq, hg]) h
 ·rename_i d b hg
  obtain ⟨hb, hpin, _⟩ := z7k hg
  cases b with
  | true => rw [hpin] at h; exact skip (by simp [Yq, hg]) h
  | false => rw [hpin] at h; exact run (by simp [Yq, hg]) h
 ·cases h
theorem zpD {ops : Array Oper} {o : Oper} {ws : Ws} {ks : List Key} (h : jf T Γ ops σ o ws ks) : ∀ i, Key.T i ∈ Z5 ws → i ∈ dstL o := by
 rcases h with ⟨_, h, _⟩ | ⟨_, rfl, _⟩
 ·obtain ⟨_, _, _, _, _, h3, _⟩ := zbk h; exact h3
 ·exact skip_keys.1
theorem zla {ops : Array Oper} {σ' : KS} {o : Oper} (h : ∀ k ∈ vt ops o, σ'.lk k = σ.lk k) : z1W ops σ' o = z1W ops σ o := by
 unfold z1W
 cases hg : o.guard with
 | none => rfl
 | some g =>
  obtain ⟨j, want⟩ := g
  simp only
  cases hd : (ops[j]?).bind (·.dst) with
  | none => rfl
  | some d =>
   simp only
   have := h (.T d) (by simp [vt, hg, hd])
   have h1 : σ'.T d = σ.T d := by simpa [KS.lk] using this
   rw [h1]
theorem ze4 {ops : Array Oper} {σ' : KS} {o : Oper} (h : ∀ k ∈ vt ops o, σ'.lk k = σ.lk k) : Yq ops σ' o = Yq ops σ o := by
 unfold Yq; rw [zla h]
theorem ze5 {ops : Array Oper} {σ' : KS} {o : Oper} {ws : Ws} {ks : List Key} (h : jf T Γ ops σ o ws ks) (hk : ∀ k ∈ ks, σ'.lk k = σ.lk k) : jf T Γ ops σ' o ws ks := by
 rcases h with ⟨h1, h2, rfl⟩ | ⟨h1, rfl, rfl⟩
 ·obtain ⟨h3, h4⟩ := Rdr.run_congr (σ' := σ') (z1V T Γ o) fun k hk' => hk k (List.mem_append_left _ (List.mem_reverse.2 hk'))
  exact .inl ⟨by rw [ze4 fun k hk' => hk k (List.mem_append_right _ hk')]; exact h1, by rw [h3]; exact h2, by rw [h4]⟩
 ·exact .inr ⟨by rw [ze4 hk]; exact h1, rfl, rfl⟩
def zpE (x y : Ws × List Key) : Prop := (∀ k, k ∈ Z5 x.1 → k ∈ y.2 → False) ∧ (∀ k, k ∈ Z5 x.1 → k ∈ Z5 y.1 → False) ∧ (∀ k, k ∈ x.2 → k ∈ Z5 y.1 → False)
theorem swap {ops : Array Oper} {oi oj : Oper} {x y : Ws × List Key} (hap : zpE x y) (hi : jf T Γ ops σ oi x.1 x.2) (hj : jf T Γ ops (σ.puts x.1) oj y.1 y.2) :
  jf T Γ ops σ oj y.1 y.2 ∧ jf T Γ ops (σ.puts y.1) oi x.1 x.2 ∧ (σ.puts x.1).puts y.1 = (σ.puts y.1).puts x.1 :=
 ⟨ze5 hj fun k hk => (yT fun hx => hap.1 k hx hk).symm, ze5 hi fun k hk => yT fun hy => hap.2.2 k hk hy, zqR hap.2.1⟩
/-! ### Whatever order is drawn -/
def anyT (T : TT) (Γ : FuncId → Option GS) (tr : Nat → Ws × List Key) (ops : Array Oper) (K : KS → Prop) : Nat → Array Bool → KS → Prop
 | 0, listed, σ => Region.ready .any ops listed = [] ∧ K σ
 | fuel + 1, listed, σ => (Region.ready .any ops listed = [] → K σ) ∧
   ∀ i ∈ Region.ready .any ops listed, ∀ o, ops[i]? = some o → jf T Γ ops σ o (tr i).1 (tr i).2 ∧ anyT T Γ tr ops K fuel (listed.setIfInBounds i true) (σ.puts (tr i).1)
def zbm (ops : Array Oper) (listed : Array Bool) : Prop := ∀ m om, ops[m]? = some om → listed.getD m false = true → ∀ e ∈ om.after, Region.binds .any e = true → listed.getD e.on false = true
theorem ze6 {ops : Array Oper} {listed : Array Bool} (hc : zbm ops listed) {i : Nat} : ∀ (n m : Nat), behT ops n m i = true → listed.getD m false = true → listed.getD i false = true
 | 0, _, h, _ => by cases h
 | n + 1, m, h, hm => by
  unfold behT at h
  split at h
  ·rename_i om ho
   rw [List.any_eq_true] at h
   obtain ⟨e, he, hb⟩ := h
   simp only [Bool.and_eq_true, Bool.or_eq_true] at hb
   have hl := hc m om ho hm e (by simpa using he) hb.1
   rcases hb.2 with h1 | h1
   ·rw [← Nat.eq_of_beq_eq_true h1]; exact hl
   ·exact ze6 hc n e.on h1 hl
  ·cases h
theorem zg2 {ops : Array Oper} {listed : Array Bool} (hc : zbm ops listed) {j : Nat} (hj : j ∈ Region.ready .any ops listed) : zbm ops (listed.setIfInBounds j true) := by
 obtain ⟨hjun, oj, hoj, hall⟩ := mem_ready.1 hj
 have up : ∀ m, listed.getD m false = true → (listed.setIfInBounds j true).getD m false = true := by
  intro m hm
  by_cases h : j = m
  ·subst h
   rcases Nat.lt_or_ge j listed.size with h' | h'
   ·simp [h']
   ·simp [Array.getElem?_eq_none h'] at hm
  ·rw [getD_set_ne false h]; exact hm
 intro m om hom hm e he hb
 by_cases h : j = m
 ·subst h
  rw [hoj] at hom; cases hom
  exact up _ (hall e he hb)
 ·rw [getD_set_ne false h] at hm
  exact up _ (hc m om hom hm e he hb)
theorem zpF {tr : Nat → Ws × List Key} {ops : Array Oper} {K : KS → Prop} {i : Nat} {oi : Oper} (hi : ops[i]? = some oi) : ∀ (fuel : Nat) (listed : Array Bool) (σ : KS), zbm ops listed →
  (∀ j oj, ops[j]? = some oj → j ≠ i → listed.getD j true = false → behT ops 3 j i = false → zpE (tr i) (tr j)) →
  i ∈ Region.ready .any ops listed → jf T Γ ops σ oi (tr i).1 (tr i).2 → anyT T Γ tr ops K fuel (listed.setIfInBounds i true) (σ.puts (tr i).1) → anyT T Γ tr ops K (fuel + 1) listed σ := by
 intro fuel
 induction fuel with
 | zero =>
  intro listed σ _ _ hr hs H
  refine ⟨fun h => (by rw [h] at hr; cases hr), fun j hj o ho => ?_⟩
  by_cases hji : j = i
  ·subst hji; rw [hi] at ho; cases ho; exact ⟨hs, H⟩
  ·have := ready_mono hj hji
   rw [H.1] at this
   cases this
 | succ fuel ih =>
  intro listed σ hcl hfree hr hs H
  refine ⟨fun h => (by rw [h] at hr; cases hr), fun j hj oj hoj => ?_⟩
  by_cases hji : j = i
  ·subst hji; rw [hi] at hoj; cases hoj; exact ⟨hs, H⟩
  ·obtain ⟨h1, h2⟩ := H.2 j (ready_mono hj hji) oj hoj
   obtain ⟨hjun, oj', hoj', hall⟩ := mem_ready.1 hj
   rw [hoj] at hoj'
   cases hoj'
   have hun : listed.getD i false = true → False := fun h1 => by
    have h0 := (mem_ready.1 hr).1
    rcases Nat.lt_or_ge i listed.size with h' | h'
    ·simp [h'] at h0 h1; rw [h0] at h1; cases h1
    ·simp [Array.getElem?_eq_none h'] at h1
   have hnot : behT ops 3 j i = false := by
    cases hbt : behT ops 3 j i with
    | false => rfl
    | true =>
     exfalso
     unfold behT at hbt
     rw [hoj] at hbt
     simp only [List.any_eq_true] at hbt
     obtain ⟨e, he, hb⟩ := hbt
     simp only [Bool.and_eq_true, Bool.or_eq_true] at hb
     have hl := hall e (by simpa using he) hb.1
     rcases hb.2 with h1 | h1
     ·exact hun (by rw [← Nat.eq_of_beq_eq_true h1]; exact hl)
     ·exact hun (ze6 hcl 2 e.on h1 hl)
   obtain ⟨h3, h4, h5⟩ := swap (hfree j oj hoj hji hjun hnot) hs h1
   refine ⟨h3, ih (listed.setIfInBounds j true) (σ.puts (tr j).1) (zg2 hcl hj) ?_ (ready_mono hr (Ne.symm hji)) h4 ?_⟩
   ·intro k ok hk hki hun hno
    refine hfree k ok hk hki ?_ hno
    by_cases hjk : j = k
    ·subst hjk; exact hjun
    ·rw [getD_set_ne true hjk] at hun; exact hun
   ·rw [Array.setIfInBounds_comm _ _ hji, ← h5]; exact h2
def lexT (T : TT) (Γ : FuncId → Option GS) (ops : Array Oper) : List Oper → Nat → List (Ws × List Key) → KS → KS → Prop
 | [], _, [], σ, σ' => σ' = σ
 | o :: l, k, t :: ts, σ, σ' => zhL o k = true ∧ jf T Γ ops σ o t.1 t.2 ∧ lexT T Γ ops l (k + 1) ts (σ.puts t.1) σ'
 | _, _, _, _, _ => False
def recs : Nat → List (Ws × List Key) → List Tr
 | _, [] => []
 | k, t :: ts => recs (k + 1) ts ++ [⟨k, t.2, Z5 t.1⟩]
def allD : List (Ws × List Key) → List Key → List Key
 | [], D => D
 | t :: ts, D => allD ts (yR t.1 ++ D)
theorem ziJ {ops : Array Oper} {K : KS → List Key → Option α} : ∀ {l : List Oper} {i : Nat} {tr : List Tr} {σ : KS} {D : List Key}, evDr T Γ ops l i tr σ D K = some r →
  ∃ ts σ', lexT T Γ ops l i ts σ σ' ∧ trOK ops (recs i ts ++ tr) = true ∧ K σ' (allD ts D) = some r ∧ ts.length = l.length
 | [], i, tr, σ, D, h => by
  unfold evDr at h
  split at h
  ·rename_i ht; exact ⟨[], σ, rfl, ht, h, rfl⟩
  ·cases h
 | o :: l, i, tr, σ, D, h => by
  unfold evDr at h
  split at h
  ·rename_i he
   obtain ⟨ws, ks, h1, h2⟩ := zsp h
   obtain ⟨ts, σ', h3, h4, h5, h6⟩ := ziJ h2
   exact ⟨(ws, ks) :: ts, σ', ⟨he, h1, h3⟩, by simpa [recs] using h4, h5, by simp [h6]⟩
  ·cases h
theorem ziK {ops : Array Oper} : ∀ {L M : List Tr}, trOK ops (L ++ M) = true → ∀ y ∈ L, ∀ x ∈ M, zfQ ops x y = true
 | [], _, _, y, h, _, _ => by cases h
 | z :: L, M, h, y, hy, x, hx => by
  simp only [List.cons_append, trOK, Bool.and_eq_true, List.all_eq_true] at h
  rcases List.mem_cons.1 hy with rfl | hy
  ·exact h.1 x (List.mem_append_right _ hx)
  ·exact ziK h.2 y hy x hx
theorem ziL {ops : Array Oper} : ∀ {L M : List Tr}, trOK ops (L ++ M) = true → trOK ops L = true
 | [], _, _ => rfl
 | z :: L, M, h => by
  simp only [List.cons_append, trOK, Bool.and_eq_true, List.all_eq_true] at h ⊢
  exact ⟨fun x hx => h.1 x (List.mem_append_left _ hx), ziL h.2⟩
theorem zlb : ∀ {ts : List (Ws × List Key)} {k m : Nat} {t : Ws × List Key}, ts[m]? = some t → (⟨k + m, t.2, Z5 t.1⟩ : Tr) ∈ recs k ts
 | [], k, m, t, h => by simp at h
 | t0 :: ts, k, 0, t, h => by simp at h; subst h; simp [recs]
 | t0 :: ts, k, m + 1, t, h => by
  have := zlb (k := k + 1) (ts := ts) (m := m) (by simpa using h)
  simp only [recs, List.mem_append]
  rw [show k + (m + 1) = k + 1 + m from by omega]
  exact .inl this
theorem zsq {ops : Array Oper} {x y : Ws × List Key} {i j : Nat} {oj : Oper} (hj : ops[j]? = some oj) (h : zfQ ops ⟨i, x.2, Z5 x.1⟩ ⟨j, y.2, Z5 y.1⟩ = true) (hno : behT ops 3 j i = false) : zpE x y := by
 simp only [zfQ, hj, Bool.or_eq_true, Bool.not_eq_true', Bool.or_eq_false_iff] at h
 rcases h with ⟨h1, h2, h3⟩ | h
 ·exact ⟨z3G h1, z3G h2, z3G h3⟩
 ·rw [hno] at h; cases h
theorem zlc {ops : Array Oper} : ∀ {l : List Oper} {ts : List (Ws × List Key)} {k : Nat} {σ σ' : KS}, lexT T Γ ops l k ts σ σ' → ts.length = l.length
 | [], [], _, _, _, _ => rfl
 | [], _ :: _, _, _, _, h => by cases h
 | _ :: _, [], _, _, _, h => by cases h
 | _ :: l, _ :: ts, _, _, _, h => by simp [zlc h.2.2]
theorem zld {tr : Nat → Ws × List Key} {ops : Array Oper} {K : KS → Prop} : ∀ (l : List Oper) (ts : List (Ws × List Key)) (k : Nat) (listed : Array Bool) (σ σ' : KS), (∀ j, l[j]? = ops[k + j]?) → (∀ (m : Nat) (t : Ws × List Key), ts[m]? = some t → tr (k + m) = t) →
  (∀ j, listed.getD j true = false ↔ k ≤ j ∧ j < ops.size) → (∀ j, j < k → listed.getD j false = true) → zbm ops listed → k + l.length = ops.size → trOK ops (recs k ts) = true → lexT T Γ ops l k ts σ σ' → K σ' → anyT T Γ tr ops K l.length listed σ
 | [], [], k, listed, σ, σ', _, _, hu, _, _, hlen, _, hl, hK => by
  refine ⟨List.eq_nil_iff_forall_not_mem.2 fun j hj => ?_, by rw [show σ' = σ from hl] at hK; exact hK⟩
  have := (hu j).1 (mem_ready.1 hj).1
  simp at hlen; omega
 | [], _ :: _, _, _, _, _, _, _, _, _, _, _, _, hl, _ => by cases hl
 | _ :: _, [], _, _, _, _, _, _, _, _, _, _, _, hl, _ => by cases hl
 | o :: l, t :: ts, k, listed, σ, σ', ho, htr, hu, hd, hcl, hlen, hok, hl, hK => by
  obtain ⟨h1, h2, h3⟩ := hl
  have h0 : ops[k]? = some o := by simpa using (ho 0).symm
  have ht0 : tr k = t := by simpa using htr 0 t rfl
  have hk : k < ops.size := (Array.getElem?_eq_some_iff.1 h0).1
  simp only [List.length_cons] at hlen
  have hlk : listed.getD k true = false := (hu k).2 ⟨Nat.le_refl _, hk⟩
  have hlsz : k < listed.size := by
   rcases Nat.lt_or_ge k listed.size with h | h
   ·exact h
   ·simp [Array.getElem?_eq_none h] at hlk
  have hok' : trOK ops (recs (k + 1) ts) = true := ziL (show trOK ops (recs (k + 1) ts ++ [_]) = true from hok)
  have hrdy : k ∈ Region.ready .any ops listed := by
   refine mem_ready.2 ⟨hlk, o, h0, fun e he hb => hd e.on ?_⟩
   unfold zhL at h1
   rw [List.all_eq_true] at h1
   have := h1 e (by simpa using he)
   simp only [hb, Bool.not_true, Bool.false_or] at this
   rw [Nat.blt_eq] at this; exact this
  have hrec := zld (tr := tr) (K := K) l ts (k + 1) (listed.setIfInBounds k true) (σ.puts t.1) σ' (fun j => by have := ho (j + 1); simpa [Nat.add_assoc, Nat.add_comm 1 j] using this)
   (fun m t' hm => by have := htr (m + 1) t' (by simpa using hm); rw [← this]; congr 1; omega)
   (fun j => by
    by_cases hjk : j = k
    ·subst hjk
     have : (listed.setIfInBounds j true).getD j true = true := by simp [hlsz]
     rw [this]; constructor
     ·intro h; cases h
     ·intro h; omega
    ·rw [getD_set_ne true (Ne.symm hjk), hu j]; omega)
   (fun j hj => by
    by_cases hjk : j = k
    ·subst hjk; simp [hlsz]
    ·rw [getD_set_ne false (Ne.symm hjk)]; exact hd j (by omega)) (zg2 hcl hrdy) (by omega) hok' h3 hK
  refine zpF h0 l.length listed σ hcl (fun j oj hj hne hun hno => ?_) hrdy (by rw [ht0]; exact h2) (by rw [ht0]; exact hrec)
  ·have hj' := (hu j).1 hun
   have hjl : j = k + 1 + (j - (k + 1)) := by omega
   have hts : ∃ t', ts[j - (k + 1)]? = some t' := by
    have hl' : ts.length = l.length := zlc h3
    exact ⟨_, List.getElem?_eq_getElem (by omega)⟩
   obtain ⟨t', ht'⟩ := hts
   have h7 := ziK (L := recs (k + 1) ts) (M := [⟨k, t.2, Z5 t.1⟩]) (show trOK ops (recs (k + 1) ts ++ [_]) = true from hok) _ (zlb (k := k + 1) ht') _ (List.mem_singleton.2 rfl)
   rw [← hjl] at h7
   have h8 : tr j = t' := by
    have := htr (j - (k + 1) + 1) t' (by simpa using ht')
    rw [← this]; congr 1; omega
   rw [ht0, h8]
   exact zsq hj h7 hno
theorem zoJ {ops : Array Oper} {W : List Nat} : ∀ {l : List Oper} {ts : List (Ws × List Key)} {k : Nat} {σ σ' : KS} {D : List Key}, lexT T Γ ops l k ts σ σ' → (∀ i ∈ VB l, i ∈ W) → Fm W D (allD ts D) σ σ'
 | [], [], _, σ, σ', D, h, _ => by rw [show σ' = σ from h]; exact .refl _ _ _
 | [], _ :: _, _, _, _, _, h, _ => by cases h
 | _ :: _, [], _, _, _, _, h, _ => by cases h
 | o :: l, t :: ts, k, σ, σ', D, h, hW => by
  have hWl : ∀ i ∈ VB l, i ∈ W := fun i hi => hW i (by unfold VB; split; exact List.mem_cons_of_mem _ hi; exact hi)
  have hWo : ∀ i ∈ dstL o, i ∈ W := by
   intro i hi
   refine hW i ?_
   unfold VB
   unfold dstL at hi
   split at hi
   ·rename_i d hdo; simp at hi; subst hi; simp [hdo]
   ·cases hi
  exact ((zdE (zpD h.2.1)).mono hWo).trans (zoJ h.2.2 hWl)
theorem zua (hT : TOK P T) (hΓ : ΓOK P Γ) (hr : RelA P B X w0 S0 pa n a w σ) {ops : Array Oper} {o : Oper} {ws : Ws} {ks : List Key} (hs : jf T Γ ops σ o ws ks) (hd : Jp n o = true) {K : Act → World → Prop} {Q : Exit → Act → World → Prop}
  (hK : ∀ a' w', RelA P B X w0 S0 pa n a' w' (σ.puts ws) → K a' w') : if Region.wanted o (yielded ops a.tmps) then o.wp P a w K Q else K (a.put o.dst undef) w := by
 rcases hs with ⟨h1, h2, _⟩ | ⟨h1, rfl, _⟩
 ·have h3 : Region.wanted o (yielded ops a.tmps) = true := by obtain ⟨E, rfl, hre, _⟩ := hr; exact z1Z hre rfl h1
  rw [if_pos h3]
  exact zoG hT hΓ hr h2 hd hK
 ·have h3 : Region.wanted o (yielded ops a.tmps) = false := by obtain ⟨E, rfl, hre, _⟩ := hr; exact z1Z hre rfl h1
  rw [h3, if_neg (by simp)]
  exact hK _ _ (zl9 hr hd)
theorem zg3 (hT : TOK P T) (hΓ : ΓOK P Γ) {Q : Exit → Act → World → Prop} {K : KS → Prop} {tr : Nat → Ws × List Key} {ops : Array Oper} (hd : ∀ (i : Nat) (o : Oper), ops[i]? = some o → Jp n o = true) (hK : ∀ a' w' σ', RelA P B X w0 S0 pa n a' w' σ' → K σ' → Q .normal a' w') :
  ∀ (fuel : Nat) (listed : Array Bool) (a : Act) (w : World) (σ : KS), RelA P B X w0 S0 pa n a w σ → anyT T Γ tr ops K fuel listed σ → wpAny P .any ops Q fuel listed a w
 | 0, listed, a, w, σ, hr, h => ⟨h.1, hK a w σ hr h.2⟩
 | fuel + 1, listed, a, w, σ, hr, h => by
  refine ⟨fun h0 => hK a w σ hr (h.1 h0), fun i hi => ?_⟩
  unfold wpOp
  split
  ·rename_i ho
   obtain ⟨_, o, ho', _⟩ := mem_ready.1 hi
   rw [ho] at ho'; cases ho'
  ·rename_i o ho
   obtain ⟨hs, hn⟩ := h.2 i hi o ho
   have := zua (Q := Q) hT hΓ hr hs (hd i o ho) (K := wpAny P .any ops Q fuel (listed.setIfInBounds i true)) (fun a' w' hr' => zg3 hT hΓ hd hK fuel _ a' w' _ hr' hn)
   split
   ·rename_i hw; rw [if_pos hw] at this; exact .inl this
   ·rename_i hw; rw [if_neg hw] at this; exact this
theorem zqS (h : RelA P B X w0 S0 pa n a w σ) : RelA P B X w0 S0 pa n a { w with drawn := w.drawn + 1 } σ := by
 obtain ⟨E, rfl, hr, hd, hn⟩ := h
 exact ⟨_, rfl, hr.drew.1, hd, hn⟩
theorem znI (hT : TOK P T) (hΓ : ΓOK P Γ) (hm : P.follows .mixedOrders = true) {Q : Exit → Act → World → Prop} {id : Nat} {ops : Array Oper} {W : List Nat} {D : List Key} {K : KS → List Key → Option α} (hd : ops.toList.all (Jp n) = true) (hW : ∀ i ∈ VB ops.toList, i ∈ W)
  (hr : RelA P B X w0 S0 pa n a w σ) (h : evDr T Γ ops ops.toList 0 [] σ D K = some r) (hK : ∀ σ' D' a' w', RelA P B X w0 S0 pa n a' w' σ' → Fm W D D' σ σ' → K σ' D' = some r → Q .normal a' w') : (Code.region id ops true).wp P Q a w := by
 obtain ⟨ts, σ', h1, h2, h3, h4⟩ := ziJ h
 rw [List.append_nil] at h2
 refine wp_region_any hm (zg3 hT hΓ (K := fun τ => τ = σ') (tr := fun i => ts.getD i ([], [])) ?_ (fun a' w' τ hr' hτ => by subst hτ; exact hK _ _ a' w' hr' (zoJ h1 hW) h3) _ _ a _ σ (zqS hr) ?_)
 ·intro i o ho
  exact List.all_eq_true.1 hd o (by simpa using Array.mem_of_getElem? ho)
 ·have := zld (tr := fun i => ts.getD i ([], [])) (K := fun τ => τ = σ') ops.toList ts 0 (Array.replicate ops.size false) σ σ' (by simp) (fun m t hm => by simp [List.getD, hm]) (fun j => by
   by_cases hj : j < ops.size
   ·simp [hj]
   ·simp [Array.getElem?_eq_none (show (Array.replicate ops.size false).size ≤ j by simpa using Nat.not_lt.1 hj)]; omega) (fun j hj => by omega) (fun m om hom hm => by
   exfalso
   rcases Nat.lt_or_ge m ops.size with h' | h'
   ·simp [h'] at hm
   ·simp [Array.getElem?_eq_none (show (Array.replicate ops.size false).size ≤ m by simpa using h')] at hm) (by simp) h2 h1 rfl
  simpa using this
end
end Go.Kx
namespace Go.Kx
open Go.Rb
theorem zbn {P : Program} {T : TT} (hT : TOK P T) {e : TypeId} {r : RT} (h : rtOK T e r = true) : r.size = P.cellsOf e := by
 unfold rtOK at h
 split at h
 ·rename_i k n b r' hd
  split at h
  ·rename_i hr _
   subst hr
   rw [(hT.c _ _ hd).1]; exact (hT.rt _ _ _ hd rfl).1
  ·cases h
 ·cases h
/-! ### One item after the other -/
section
variable {σ1 τ ψ : KS}
theorem zuX {i : Nat} {c : CT} : ∀ {is : List It} {y : PL (.t i c :: is)}, grab τ (.t i c :: is) = some y → ∃ x y', asD c (τ.T i) = some x ∧ grab τ is = some y' ∧ Y1 σ1 (.t i c :: is) y ψ = Y1 σ1 is y' (ψ.put (.T i) (.rv (.d c x)))
 | [], y, h => ⟨y, (), h, rfl, rfl⟩
 | i1 :: is, y, h => by
  simp only [grab] at h
  split at h
  ·rename_i x y' h1 h2
   cases h
   exact ⟨x, y', h1, h2, rfl⟩
  ·cases h
theorem zuY {l j : Nat} {c : CT} : ∀ {is : List It} {y : PL (.c l j c :: is)}, grab τ (.c l j c :: is) = some y → ∃ x y', asD c (τ.C l j) = some x ∧ grab τ is = some y' ∧ Y1 σ1 (.c l j c :: is) y ψ = Y1 σ1 is y' (ψ.put (.C l j) (.rv (.d c x)))
 | [], y, h => ⟨y, (), h, rfl, rfl⟩
 | i1 :: is, y, h => by
  simp only [grab] at h
  split at h
  ·rename_i x y' h1 h2
   cases h
   exact ⟨x, y', h1, h2, rfl⟩
  ·cases h
theorem zuZ {l : Nat} {e : TypeId} {r : RT} : ∀ {is : List It} {y : PL (.r l e r :: is)}, grab τ (.r l e r :: is) = some y → ∃ x y', zdB (τ.H l) e r = some x ∧ grab τ is = some y' ∧ Y1 σ1 (.r l e r :: is) y ψ = Y1 σ1 is y' (ψ.put (.H l) (.hd (.flat ((σ1.H l).gen + 1) false e r x)))
 | [], y, h => ⟨y, (), h, rfl, rfl⟩
 | i1 :: is, y, h => by
  simp only [grab] at h
  split at h
  ·rename_i x y' h1 h2
   cases h
   exact ⟨x, y', h1, h2, rfl⟩
  ·cases h
theorem zqT {h : Hd} {g : Nat} {e : TypeId} {r : RT} {rows : List (DenR r)} (hg : zfR h g e r = some rows) : h = .flat g false e r rows := by
 unfold zfR at hg
 split at hg
 ·split at hg
  ·rename_i he
   obtain ⟨rfl, rfl⟩ := he
   split at hg
   ·rename_i hr _
    subst hr
    cases hg
    rfl
   ·cases hg
  ·cases hg
 ·cases hg
theorem zv0 {l g : Nat} {e : TypeId} {r : RT} : ∀ {is : List It} {y : PL (.rk l g e r :: is)}, grab τ (.rk l g e r :: is) = some y → ∃ x y', zfR (τ.H l) g e r = some x ∧ grab τ is = some y' ∧ Y1 σ1 (.rk l g e r :: is) y ψ = Y1 σ1 is y' (ψ.put (.H l) (.hd (.flat g false e r x)))
 | [], y, h => ⟨y, (), h, rfl, rfl⟩
 | i1 :: is, y, h => by
  simp only [grab] at h
  split at h
  ·rename_i x y' h1 h2
   cases h
   exact ⟨x, y', h1, h2, rfl⟩
  ·cases h
structure FillOK (T : TT) (W : List Nat) (σ1 τ : KS) (is : List It) (ψ φ : KS) : Prop where
 h0 : ∀ l, Key.H l ∉ itK is → φ.H l = ψ.H l
 h1 : ∀ l, Key.H l ∈ itR is → ∃ e r rows, φ.H l = .flat ((σ1.H l).gen + 1) false e r rows ∧ zdB (τ.H l) e r = some rows ∧ rtOK T e r = true
 h2 : ∀ l, Key.H l ∈ itK is → Key.H l ∉ itR is → φ.H l = τ.H l ∧ (σ1.H l).gen ≤ (φ.H l).gen ∧ ∃ g e r rows, φ.H l = .flat g false e r rows ∧ rtOK T e r = true
 t : ∀ i, φ.T i = ψ.T i ∨ (i ∈ W ∧ ((∃ c x, φ.T i = .d c x ∧ asD c (τ.T i) = some x) ∨ ∃ l e, φ.T i = .arw l ((σ1.H l).gen + 1) e ∧ z3E τ (τ.T i) l e = true ∧ Key.H l ∈ itR is))
 c0 : ∀ l j, Key.C l j ∉ itK is → φ.C l j = ψ.C l j
 c1 : ∀ l j, Key.C l j ∈ itK is → (∃ c x, φ.C l j = .d c x ∧ asD c (τ.C l j) = some x) ∨ ∃ l2 e, φ.C l j = .arw l2 ((σ1.H l2).gen + 1) e ∧ z3E τ (τ.C l j) l2 e = true ∧ Key.H l2 ∈ itR is
 cc : ∀ l j, Key.C l j ∈ itK is → ∃ g n cnt e, σ1.H l = .cells g n cnt e
theorem zle {σ : KS} {l j a b : Nat} {s : Sl} (h : Key.C a b ≠ .C l j) : (σ.put (.C l j) s).C a b = σ.C a b := by
 have := zbj (σ := σ) (s := s) h
 simpa [KS.lk] using this
theorem zg4 {σ : KS} {l j : Nat} {x : RV} : (σ.put (.C l j) (.rv x)).C l j = x := by
 have := z3F (σ := σ) (k := .C l j) (s := .rv x)
 simpa [KS.lk, cz, Sl.rv!] using this
theorem z16 {T : TT} {W : List Nat} : ∀ {is : List It} {y : PL is} {ψ : KS}, grab τ is = some y → itOK T W σ1 is = true → FillOK T W σ1 τ is ψ (Y1 σ1 is y ψ)
 | [], y, ψ, _, _ => ⟨fun _ _ => rfl, (fun _ h => by cases h), (fun _ h => by cases h), fun _ => .inl rfl, fun _ _ _ => rfl, (fun _ _ h => by cases h), fun _ _ h => by cases h⟩
 | .t i c :: is, y, ψ, hg, hi => by
  simp only [itOK, Bool.and_eq_true] at hi
  obtain ⟨x, y', h1, h2, h3⟩ := zuX (σ1 := σ1) (ψ := ψ) hg
  rw [h3]
  have ih := z16 (T := T) (W := W) (ψ := ψ.put (.T i) (.rv (.d c x))) h2 hi.2
  refine ⟨ih.h0, ih.h1, ih.h2, fun k => ?_, ih.c0, ih.c1, ih.cc⟩
  rcases ih.t k with h | h
  ·rw [zdy] at h
   by_cases hk : k = i
   ·subst hk; rw [if_pos rfl] at h
    exact .inr ⟨natIn_iff.1 hi.1, .inl ⟨c, x, h, h1⟩⟩
   ·rw [if_neg hk] at h; exact .inl h
  ·exact .inr h
 | .c l j c :: is, y, ψ, hg, hi => by
  simp only [itOK, Bool.and_eq_true] at hi
  obtain ⟨x, y', h1, h2, h3⟩ := zuY (σ1 := σ1) (ψ := ψ) hg
  rw [h3]
  have ih := z16 (T := T) (W := W) (ψ := ψ.put (.C l j) (.rv (.d c x))) h2 hi.2
  have hcc : ∃ g n cnt e, σ1.H l = .cells g n cnt e := by
   have := hi.1
   split at this
   ·rename_i h; exact ⟨_, _, _, _, h⟩
   ·cases this
  refine ⟨fun k hk => ih.h0 k fun h => hk (List.mem_cons_of_mem _ h), ih.h1, fun k hk hn => ih.h2 k (by rcases List.mem_cons.1 hk with h | h; cases h; exact h) hn, ih.t, fun a b hab => ?_, fun a b hab => ?_, fun a b hab => ?_⟩
  ·simp only [itK, List.mem_cons, not_or] at hab
   rw [ih.c0 a b hab.2, zle hab.1]
  ·by_cases h9 : Key.C a b ∈ itK is
   ·exact ih.c1 a b h9
   ·simp only [itK, List.mem_cons] at hab
    rcases hab with hab | hab
    ·cases hab
     rw [ih.c0 _ _ h9, zg4]
     exact .inl ⟨c, x, rfl, h1⟩
    ·exact absurd hab h9
  ·simp only [itK, List.mem_cons] at hab
   rcases hab with hab | hab
   ·cases hab; exact hcc
   ·exact ih.cc a b hab
 | .r l e r :: is, y, ψ, hg, hi => by
  simp only [itOK, Bool.and_eq_true, Bool.not_eq_true'] at hi
  obtain ⟨x, y', h1, h2, h3⟩ := zuZ (σ1 := σ1) (ψ := ψ) hg
  rw [h3]
  have ih := z16 (T := T) (W := W) (ψ := ψ.put (.H l) (.hd (.flat ((σ1.H l).gen + 1) false e r x))) h2 hi.2
  have hnot := z15 hi.1.2
  refine ⟨fun k hk => ?_, fun k hk => ?_, fun k hk hn => ?_, fun k => ?_, fun a b hab => ?_, fun a b hab => ?_, fun a b hab => ?_⟩
  ·simp only [itK, List.mem_cons, not_or] at hk
   rw [ih.h0 k hk.2, y7]
   exact zR _ (fun he => hk.1 (by rw [he]))
  ·simp only [itR, List.mem_cons] at hk
   rcases hk with hk | hk
   ·cases hk
    exact ⟨e, r, x, by rw [ih.h0 _ hnot, y7]; exact zt _ _, h1, hi.1.1⟩
   ·exact ih.h1 k hk
  ·simp only [itK, List.mem_cons] at hk
   simp only [itR, List.mem_cons, not_or] at hn
   rcases hk with hk | hk
   ·exact absurd hk hn.1
   ·exact ih.h2 k hk hn.2
  ·rcases ih.t k with h | ⟨hw, h | ⟨l2, e, h4, h5, h6⟩⟩
   ·exact .inl h
   ·exact .inr ⟨hw, .inl h⟩
   ·exact .inr ⟨hw, .inr ⟨l2, e, h4, h5, List.mem_cons_of_mem _ h6⟩⟩
  ·simp only [itK, List.mem_cons, not_or] at hab
   exact ih.c0 a b hab.2
  ·simp only [itK, List.mem_cons] at hab
   rcases hab with hab | hab
   ·cases hab
   ·rcases ih.c1 a b hab with h | ⟨l2, e, h4, h5, h6⟩
    ·exact .inl h
    ·exact .inr ⟨l2, e, h4, h5, List.mem_cons_of_mem _ h6⟩
  ·simp only [itK, List.mem_cons] at hab
   rcases hab with hab | hab
   ·cases hab
   ·exact ih.cc a b hab
 | .rk l g e r :: is, y, ψ, hg, hi => by
  simp only [itOK, Bool.and_eq_true, Bool.not_eq_true'] at hi
  obtain ⟨x, y', h1, h2, h3⟩ := zv0 (σ1 := σ1) (ψ := ψ) hg
  rw [h3]
  have ih := z16 (T := T) (W := W) (ψ := ψ.put (.H l) (.hd (.flat g false e r x))) h2 hi.2
  have hnot := z15 hi.1.1.2
  refine ⟨fun k hk => ?_, ih.h1, fun k hk hn => ?_, ih.t, fun a b hab => ?_, fun a b hab => ?_, fun a b hab => ?_⟩
  ·simp only [itK, List.mem_cons, not_or] at hk
   rw [ih.h0 k hk.2, y7]
   exact zR _ (fun he => hk.1 (by rw [he]))
  ·simp only [itK, List.mem_cons] at hk
   rcases hk with hk | hk
   ·cases hk
    have h4 : (Y1 σ1 is y' (ψ.put (.H l) (.hd (.flat g false e r x)))).H l = .flat g false e r x := by rw [ih.h0 _ hnot, y7]; exact zt _ _
    refine ⟨h4.trans (zqT h1).symm, ?_, g, e, r, x, h4, hi.1.1.1⟩
    rw [h4, Nat.eq_of_beq_eq_true hi.1.2]; exact Nat.le_refl _
   ·exact ih.h2 k hk hn
  ·simp only [itK, List.mem_cons, not_or] at hab
   exact ih.c0 a b hab.2
  ·simp only [itK, List.mem_cons] at hab
   rcases hab with hab | hab
   ·cases hab
   ·exact ih.c1 a b hab
  ·simp only [itK, List.mem_cons] at hab
   rcases hab with hab | hab
   ·cases hab
   ·exact ih.cc a b hab
 | .ta i l e :: is, y, ψ, hg, hi => by
  simp only [itOK, Bool.and_eq_true] at hi
  cases hrow : z3E τ (τ.T i) l e with
  | false => simp only [grab, hrow] at hg; cases hg
  | true =>
   simp only [grab, hrow] at hg
   replace hg : grab τ is = some y := hg
   have ih := z16 (T := T) (W := W) (is := is) (y := y) (ψ := ψ.put (.T i) (.rv (.arw l ((σ1.H l).gen + 1) e))) hg hi.2
   refine ⟨ih.h0, ih.h1, ih.h2, fun k => ?_, ih.c0, ih.c1, ih.cc⟩
   rcases ih.t k with h | h
   ·rw [zdy] at h
    by_cases hk : k = i
    ·subst hk; rw [if_pos rfl] at h
     exact .inr ⟨natIn_iff.1 hi.1.1, .inr ⟨l, e, h, hrow, kin_true.1 hi.1.2⟩⟩
    ·rw [if_neg hk] at h; exact .inl h
   ·exact .inr h
 | .ca l' j l e :: is, y, ψ, hg, hi => by
  simp only [itOK, Bool.and_eq_true] at hi
  cases hrow : z3E τ (τ.C l' j) l e with
  | false => simp only [grab, hrow] at hg; cases hg
  | true =>
   simp only [grab, hrow] at hg
   replace hg : grab τ is = some y := hg
   have ih := z16 (T := T) (W := W) (is := is) (y := y) (ψ := ψ.put (.C l' j) (.rv (.arw l ((σ1.H l).gen + 1) e))) hg hi.2.2
   have hcc : ∃ g n cnt e, σ1.H l' = .cells g n cnt e := by
    have := hi.1
    split at this
    ·rename_i h; exact ⟨_, _, _, _, h⟩
    ·cases this
   refine ⟨fun k hk => ih.h0 k fun h => hk (List.mem_cons_of_mem _ h), ih.h1, fun k hk hn => ih.h2 k (by rcases List.mem_cons.1 hk with h | h; cases h; exact h) hn, ih.t, fun a b hab => ?_, fun a b hab => ?_, fun a b hab => ?_⟩
   ·simp only [itK, List.mem_cons, not_or] at hab
    have h8 := ih.c0 a b hab.2
    rw [zle hab.1] at h8
    exact h8
   ·by_cases h9 : Key.C a b ∈ itK is
    ·exact ih.c1 a b h9
    ·simp only [itK, List.mem_cons] at hab
     rcases hab with hab | hab
     ·cases hab
      have h8 := ih.c0 _ _ h9
      rw [zg4] at h8
      exact .inr ⟨l, e, h8, hrow, kin_true.1 hi.2.1⟩
     ·exact absurd hab h9
   ·simp only [itK, List.mem_cons] at hab
    rcases hab with hab | hab
    ·cases hab; exact hcc
    ·exact ih.cc a b hab
end
/-! ### Views that are no more than they were -/
structure TxW (P : Program) (E : Env) (H : Nat → Hd) (E' : Env) (H' H0 : Nat → Hd) : Prop where
 v : ∀ v x, ok0 H0 x → VR P E v (av0 H x) → VR P E' v (av0 H' x)
 any : ∀ x, ok0 H0 x → av0 H x = .any → av0 H' x = .any
section
variable {P : Program} {E E' : Env} {H H' H0 : Nat → Hd}
theorem TxW.v1 (h : TxW P E H E' H' H0) (v : Value) (x : RV) (hx : ok1 H0 x) (hv : VR P E v (av1 H x)) : VR P E' v (av1 H' x) := by
 by_cases hn : ∃ f xs, x = .fn f xs
 ·obtain ⟨f, caps, rfl⟩ := hn
  simp only [av1] at hv ⊢
  by_cases h' : (caps.map (av0 H')).any AV.isAny = true
  ·rw [if_pos h']; exact .any _
  ·rw [if_neg h']
   by_cases h1 : (caps.map (av0 H)).any AV.isAny = true
   ·exfalso
    rw [List.any_map, List.any_eq_true] at h1
    obtain ⟨c, hc, ha⟩ := h1
    refine h' ?_
    rw [List.any_map, List.any_eq_true]
    exact ⟨c, hc, (jA _).2 (h.any c (hx c hc) ((jA _).1 ha))⟩
   ·rw [if_neg h1] at hv
    cases hv with
    | fn _ cs _ hl hr =>
     refine .fn f cs _ (by rw [hl, List.length_map, List.length_map]) fun i u y hu hy => ?_
     rw [List.getElem?_map, Option.map_eq_some_iff] at hy
     obtain ⟨c, hc, rfl⟩ := hy
     exact h.v u c (hx c (List.mem_of_getElem? hc)) (hr i u _ hu (by rw [List.getElem?_map, hc]; rfl))
 ·have hn' : ∀ f xs, x ≠ .fn f xs := fun f xs e => hn ⟨f, xs, e⟩
  rw [z5r _ _ hn'] at hv ⊢
  refine h.v v x ?_ hv
  cases x <;> first | exact absurd rfl (hn' _ _) | exact hx
theorem TxW.v2 (h : TxW P E H E' H' H0) (v : Value) (x : RV) (hx : ok2 H0 x) (hv : VR P E v (av2 H x)) : VR P E' v (av2 H' x) := by
 by_cases hn : ∃ xs, x = .ag xs
 ·obtain ⟨xs, rfl⟩ := hn
  simp only [av2] at hv ⊢
  cases hv with
  | agg vs _ hl h1 hr =>
   refine .agg vs _ (by rw [hl, List.length_map, List.length_map]) h1 fun i u y hu hy => ?_
   rw [List.getElem?_map, Option.map_eq_some_iff] at hy
   obtain ⟨c, hc, rfl⟩ := hy
   exact h.v1 u c (hx c (List.mem_of_getElem? hc)) (hr i u _ hu (by rw [List.getElem?_map, hc]; rfl))
 ·have hn' : ∀ xs, x ≠ .ag xs := fun xs e => hn ⟨xs, e⟩
  rw [z5s _ _ hn'] at hv ⊢
  exact h.v1 v x (z38 hx hn') hv
theorem TxW.v3 (h : TxW P E H E' H' H0) (v : Value) (x : RV) (hx : ok3 H0 x) (hv : VR P E v (av3 H x)) : VR P E' v (av3 H' x) := by
 by_cases hn : ∃ xs, x = .tup xs
 ·obtain ⟨xs, rfl⟩ := hn
  simp only [av3] at hv ⊢
  cases hv with
  | tup vs _ hl hr =>
   refine .tup vs _ (by rw [hl, List.length_map, List.length_map]) fun i u y hu hy => ?_
   rw [List.getElem?_map, Option.map_eq_some_iff] at hy
   obtain ⟨c, hc, rfl⟩ := hy
   exact h.v2 u c (hx c (List.mem_of_getElem? hc)) (hr i u _ hu (by rw [List.getElem?_map, hc]; rfl))
 ·have hn' : ∀ xs, x ≠ .tup xs := fun xs e => hn ⟨xs, e⟩
  rw [z12 _ _ hn'] at hv ⊢
  exact h.v2 v x (z11 hx hn') hv
theorem zsr (hg : ∀ l, (H l).gen ≤ (H' l).gen) {x : RV} (hx : ok0 H x) : ok0 H' x := by
 cases x <;> first | exact Nat.le_trans hx (hg _) | trivial
theorem zf6 (hg : ∀ l, (H l).gen ≤ (H' l).gen) {x : RV} (hx : ok1 H x) : ok1 H' x := by
 cases x with
 | fn f caps => exact fun c hc => zsr hg (hx c hc)
 | _ => first | exact Nat.le_trans hx (hg _) | trivial
theorem zlf (hg : ∀ l, (H l).gen ≤ (H' l).gen) {x : RV} (hx : ok2 H x) : ok2 H' x := by
 by_cases hn : ∃ xs, x = .ag xs
 ·obtain ⟨xs, rfl⟩ := hn; exact fun c hc => zf6 hg (hx c hc)
 ·exact z8F _ _ (zf6 hg (z38 hx fun xs e => hn ⟨xs, e⟩)) fun xs e => hn ⟨xs, e⟩
theorem zlg (hg : ∀ l, (H l).gen ≤ (H' l).gen) {x : RV} (hx : ok3 H x) : ok3 H' x := by
 by_cases hn : ∃ xs, x = .tup xs
 ·obtain ⟨xs, rfl⟩ := hn; exact fun c hc => zlf hg (hx c hc)
 ·exact z5C _ _ (zlf hg (z11 hx fun xs e => hn ⟨xs, e⟩)) fun xs e => hn ⟨xs, e⟩
end
theorem zbo {h : Hd} {e : TypeId} {r : RT} {rows : List (DenR r)} (hg : zdB h e r = some rows) : (h.isNo = true ∧ rows = []) ∨ ∃ g, h = .flat g false e r rows := by
 unfold zdB at hg
 split at hg
 ·cases hg; exact .inl ⟨rfl, rfl⟩
 ·split at hg
  ·rename_i he
   subst he
   split at hg
   ·rename_i hr _
    subst hr
    cases hg
    exact .inr ⟨_, rfl⟩
   ·cases hg
  ·cases hg
 ·cases hg
section
variable {P : Program} {T : TT} {B : Nat} {X : Nat → Prop} {w0 : World} {S0 : Nat → Nat → Prop} {pa : List ((Nat → Value) × (Nat → RV))} {E : Env} {σ1 τ : KS} {tm : Nat → Value}
structure Hed (P : Program) (pa : List ((Nat → Value) × (Nat → RV))) (σ1 : KS) : Prop where
 t : ∀ i, ok3 σ1.H (σ1.T i)
 c : ∀ l j, okC σ1 l j
 pa : ∀ q ∈ pa, ∀ i, ok3 σ1.H (q.2 i)
 hd : ∀ l, HdOK P (σ1.H l)
theorem RelE.hed (h : RelE P B X w0 S0 pa E tm σ1) : Hed P pa σ1 := ⟨h.okT, h.okC, fun q hq i => (h.pa q hq i).2, h.hd⟩
theorem zss (hT : TOK P T) (hr : RelE P B X w0 S0 pa E tm τ) (h0 : Hed P pa σ1) {W : List Nat} {DD : List Key} {is : List It} {y : PL is} (hfT : ∀ i, i ∉ W → τ.T i = σ1.T i) (hfH : ∀ l, Key.H l ∉ DD → τ.H l = σ1.H l) (hfC : ∀ l j, Key.C l j ∉ DD → τ.C l j = σ1.C l j)
  (hDD : DD.all (z9z σ1 (itK is)) = true) (hit : itOK T W σ1 is = true) (hg : grab τ is = some y) : ∃ E', E'.w = E.w ∧ RelE P B X w0 S0 pa E' tm (Y1 σ1 is y (σ1.cut W)) := by
 have hf := z16 (ψ := σ1.cut W) hg hit
 generalize Y1 σ1 is y (σ1.cut W) = φ at hf ⊢
 have hkey : ∀ k, k ∈ DD → k ∈ itK is ∨ (match k with | .T _ => True | .H l => (σ1.H l).isNo = true | .C l _ => (σ1.H l).isNo = true) := by
  intro k hk
  have := List.all_eq_true.1 hDD k hk
  simp only [z9z, Bool.or_eq_true] at this
  rcases this with h | h
  ·exact .inl (kin_true.1 h)
  ·cases k with
   | T i => exact .inr trivial
   | H l => exact .inr h
   | C l j => exact .inr h
 have isNo : ∀ {h : Hd}, h.isNo = true → ∃ g, h = .no g := by
  intro h hh
  cases h with
  | no g => exact ⟨g, rfl⟩
  | _ => cases hh
 -- a head that is not handed on: as it was, and as it is, or nothing
 have hH0 : ∀ l, Key.H l ∉ itK is → φ.H l = σ1.H l ∧ (τ.H l = σ1.H l ∨ ∃ g, σ1.H l = .no g) := by
  intro l hl
  refine ⟨hf.h0 l hl, ?_⟩
  by_cases hd : Key.H l ∈ DD
  ·rcases hkey _ hd with h | h
   ·exact absurd h hl
   ·exact .inr (isNo h)
  ·exact .inl (hfH l hd)
 have hgen : ∀ l, (σ1.H l).gen ≤ (φ.H l).gen := by
  intro l
  by_cases hl : Key.H l ∈ itK is
  ·by_cases hl' : Key.H l ∈ itR is
   ·obtain ⟨e, r, rows, h, _⟩ := hf.h1 l hl'
    rw [h]; exact Nat.le_succ _
   ·exact (hf.h2 l hl hl').2.1
  ·rw [(hH0 l hl).1]; exact Nat.le_refl _
 let E' : Env := { E with A := fun l => E.A l ∧ (φ.H l).live }
 have dat : ∀ {v : Value} {c : C}, VR P E v (.c c) → VR P E' v (.c c) := fun h => by cases h with | c _ _ h => exact .c _ _ h
 -- a view that is the same
 have arr : ∀ {v : Value} {l o n c : Nat} {e : TypeId}, (φ.H l).live → VR P E v (.arr l o n c e) → VR P E' v (.arr l o n c e) := by
  intro v l o n c e hl h
  cases h with
  | arr0 _ _ a _ => exact .arr0 _ _ _ _
  | arr _ _ _ _ c' _ hA h1 h2 h3 h4 => exact .arr (E := E') _ _ _ _ _ _ ⟨hA, hl⟩ h1 h2 h3 h4
 have arrx : ∀ {v : Value} {l o n c : Nat} {e : TypeId}, (φ.H l).live → VR P E v (.arx l o n c e) → VR P E' v (.arx l o n c e) := by
  intro v l o n c e hl h
  cases h with
  | arx0 _ _ a _ => exact .arx0 _ _ _ _
  | arx _ _ _ _ _ hA h2 h3 h4 => exact .arx (E := E') _ _ _ _ _ ⟨hA, hl⟩ h2 h3 h4
 have ptr : ∀ {v : Value} {l o : Nat}, (φ.H l).live → VR P E v (.ptr l o) → VR P E' v (.ptr l o) := by
  intro v l o hl h
  cases h with | ptr _ _ hA => exact .ptr (E := E') _ _ ⟨hA, hl⟩
 have key : ∀ l g, g ≤ (σ1.H l).gen → YY φ.H l g ∨ φ.H l = τ.H l := by
  intro l g hg
  by_cases hl : Key.H l ∈ itK is
  ·by_cases hl' : Key.H l ∈ itR is
   ·obtain ⟨e, r, rows, h, _⟩ := hf.h1 l hl'
    exact .inl (zkV (by rw [h]; show g < _ + 1; omega))
   ·exact .inr (hf.h2 l hl hl').1
  ·obtain ⟨h1, h2⟩ := hH0 l hl
   rcases h2 with h2 | ⟨g', h2⟩
   ·exact .inr (h1.trans h2.symm)
   ·left; unfold YY; rw [h1, h2]; trivial
 have hTx : TxW P E τ.H E' φ.H σ1.H := by
  refine ⟨fun v x hx hv => ?_, fun x hx ha => ?_⟩
  ·cases x with
   | arw l g e =>
    show VR P E' v (avW φ.H l g e)
    rcases key l g hx with h | h1
    ·rw [z7c h]; exact .any _
    ·replace hv : VR P E v (avW τ.H l g e) := hv
     unfold avW at hv ⊢
     rw [h1]
     cases hq : τ.H l with
     | no _ => exact .any _
     | cells g' n c e' =>
      rw [hq] at hv
      simp only at hv ⊢
      split
      ·rename_i hc; rw [if_pos hc] at hv; exact arr (by rw [h1, hq]; trivial) hv
      ·exact .any _
     | flat g' fr e' r rows =>
      rw [hq] at hv
      simp only at hv ⊢
      split
      ·rename_i hc
       rw [if_pos hc] at hv
       split
       ·rename_i hfr; rw [if_pos hfr] at hv; exact dat hv
       ·rename_i hfr; rw [if_neg hfr] at hv; exact arr (by rw [h1, hq]; simpa [Hd.live] using hfr) hv
      ·exact .any _
   | ars l g e o m =>
    show VR P E' v (avS φ.H l g e o m)
    rcases key l g hx with h | h1
    ·rw [z7d h]; exact .any _
    ·replace hv : VR P E v (avS τ.H l g e o m) := hv
     unfold avS at hv ⊢
     rw [h1]
     cases hq : τ.H l with
     | no _ => exact .any _
     | cells g' n c e' => exact .any _
     | flat g' fr e' r rows =>
      rw [hq] at hv
      simp only at hv ⊢
      split
      ·rename_i hc
       rw [if_pos hc] at hv
       split
       ·rename_i hfr
        rw [if_pos hfr] at hv
        split
        ·rename_i hin; rw [if_pos hin] at hv; exact dat hv
        ·exact .any _
       ·rename_i hfr; rw [if_neg hfr] at hv; exact arr (by rw [h1, hq]; simpa [Hd.live] using hfr) hv
      ·exact .any _
   | ptr l g o =>
    show VR P E' v (avP φ.H l g o)
    rcases key l g hx with h | h1
    ·rw [z7e h]; exact .any _
    ·replace hv : VR P E v (avP τ.H l g o) := hv
     unfold avP at hv ⊢
     rw [h1]
     cases hq : τ.H l with
     | no _ => exact .any _
     | flat _ _ _ _ _ => exact .any _
     | cells g' n c e' =>
      rw [hq] at hv
      simp only at hv ⊢
      split
      ·rename_i hc; rw [if_pos hc] at hv; exact ptr (by rw [h1, hq]; trivial) hv
      ·exact .any _
   | arx l g e i k c =>
    show VR P E' v (avX φ.H l g e i k c)
    rcases key l g hx with h | h1
    ·rw [z7f h]; exact .any _
    ·replace hv : VR P E v (avX τ.H l g e i k c) := hv
     unfold avX at hv ⊢
     rw [h1]
     cases hq : τ.H l with
     | no _ => exact .any _
     | cells _ _ _ _ => exact .any _
     | flat g' fr e' r rows =>
      rw [hq] at hv
      simp only at hv ⊢
      split
      ·rename_i hc; rw [if_pos hc] at hv; exact arrx (by rw [h1, hq]; simpa [Hd.live] using hc.2.2) hv
      ·exact .any _
   | pel l g e i k =>
    show VR P E' v (avE φ.H l g e i k)
    rcases key l g hx with h | h1
    ·rw [z7g h]; exact .any _
    ·replace hv : VR P E v (avE τ.H l g e i k) := hv
     unfold avE at hv ⊢
     rw [h1]
     cases hq : τ.H l with
     | no _ => exact .any _
     | cells _ _ _ _ => exact .any _
     | flat g' fr e' r rows =>
      rw [hq] at hv
      simp only at hv ⊢
      split
      ·rename_i hc; rw [if_pos hc] at hv; exact ptr (by rw [h1, hq]; simpa [Hd.live] using hc.2.2) hv
      ·exact .any _
   | d c y => exact dat hv
   | nils => cases hv with | nils => exact .nils
   | el r y o => cases hv with | el b q _ vs hr' => exact .el (E := E') b q _ vs hr'
   | und => cases hv with | und => exact .und
   | ifc b => cases hv with
    | ifn => exact .ifn
    | ifs t v => exact .ifs t v
   | ag xs => exact .any _
   | tup xs => exact .any _
   | fn f xs => exact .any _
   | any => exact .any _
  ·cases x with
   | arw l g e =>
    rcases key l g hx with h | h1
    ·exact z7c h e
    ·simp only [av0, avW, h1] at ha ⊢; exact ha
   | ars l g e o m =>
    rcases key l g hx with h | h1
    ·exact z7d h e o m
    ·simp only [av0, avS, h1] at ha ⊢; exact ha
   | ptr l g o =>
    rcases key l g hx with h | h1
    ·exact z7e h o
    ·simp only [av0, avP, h1] at ha ⊢; exact ha
   | arx l g e i k c =>
    rcases key l g hx with h | h1
    ·exact z7f h e i k c
    ·simp only [av0, avX, h1] at ha ⊢; exact ha
   | pel l g e i k =>
    rcases key l g hx with h | h1
    ·exact z7g h e i k
    ·simp only [av0, avE, h1] at ha ⊢; exact ha
   | _ => exact ha
 -- rows that are handed on
 have row : ∀ {v : Value} {x : RV} {l : Nat} {e : TypeId}, Key.H l ∈ itR is → z3E τ x l e = true → VR P E v (av0 τ.H x) → VR P E' v (av0 φ.H (.arw l ((σ1.H l).gen + 1) e)) := by
  intro v x l e hl hrow hv
  obtain ⟨e', r, rows, h1, h2, _⟩ := hf.h1 l hl
  show VR P E' v (avW φ.H l ((σ1.H l).gen + 1) e)
  unfold avW
  rw [h1]
  simp only
  split
  ·rename_i hc
   obtain ⟨_, rfl⟩ := hc
   rw [if_neg (by simp)]
   unfold z3E at hrow
   split at hrow
   ·rename_i l' g e2
    simp only [Bool.and_eq_true, beq_iff_eq] at hrow
    obtain ⟨rfl, rfl, h3⟩ := hrow
    rcases zbo h2 with ⟨h4, _⟩ | ⟨g2, h4⟩
    ·obtain ⟨g3, h5⟩ := isNo h4
     rw [h5] at h3; simp at h3
    ·rw [h4] at h3
     simp only [Bool.and_eq_true, beq_iff_eq] at h3
     replace hv : VR P E v (avW τ.H l g e) := hv
     simp only [avW, h4] at hv
     rw [if_pos ⟨h3.1, trivial⟩, if_neg (by simp)] at hv
     exact arr (by rw [h1]; rfl) hv
   ·have hno : (τ.H l).isNo = true := by
     cases hq : τ.H l with
     | no _ => rfl
     | _ => rw [hq] at hrow; simp at hrow
    rcases zbo h2 with ⟨_, h4⟩ | ⟨g2, h4⟩
    ·subst h4
     replace hv : VR P E v .nils := hv
     cases hv
     exact .arr0 _ _ _ _
    ·rw [h4] at hno; cases hno
   ·cases hrow
  ·exact .any _
 have isCell_row : ∀ {x : RV} {l : Nat} {e : TypeId}, z3E τ x l e = true → av1 τ.H x = av0 τ.H x ∧ av3 τ.H x = av0 τ.H x := by
  intro x l e h
  unfold z3E at h
  split at h
  ·exact ⟨rfl, rfl⟩
  ·exact ⟨rfl, rfl⟩
  ·cases h
 have asD_cell : ∀ {c : CT} {x : RV} {z : Den c}, asD c x = some z → av3 τ.H x = av1 τ.H x := by
  intro c x z h
  unfold asD at h
  split at h
  ·rfl
  ·rfl
  ·cases h
 -- what blocks hold
 have hblk : ∀ l, (φ.H l).live → (φ.m l).length = (τ.m l).length ∧ ∀ (i : Nat) (x y : AV), (τ.m l)[i]? = some x → (φ.m l)[i]? = some y → ∀ v, VR P E v x → VR P E' v y := by
  intro l hlive
  by_cases hl : Key.H l ∈ itK is
  ·by_cases hl' : Key.H l ∈ itR is
   case neg =>
    obtain ⟨h1, _, g, e, r, rows, h2, _⟩ := hf.h2 l hl hl'
    have hm : φ.m l = zr r rows := Y4 h2
    have hm' : τ.m l = zr r rows := Y4 (h1.symm.trans h2)
    rw [hm, hm']
    refine ⟨rfl, fun i x y h5 h6 v hv => ?_⟩
    rw [h5] at h6; cases h6
    simp only [zr, List.getElem?_map, Option.map_eq_some_iff] at h5
    obtain ⟨c, _, rfl⟩ := h5
    exact dat hv
   obtain ⟨e, r, rows, h1, h2, _⟩ := hf.h1 l hl'
   have hm : φ.m l = zr r rows := Y4 h1
   rcases zbo h2 with ⟨h4, h5⟩ | ⟨g2, h4⟩
   ·obtain ⟨g3, h6⟩ := isNo h4
    subst h5
    have : τ.m l = [] := by simp [KS.m, h6]
    rw [hm, this]
    simp [zr, rw']
   ·have : τ.m l = zr r rows := Y4 h4
    rw [hm, this]
    refine ⟨rfl, fun i x y h5 h6 v hv => ?_⟩
    rw [h5] at h6; cases h6
    simp only [zr, List.getElem?_map, Option.map_eq_some_iff] at h5
    obtain ⟨c, _, rfl⟩ := h5
    exact dat hv
  ·obtain ⟨h1, h2⟩ := hH0 l hl
   rcases h2 with h2 | ⟨g', h2⟩
   ·cases hq : σ1.H l with
    | no _ => rw [h1, hq] at hlive; exact hlive.elim
    | flat g fr e r rows =>
     have e1 : φ.m l = τ.m l := by simp [KS.m, h1, h2, hq]
     rw [e1]
     refine ⟨rfl, fun i x y h5 h6 v hv => ?_⟩
     rw [h5] at h6; cases h6
     simp only [KS.m, h2, hq] at h5
     split at h5
     ·simp at h5
     ·simp only [List.getElem?_map, Option.map_eq_some_iff] at h5
      obtain ⟨c, _, rfl⟩ := h5
      exact dat hv
    | cells g n cnt e =>
     have e1 : φ.m l = (List.range n).map fun j => av1 φ.H (φ.C l j) := z39 (h1.trans hq)
     have e2 : τ.m l = (List.range n).map fun j => av1 τ.H (τ.C l j) := z39 (h2.trans hq)
     rw [e1, e2]
     refine ⟨by simp, fun i x y h5 h6 v hv => ?_⟩
     rw [List.getElem?_map, Option.map_eq_some_iff] at h5 h6
     obtain ⟨a, ha, rfl⟩ := h5
     obtain ⟨b, hb, rfl⟩ := h6
     rw [ha] at hb; cases hb
     obtain ⟨h7, h8⟩ := List.getElem?_eq_some_iff.1 ha
     simp at h7 h8; subst h8
     by_cases hc : Key.C l i ∈ itK is
     ·rcases hf.c1 l i hc with ⟨c, z, h9, h10⟩ | ⟨l2, e2, h9, h10, h11⟩
      ·rw [h9]
       exact dat (z5E h10 τ.H hv)
      ·rw [h9, z5r _ _ (by simp)]
       rw [(isCell_row h10).1] at hv
       exact row h11 h10 hv
     ·have hnd : Key.C l i ∉ DD := by
       intro hd
       rcases hkey _ hd with h | h
       ·exact hc h
       ·simp only [hq] at h; cases h
      rw [hf.c0 l i hc, show (σ1.cut W).C l i = σ1.C l i from rfl]
      rw [hfC l i hnd] at hv
      have := h0.c l i
      rw [okC, hq] at this
      exact hTx.v1 v _ (this h7) hv
   ·rw [h1, h2] at hlive; exact hlive.elim
 have hmne : ∀ l, φ.m l ≠ [] → (φ.H l).live := by
  intro l hl
  cases hq : φ.H l with
  | no _ => simp [KS.m, hq] at hl
  | cells _ _ _ _ => trivial
  | flat g fr e r rows =>
   cases fr with
   | false => rfl
   | true => simp [KS.m, hq] at hl
 refine ⟨E', rfl, ⟨hr.w3.fr, hr.w3.hB, hr.w3.s0, hr.w3.sNew, hr.w3.slt, fun l hl => ?_, fun l hA => ?_, fun l l' hA hA' => hr.w3.locne l l' hA.1 hA'.1, hr.w3.ow, hr.w3.gl⟩, fun i => ?_, fun i => ?_, fun l j => ?_, fun l => ?_, fun l hA => hA.2, fun q hq i => ?_⟩
 ·have hlive := hmne l hl
  refine ⟨hr.w3.hA l fun h => hl (List.eq_nil_of_length_eq_zero ?_), hlive⟩
  rw [(hblk l hlive).1, h]; rfl
 ·obtain ⟨cs, e, hh, hc, hs, hb⟩ := hr.w3.loc l hA.1
  obtain ⟨hbl, hbv⟩ := hblk l hA.2
  refine ⟨cs, e, hh, ⟨hc.1, by rw [hbl]; exact hc.2.1, fun i v y hv hy => ?_⟩, hs, hb⟩
  have hi : i < (τ.m l).length := by rw [← hbl]; exact (List.getElem?_eq_some_iff.1 hy).1
  have h1 := hc.2.2 i v _ hv (List.getElem?_eq_getElem hi)
  exact ⟨hbv i _ y (List.getElem?_eq_getElem hi) hy v h1.1, h1.2⟩
 ·rcases hf.t i with h | ⟨hw, ⟨c, z, h9, h10⟩ | ⟨l2, e2, h9, h10, h11⟩⟩
  ·rw [h]
   show VR P E' (tm i) (av3 φ.H (bif natIn i W then .any else σ1.T i))
   cases hw : natIn i W with
   | true => exact .any _
   | false =>
    have hni : i ∉ W := fun h' => by rw [natIn_iff.2 h'] at hw; cases hw
    have h5 := hr.t i
    rw [hfT i hni] at h5
    exact hTx.v3 _ _ (h0.t i) h5
  ·rw [h9]
   have h5 := hr.t i
   rw [asD_cell h10] at h5
   exact dat (z5E h10 τ.H h5)
  ·rw [h9]
   have h5 := hr.t i
   rw [(isCell_row h10).2] at h5
   exact row h11 h10 h5
 ·rcases hf.t i with h | ⟨hw, ⟨c, z, h9, h10⟩ | ⟨l2, e2, h9, h10, h11⟩⟩
  ·rw [h]
   show ok3 φ.H (bif natIn i W then .any else σ1.T i)
   cases natIn i W with
   | true => trivial
   | false => exact zlg hgen (h0.t i)
  ·rw [h9]; trivial
  ·rw [h9]
   obtain ⟨e, r, rows, h1, _⟩ := hf.h1 l2 h11
   show _ ≤ (φ.H l2).gen
   rw [h1]; exact Nat.le_refl _
 ·unfold okC
  split
  ·rename_i g n cnt e hq
   intro hj
   by_cases hc : Key.C l j ∈ itK is
   ·rcases hf.c1 l j hc with ⟨c, z, h9, h10⟩ | ⟨l2, e2, h9, h10, h11⟩
    ·rw [h9]; trivial
    ·rw [h9]
     obtain ⟨e, r, rows, h1, _⟩ := hf.h1 l2 h11
     show _ ≤ (φ.H l2).gen
     rw [h1]; exact Nat.le_refl _
   ·rw [hf.c0 l j hc]
    have hl : Key.H l ∉ itK is := by
     intro hl
     by_cases hl' : Key.H l ∈ itR is
     ·obtain ⟨e, r, rows, h1, _⟩ := hf.h1 l hl'
      rw [h1] at hq; cases hq
     ·obtain ⟨_, _, g, e, r, rows, h1, _⟩ := hf.h2 l hl hl'
      rw [h1] at hq; cases hq
    have h1 := (hH0 l hl).1
    rw [hq] at h1
    have := h0.c l j
    rw [okC, ← h1] at this
    exact zf6 hgen (this hj)
  ·trivial
 ·by_cases hl : Key.H l ∈ itK is
  ·by_cases hl' : Key.H l ∈ itR is
   ·obtain ⟨e, r, rows, h1, _, h3⟩ := hf.h1 l hl'
    rw [h1]; exact zbn hT h3
   ·obtain ⟨_, _, g, e, r, rows, h1, h3⟩ := hf.h2 l hl hl'
    rw [h1]; exact zbn hT h3
  ·rw [(hH0 l hl).1]; exact h0.hd l
 ·exact ⟨hTx.v3 _ _ (h0.pa q hq i) (hr.pa q hq i).1, zlg hgen (h0.pa q hq i)⟩
end
end Go.Kx
namespace Go.Kx
open Go.Rb
section
variable {P : Program} {T : TT} {B : Nat} {X : Nat → Prop} {w0 : World} {S0 : Nat → Nat → Prop} {pa : List ((Nat → Value) × (Nat → RV))} {E : Env} {σ : KS} {tm : Nat → Value}
theorem zoK {β : Type} {o : Option β} {x : β} (h : Rdr.run σ (optR o) = some x) : o = some x := by
 cases o with
 | none => cases h
 | some y => cases h; rfl
theorem zlh (H : Nat → Hd) {r : RT} : ∀ {n : Nat} {xs : List RV} {rows : List (DenR r)}, zfP r n xs = some rows → rows.length = n ∧ ∀ (i : Nat) (x : RV) (c : C), xs[i]? = some x → (rw' r rows).flatten[i]? = some c → ∀ v, VR P E v (av1 H x) → VR P E v (.c c)
 | 0, xs, rows, h => by
  have h' : some ([] : List (DenR r)) = some rows := h
  cases h'
  exact ⟨rfl, fun i x c _ h => by simp [rw'] at h⟩
 | n + 1, xs, rows, h => by
  simp only [zfP] at h
  split at h
  ·rename_i y ys h1 h2
   cases h
   obtain ⟨h3, h4⟩ := z3P (P := P) (E := E) H h1
   obtain ⟨h5, h6⟩ := zlh (H := H) h2
   refine ⟨by simp [h5], fun i x c hx hc v hv => ?_⟩
   have hfl : (rw' r (y :: ys)).flatten = encR r y ++ (rw' r ys).flatten := by simp [rw']
   rw [hfl] at hc
   have hel := ZW r y
   by_cases hi : i < r.size
   ·rw [List.getElem?_append_left (by omega)] at hc
    exact h4 i x c (by rw [List.getElem?_take, if_pos hi]; exact hx) hc v hv
   ·rw [List.getElem?_append_right (by omega), hel] at hc
    exact h6 (i - r.size) x c (by rw [List.getElem?_drop]; rw [show r.size + (i - r.size) = i by omega]; exact hx) hc v hv
  ·cases h
theorem zpG (hr : RelE P B X w0 S0 pa E tm σ) {l k g2 l2 n2 cnt : Nat} {e : TypeId} {r : RT} {rows : List (DenR r)} (hC : σ.C l k = .arw l2 g2 e) (hl2 : σ.H l2 = .cells g2 n2 cnt e) (hne : l2 ≠ l) (hn : n2 = cnt * r.size) (hc : cnt ≠ 0)
  (hrows : zfP r cnt ((List.range n2).map (σ.C l2)) = some rows) : RelE P B X w0 S0 pa E tm (σ.puts [(.H l2, .hd (.flat (g2 + 1) false e r rows)), (.C l k, .rv (.arw l2 (g2 + 1) e))]) := by
 obtain ⟨h2, h3⟩ := zlh (P := P) (E := E) σ.H hrows
 have hsz : r.size = P.cellsOf e := by
  have h := hr.hd l2
  rw [hl2] at h
  have h' := h hc
  rw [hn] at h'
  exact Nat.eq_of_mul_eq_mul_left (Nat.pos_of_ne_zero hc) h'
 let H' := updH σ.H l2 (.flat (g2 + 1) false e r rows)
 let C' : Nat → Nat → RV := fun x y => if x = l ∧ y = k then .arw l2 (g2 + 1) e else σ.C x y
 have hgen := vl (H := σ.H) (l := l2) (h := .flat (g2 + 1) false e r rows) (by rw [hl2]; exact Nat.lt_succ_self g2)
 have hTx : Tx P E σ.H E H' := Tx.upd hgen.1 hgen.2 envKill_le
 have hview : av0 σ.H (.arw l2 g2 e) = .arr l2 0 cnt cnt e := by show avW σ.H l2 g2 e = _; simp [avW, hl2, hc]
 have hview' : av0 H' (.arw l2 (g2 + 1) e) = .arr l2 0 cnt cnt e := by show avW H' l2 (g2 + 1) e = _; simp [avW, H', zt, h2]
 have hok' : ok0 H' (.arw l2 (g2 + 1) e) := by show g2 + 1 ≤ (H' l2).gen; simp [H', zt, Hd.gen]
 have e1 : σ.puts [(Key.H l2, Sl.hd (.flat (g2 + 1) false e r rows)), (Key.C l k, Sl.rv (.arw l2 (g2 + 1) e))] = ({ T := σ.T, H := H', C := C' } : KS) := by
  simp only [KS.puts]
  rw [y7]
  simp only [KS.put, nbeq, Sl.rv!]
  congr 1
  funext x y
  by_cases h5 : x = l <;> by_cases h6 : y = k <;> simp [C', h5, h6]
 rw [e1]
 have hm : ∀ q, (({ T := σ.T, H := H', C := C' } : KS).m q).length = (σ.m q).length ∧ ∀ (i : Nat) (y z : AV), (σ.m q)[i]? = some y → (({ T := σ.T, H := H', C := C' } : KS).m q)[i]? = some z → ∀ v, VR P E v y → VR P E v z := by
  intro q
  by_cases hq : q = l2
  ·subst hq
   have e2 : ({ T := σ.T, H := H', C := C' } : KS).m q = zr r rows := by simp [KS.m, H', zt, zr, rw']
   have e3 : σ.m q = (List.range n2).map fun j => av1 σ.H (σ.C q j) := z39 hl2
   rw [e2, e3]
   refine ⟨by rw [Zo, List.length_map, List.length_range, h2, hn], fun i y z h5 h6 v hv => ?_⟩
   rw [List.getElem?_map, Option.map_eq_some_iff] at h5
   obtain ⟨j, hj, rfl⟩ := h5
   obtain ⟨h7, h8⟩ := List.getElem?_eq_some_iff.1 hj
   simp at h7 h8; subst h8
   rw [zr, List.getElem?_map, Option.map_eq_some_iff] at h6
   obtain ⟨c, hcc, rfl⟩ := h6
   exact h3 i (σ.C q i) c (by rw [List.getElem?_map, hj]; rfl) hcc v hv
  ·cases hq' : σ.H q with
   | no _ => simp [KS.m, H', zR _ hq, hq']
   | flat g2 fr e2 r2 rows2 =>
    simp only [KS.m, H', zR _ hq, hq']
    exact ⟨trivial, fun i y z h1 h2 v hv => by rw [h1] at h2; cases h2; exact hv⟩
   | cells g3 n3 c3 e3 =>
    simp only [KS.m, H', zR _ hq, hq', List.length_map, true_and]
    intro i y z h5 h6 v hv
    rw [List.getElem?_map, Option.map_eq_some_iff] at h5 h6
    obtain ⟨p, hp, rfl⟩ := h5
    obtain ⟨p', hp', rfl⟩ := h6
    rw [hp] at hp'; cases hp'
    obtain ⟨h7, h8⟩ := List.getElem?_eq_some_iff.1 hp
    simp at h7 h8; subst h8
    by_cases hlk : q = l ∧ i = k
    ·obtain ⟨rfl, rfl⟩ := hlk
     rw [hC] at hv
     have e4 : C' q i = .arw l2 (g2 + 1) e := by simp [C']
     rw [e4]
     show VR P E v (av0 H' (.arw l2 (g2 + 1) e))
     rw [hview']
     replace hv : VR P E v (av0 σ.H (.arw l2 g2 e)) := hv
     rw [hview] at hv; exact hv
    ·have e4 : C' q i = σ.C q i := if_neg hlk
     rw [e4]
     have := hr.okC q i
     rw [okC, hq'] at this
     exact hTx.v1 v _ (this h7) hv
 refine hr.step (σ' := { T := σ.T, H := H', C := C' }) hr.w3 (fun q => Nat.le_of_eq (hm q).1) (fun q => (hm q).2) hTx rfl (fun q j => ?_) (z3a hr.hd hsz) (jB fun q _ hA => hr.live q hA)
 by_cases hq : q = l2
 ·subst hq; simp [okC, H', zt]
 ·have h0 := hr.okC q j
  cases hq' : σ.H q with
  | no _ => simp [okC, H', zR _ hq, hq']
  | flat _ _ _ _ _ => simp [okC, H', zR _ hq, hq']
  | cells g3 n3 c3 e3 =>
   rw [okC, hq'] at h0
   simp only [okC, H', zR _ hq, hq']
   intro hj
   by_cases hlk : q = l ∧ j = k
   ·have e4 : C' q j = .arw l2 (g2 + 1) e := if_pos hlk
    rw [e4]; exact hok'
   ·have e4 : C' q j = σ.C q j := if_neg hlk
    rw [e4]; exact hTx.ok1 _ (h0 hj)
theorem RelE.grownX (hr : RelE P B X w0 S0 pa E tm σ) {w' : World} {S2 : Nat → Nat → Prop} {Y : Nat → Prop} (hfr : Fr E.w.heap.size Y E.w w') (hY : ∀ b, Y b → (B ≤ b ∨ X b) ∧ (∀ o, ¬ E.S b o) ∧ ∀ k, E.A k → E.β k ≠ b)
  (h1 : ∀ b o, E.S b o → S2 b o) (h2 : ∀ b o, S2 b o → E.S b o ∨ E.w.heap.size ≤ b ∨ Y b) (h3 : ∀ b o, S2 b o → b < w'.heap.size) :
  RelE P B X w0 S0 pa { E with w := w', S := S2 } tm σ ∧ E.le { E with w := w', S := S2 } := by
 have hle : E.le { E with w := w', S := S2 } := by
  refine ⟨fun b o u hs hc => ?_, h1, fun _ h => ⟨h, rfl, rfl⟩, fun _ _ _ _ h => .inl h, fun _ _ h => h⟩
  exact (z0V (hfr.block b (hr.w3.slt b o hs) (fun hy => (hY b hy).2.1 o hs))).trans hc
 have hw : W3 P B X w0 S0 { E with w := w', S := S2 } σ.m := by
  refine ⟨⟨hfr.os.trans hr.w3.fr.os, hfr.tape.trans hr.w3.fr.tape, hfr.output.trans hr.w3.fr.output, Nat.le_trans hr.w3.fr.size hfr.size, fun k hk hX => (hfr.block k (Nat.lt_of_lt_of_le hk hr.w3.hB) (fun hy => ?_)).trans (hr.w3.fr.block k hk hX)⟩, Nat.le_trans hr.w3.hB hfr.size,
   fun b o h => h1 b o (hr.w3.s0 b o h), fun b o h => ?_, h3, hr.w3.hA, fun l hA => ?_, hr.w3.locne, hr.w3.ow, hr.w3.gl⟩
  ·rcases (hY k hy).1 with h | h
   ·exact absurd hk (Nat.not_lt.2 h)
   ·exact hX h
  ·rcases h2 b o h with h | h | h
   ·exact hr.w3.sNew b o h
   ·exact .inr (.inl (Nat.le_trans hr.w3.hB h))
   ·exact .inr (hY b h).1
  ·obtain ⟨cs, e, hh, hc, hs, hb⟩ := hr.w3.loc l hA
   refine ⟨cs, e, (hfr.block _ (hr.w3.lt hA) (fun hy => (hY _ hy).2.2 l hA rfl)).trans hh, hc.mono hle, fun o ho => ?_, hb⟩
   rcases h2 _ _ ho with h | h | h
   ·exact hs o h
   ·exact absurd h (Nat.not_le.2 (hr.w3.lt hA))
   ·exact (hY _ h).2.2 l hA rfl
 exact ⟨hr.step hw (fun _ => Nat.le_refl _) (fun l i x y h4 h5 v hv => by rw [h4] at h5; cases h5; exact hv) (Tx.le hle) rfl hr.okC hr.hd hr.live, hle⟩
theorem zpH (hr : RelE P B X w0 S0 pa E tm σ) {i l g n cnt : Nat} {e : TypeId} {r : RT} {y : DenR r} (hi : σ.T i = .ptr l g 0) (hH : σ.H l = .cells g n cnt e) (hy : asR r ((List.range n).map (σ.C l)) = some y) :
  ∃ E', E'.w = E.w ∧ RelE P B X w0 S0 pa E' tm (σ.puts [(.H l, .hd (.no (g + 1))), (.T i, .rv (.el r y 0))]) := by
 have hv := hr.t i
 have hav : av3 σ.H (σ.T i) = .ptr l 0 := by rw [hi]; show avP σ.H l g 0 = _; simp [avP, hH]
 rw [hav] at hv
 obtain ⟨hA, htm⟩ : E.A l ∧ tm i = .pointer (some ⟨E.β l, 0, none⟩) := by
  generalize tm i = q at hv
  cases hv with
  | ptr _ _ hA => exact ⟨hA, rfl⟩
 obtain ⟨cs, ty, hh, hb, hs, hbb⟩ := hr.w3.loc l hA
 obtain ⟨h1, h2⟩ := z3P (P := P) (E := E) σ.H hy
 rw [List.length_map, List.length_range] at h1
 have hr1 := hr.kill (l := l) (g := g + 1) (by rw [hH]; exact Nat.le_succ g)
 let S2 : Nat → Nat → Prop := fun b o => E.S b o ∨ (b = E.β l ∧ o < n)
 obtain ⟨hr2, hle⟩ := hr1.grownX (w' := E.w) (S2 := S2) (Y := fun b => b = E.β l) (Fr.refl _ _ _) (fun b hb' => by
   subst hb'
   exact ⟨hbb, hs, fun k hk he => hk.2 (hr.w3.locne k l hk.1 hA he)⟩) (fun b o h => .inl h) (fun b o h => by
   rcases h with h | h
   ·exact .inl h
   ·exact .inr (.inr h.1)) (fun b o h => by
   rcases h with h | ⟨rfl, _⟩
   ·exact hr.w3.slt b o h
   ·exact (Array.getElem?_eq_some_iff.1 hh).1)
 have hel : VR P { ZH E l with w := E.w, S := S2 } (tm i) (av3 (σ.put (.H l) (.hd (.no (g + 1)))).H (.el r y 0)) := by
  rw [htm]
  show VR P _ _ (.el ((encR r y).drop 0))
  rw [List.drop_zero]
  have hml : σ.m l = (List.range n).map fun j => av1 σ.H (σ.C l j) := z39 hH
  refine .el (E.β l) 0 (encR r y) (fun j => cs.getD j undef) fun j x hj => ?_
  have hjn : j < n := by rw [h1, ← ZW r y]; exact (List.getElem?_eq_some_iff.1 hj).1
  have hmj : (σ.m l)[j]? = some (av1 σ.H (σ.C l j)) := by rw [hml, List.getElem?_map, List.getElem?_range hjn]; rfl
  have hcs : j < cs.size := by rw [hb.1]; exact Nat.lt_of_lt_of_le (List.getElem?_eq_some_iff.1 hmj).1 hb.2.1
  have hget : cs[j]? = some (cs.getD j undef) := by simp [Array.getD_eq_getD_getElem?, Array.getElem?_eq_getElem hcs]
  have h5 := (hb.2.2 j _ _ hget hmj).1
  have h6 := h2 j (σ.C l j) x (by rw [List.getElem?_map, List.getElem?_range hjn]; rfl) hj _ h5
  refine ⟨⟨?_, .inr ⟨rfl, by omega⟩⟩, (jy h6).mono (fun _ _ _ _ h => h) fun _ _ h => .inl h⟩
  show E.w.cell? ⟨E.β l, 0 + j, none⟩ = _
  rw [Nat.zero_add, cell_of_row _ _ _ _ _ _ hh, hget]
 have h7 := hr2.putT (d := i) (x := .el r y 0) hel trivial
 refine ⟨{ ZH E l with w := E.w, S := S2 }, rfl, ?_⟩
 have : updV tm i (tm i) = tm := by
  funext j
  unfold updV
  split
  ·rename_i h; rw [h]
  ·rfl
 rw [this] at h7
 exact h7
end
end Go.Kx
namespace Go.Kx
open Go.Rb
section
variable {P : Program} {T : TT} {Γ : FuncId → Option GS} {B : Nat} {X : Nat → Prop} {w0 : World} {S0 : Nat → Nat → Prop} {pa : List ((Nat → Value) × (Nat → RV))} {n : Nat} {E : Env} {σ : KS} {tm : Nat → Value} {a : Act} {w : World} {α : Type} {r : α}
theorem zbp {i : Nat} : updV tm i (tm i) = tm := by
 funext j
 unfold updV
 split
 ·rename_i h; rw [h]
 ·rfl
theorem zpI (hr : RelE P B X w0 S0 pa E tm σ) {x y : RV} {ws : Ws} (h : Rdr.run σ (frz1 x) = some (y, ws)) (hx : ok3 σ.H x) :
  ∃ E', FrzTo P B X w0 S0 pa tm E σ σ E' (σ.puts ws) ∧ ok3 (σ.puts ws).H y ∧ ∀ v, VR P E v (av3 σ.H x) → VR P E' v (av3 (σ.puts ws).H y) := by
 have other : Rdr.run σ (frz0 x) = some (y, ws) → (∀ xs, x ≠ .ag xs) → ∃ E', FrzTo P B X w0 S0 pa tm E σ σ E' (σ.puts ws) ∧ ok3 (σ.puts ws).H y ∧ ∀ v, VR P E v (av3 σ.H x) → VR P E' v (av3 (σ.puts ws).H y) := by
  intro h hna
  by_cases hc : (∃ l g e, x = .arw l g e) ∨ ∃ l g e o m, x = .ars l g e o m
  ·obtain ⟨E', h1, h2⟩ := z1Y hr (.refl σ) h
   have hx1 : ok1 σ.H x := by rcases hc with ⟨l, g, e, rfl⟩ | ⟨l, g, e, o, m, rfl⟩ <;> exact hx
   obtain ⟨h3, h4⟩ := h2 hx1
   have hy : ∃ c z, y = .d c z := by
    rcases hc with ⟨l, g, e, rfl⟩ | ⟨l, g, e, o, m, rfl⟩
    ·simp only [frz0, Rdr.run, KS.lk, Sl.hd!] at h
     split at h
     ·split at h
      ·cases h; exact ⟨_, _, rfl⟩
      ·cases h
     ·cases h
    ·simp only [frz0, Rdr.run, KS.lk, Sl.hd!] at h
     split at h
     ·rename_i g' fr e' r rows hH
      split at h
      ·simp only [Rdr.run] at h
       cases hb : inN rows o m with
       | false => rw [hb] at h; cases h
       | true => rw [hb] at h; cases h; exact ⟨_, _, rfl⟩
      ·cases h
     ·cases h
   obtain ⟨c, z, rfl⟩ := hy
   refine ⟨E', h1, trivial, fun v hv => ?_⟩
   have hv1 : VR P E v (av1 σ.H x) := by rcases hc with ⟨l, g, e, rfl⟩ | ⟨l, g, e, o, m, rfl⟩ <;> exact hv
   exact h4 v hv1
  ·have : frz0 x = .ret (x, []) := by
    cases x with
    | arw l g e => exact absurd (.inl ⟨l, g, e, rfl⟩) hc
    | ars l g e o m => exact absurd (.inr ⟨l, g, e, o, m, rfl⟩) hc
    | _ => rfl
   rw [this] at h
   cases h
   exact ⟨E, .refl hr (.refl σ), hx, fun v hv => hv⟩
 by_cases hag : ∃ xs, x = .ag xs
 ·obtain ⟨xs, rfl⟩ := hag
  simp only [frz1, Rdr.run_bind, Option.bind_eq_some_iff, Rdr.run, Option.some.injEq] at h
  obtain ⟨⟨ys, w1⟩, h1, h2⟩ := h
  cases h2
  obtain ⟨E', h3, h4, h5, h6⟩ := z4Z hr (.refl σ) h1 hx
  refine ⟨E', h3, h5, fun v hv => ?_⟩
  replace hv : VR P E v (.agg (xs.map (av1 σ.H))) := hv
  cases hv with
  | agg vs _ hl h7 hr' =>
   refine .agg vs _ (by rw [hl, List.length_map, List.length_map, h4]) h7 fun i u z hu hz => ?_
   rw [List.getElem?_map, Option.map_eq_some_iff] at hz
   obtain ⟨b, hb, rfl⟩ := hz
   have hi : i < xs.length := by rw [← h4]; exact (List.getElem?_eq_some_iff.1 hb).1
   exact h6 i _ b (List.getElem?_eq_getElem hi) hb u (hr' i u _ hu (by rw [List.getElem?_map, List.getElem?_eq_getElem hi]; rfl))
 ·refine other ?_ fun xs e => hag ⟨xs, e⟩
  have : frz1 x = frz0 x := by cases x <;> first | rfl | exact absurd ⟨_, rfl⟩ hag
  rw [← this]; exact h
theorem zqU {α : Type} {l : List α} {q : α × α × α × α} (h : four l = some q) : l = [q.1, q.2.1, q.2.2.1, q.2.2.2] := by
 unfold four at h
 split at h
 ·cases h; rfl
 ·cases h
theorem zg5 (hr : RelE P B X w0 S0 pa E tm σ) {x : RV} {key : Key} {ws : Ws} (hk : (∃ i, key = .T i ∧ σ.T i = x) ∨ ∃ l0 g0 n0 c0 e0 k, key = .C l0 k ∧ σ.H l0 = .cells g0 n0 c0 e0 ∧ σ.C l0 k = x) (h : Rdr.run σ (zkE key x) = some ws) : RelE P B X w0 S0 pa E tm (σ.puts ws) := by
 unfold zkE at h
 split at h
 ·rename_i l g e
  simp only [Rdr.run, KS.lk, Sl.hd!] at h
  split at h
  ·rename_i g' e' r rows hH
   split at h
   ·rename_i hc
    obtain ⟨rfl, rfl⟩ := hc
    cases hq : four rows with
    | none => simp only [Rdr.run, hq] at h; cases h
    | some q =>
     simp only [Rdr.run, hq] at h
     cases h
     have hrows := zqU hq
     have hsz : r.size = P.cellsOf e := by have := hr.hd l; rw [hH] at this; exact this
     generalize hxs : zV r q.1 ++ (zV r q.2.1 ++ (zV r q.2.2.1 ++ zV r q.2.2.2)) = xs
     have hxl : xs.length = 4 * r.size := by rw [← hxs]; simp [z7h]; omega
     have hxd : ∀ y ∈ xs, ∃ c z, y = RV.d c z := by
      intro y hy
      rw [← hxs] at hy
      simp only [List.mem_append] at hy
      rcases hy with hy | hy | hy | hy <;> exact Jo r _ y hy
     have hxm : ∀ H, xs.map (av1 H) = zr r rows := by
      intro H
      rw [← hxs, hrows]
      simp [zr, rw', vk]
     have hlen : rows.length = 4 := by rw [hrows]; rfl
     let H' := updH σ.H l (.cells (g + 1) (4 * r.size) 4 e)
     have hgen := vl (H := σ.H) (l := l) (h := .cells (g + 1) (4 * r.size) 4 e) (by rw [hH]; exact Nat.lt_succ_self g)
     have hTx : Tx P E σ.H E H' := Tx.upd hgen.1 hgen.2 envKill_le
     have hview : av0 σ.H (.arw l g e) = .arr l 0 4 4 e := by show avW σ.H l g e = _; simp [avW, hH, hlen]
     have hview' : av0 H' (.arw l (g + 1) e) = .arr l 0 4 4 e := by show avW H' l (g + 1) e = _; simp [avW, H', zt]
     have hok' : ok0 H' (.arw l (g + 1) e) := by show g + 1 ≤ (H' l).gen; simp [H', zt, Hd.gen]
     have hhd : ∀ k, HdOK P (H' k) := z3a hr.hd (fun _ => by rw [hsz])
     have hlive : ∀ k, E.A k → (H' k).live := by
      intro k hk
      by_cases hkl : k = l
      ·subst hkl; simp [H', zt, Hd.live]
      ·simp only [H', zR _ hkl]; exact hr.live k hk
     -- cells, whatever C is elsewhere
     have main : ∀ (C' : Nat → Nat → RV), (∀ j, j < 4 * r.size → C' l j = xs.getD j .any) → (∀ k j, k ≠ l → C' k j = σ.C k j ∨ (C' k j = .arw l (g + 1) e ∧ σ.C k j = .arw l g e)) → RelE P B X w0 S0 pa E tm { T := σ.T, H := H', C := C' } := by
      intro C' hC1 hC2
      have hm : ∀ k, (({ T := σ.T, H := H', C := C' } : KS).m k).length = (σ.m k).length ∧ ∀ (i : Nat) (y z : AV), (σ.m k)[i]? = some y → (({ T := σ.T, H := H', C := C' } : KS).m k)[i]? = some z → ∀ v, VR P E v y → VR P E v z := by
       intro k
       by_cases hk : k = l
       ·subst hk
        have e1 : ({ T := σ.T, H := H', C := C' } : KS).m k = xs.map (av1 H') := by
         simp only [KS.m, H', zt]
         apply List.ext_getElem?
         intro j
         rw [List.getElem?_map, List.getElem?_map]
         by_cases hj : j < 4 * r.size
         ·rw [List.getElem?_range hj]
          have h9 : j < xs.length := by rw [hxl]; exact hj
          simp only [Option.map_some]
          rw [hC1 j hj]; simp [List.getD, List.getElem?_eq_getElem h9]
         ·rw [List.getElem?_eq_none (by simpa using hj), List.getElem?_eq_none (by rw [hxl]; omega)]; rfl
        have e2 : σ.m k = zr r rows := Y4 hH
        rw [e1, e2, hxm]
        refine ⟨rfl, fun i y z h1 h2 v hv => ?_⟩
        rw [h1] at h2; cases h2; exact hv
       ·cases hq' : σ.H k with
        | no _ => simp [KS.m, H', zR _ hk, hq']
        | flat g2 fr e2 r2 rows2 =>
         simp only [KS.m, H', zR _ hk, hq']
         exact ⟨trivial, fun i y z h1 h2 v hv => by rw [h1] at h2; cases h2; exact hv⟩
        | cells g2 n2 c2 e2 =>
         simp only [KS.m, H', zR _ hk, hq', List.length_map, true_and]
         intro i y z h1 h2 v hv
         rw [List.getElem?_map, Option.map_eq_some_iff] at h1 h2
         obtain ⟨p, hp, rfl⟩ := h1
         obtain ⟨p', hp', rfl⟩ := h2
         rw [hp] at hp'; cases hp'
         obtain ⟨h3, h4⟩ := List.getElem?_eq_some_iff.1 hp
         simp at h3 h4; subst h4
         rcases hC2 k i hk with h5 | ⟨h5, h6⟩
         ·rw [h5]
          have := hr.okC k i
          rw [okC, hq'] at this
          exact hTx.v1 v _ (this h3) hv
         ·rw [h5]
          rw [h6] at hv
          show VR P E v (av0 H' (.arw l (g + 1) e))
          rw [hview']
          replace hv : VR P E v (av0 σ.H (.arw l g e)) := hv
          rw [hview] at hv; exact hv
      refine hr.step (σ' := { T := σ.T, H := H', C := C' }) hr.w3 (fun k => Nat.le_of_eq (hm k).1) (fun k => (hm k).2) hTx rfl (fun k j => ?_) hhd hlive
      by_cases hk : k = l
      ·subst hk
       simp only [okC, H', zt]
       intro hj
       rw [hC1 j hj]
       have h9 : j < xs.length := by rw [hxl]; exact hj
       have : xs.getD j .any ∈ xs := by simp [List.getD, List.getElem?_eq_getElem h9]
       obtain ⟨c, z, hcz⟩ := hxd _ this
       rw [hcz]; trivial
      ·have h0 := hr.okC k j
       cases hq' : σ.H k with
       | no _ => simp [okC, H', zR _ hk, hq']
       | flat _ _ _ _ _ => simp [okC, H', zR _ hk, hq']
       | cells g2 n2 c2 e2 =>
        rw [okC, hq'] at h0
        simp only [okC, H', zR _ hk, hq']
        intro hj
        rcases hC2 k j hk with h5 | ⟨h5, h6⟩
        ·rw [h5]; exact hTx.ok1 _ (h0 hj)
        ·rw [h5]; exact hok'
     rcases hk with ⟨i, rfl, hi⟩ | ⟨l0, g0, n0, c0, e0, k, rfl, hl0, hi⟩
     ·have h1 := main (updC σ.C l 0 xs) (fun j hj => by simp only [updC, Nat.zero_le, Nat.zero_add, true_and, Nat.sub_zero]; rw [if_pos (by omega)]) (fun k j hk => .inl (by simp [updC, hk]))
      have h2 := h1.putT (d := i) (x := .arw l (g + 1) e) (v := tm i) (by
       show VR P E (tm i) (av0 H' (.arw l (g + 1) e))
       rw [hview']
       have h5 := hr.t i
       rw [hi] at h5
       replace h5 : VR P E (tm i) (av0 σ.H (.arw l g e)) := h5
       rw [hview] at h5; exact h5) hok'
      rw [zbp] at h2
      have e1 : σ.puts ((Key.H l, Sl.hd (.cells (g + 1) (4 * r.size) 4 e)) :: (Key.T i, Sl.rv (.arw l (g + 1) e)) :: putL l 0 xs) = ({ T := σ.T, H := H', C := updC σ.C l 0 xs } : KS).put (.T i) (.rv (.arw l (g + 1) e)) := by
       simp only [KS.puts]
       rw [y7, z14]
       rfl
      rw [e1]; exact h2
     ·have hne : l0 ≠ l := by rintro rfl; rw [hH] at hl0; cases hl0
      have h1 := main (updC (fun x y => if x = l0 ∧ y = k then .arw l (g + 1) e else σ.C x y) l 0 xs) (fun j hj => by simp only [updC, Nat.zero_le, Nat.zero_add, true_and, Nat.sub_zero]; rw [if_pos (by omega)]) (fun m j hm => by
       simp only [updC, hm, false_and, if_false]
       by_cases hmk : m = l0 ∧ j = k
       ·rw [if_pos hmk]; obtain ⟨rfl, rfl⟩ := hmk; exact .inr ⟨rfl, hi⟩
       ·rw [if_neg hmk]; exact .inl rfl)
      have e1 : σ.puts ((Key.H l, Sl.hd (.cells (g + 1) (4 * r.size) 4 e)) :: (Key.C l0 k, Sl.rv (.arw l (g + 1) e)) :: putL l 0 xs) = ({ T := σ.T, H := H', C := updC (fun x y => if x = l0 ∧ y = k then .arw l (g + 1) e else σ.C x y) l 0 xs } : KS) := by
       simp only [KS.puts]
       rw [y7, z14]
       simp only [KS.put, nbeq, Sl.rv!]
       congr 1
       congr 1
       funext x y
       by_cases h5 : x = l0 <;> by_cases h6 : y = k <;> simp [h5, h6]
      rw [e1]; exact h1
   ·cases h
  ·cases h
 ·cases h
theorem RelE.trim (hr : RelE P B X w0 S0 pa E tm σ) {l g : Nat} {e : TypeId} {r : RT} {rows : List (DenR r)} (hH : σ.H l = .flat g false e r rows) (len : Nat) :
  RelE P B X w0 S0 pa E tm (σ.put (.H l) (.hd (.flat (g + 1) false e r (rows.take len)))) := by
 have hgen := vl (H := σ.H) (l := l) (h := .flat (g + 1) false e r (rows.take len)) (by rw [hH]; exact Nat.lt_succ_self g)
 have hsz : r.size = P.cellsOf e := by have := hr.hd l; rw [hH] at this; exact this
 have hml := Y4 hH
 have hw : W3 P B X w0 S0 E (setM σ.m l (zr r (rows.take len))) := by
  refine hr.w3.weak (fun k => ?_) (fun k i x y h1 h2 v hv => ?_)
  ·simp only [setM]
   split
   ·rename_i hk; subst hk; rw [hml, z5t]; simp [zr]; omega
   ·exact Nat.le_refl _
  ·simp only [setM] at h2
   split at h2
   ·rename_i hk
    subst hk
    rw [hml] at h1
    rw [z5t, List.getElem?_take] at h2
    split at h2
    ·have h1' : (zr r rows)[i]? = some x := h1
     rw [h1'] at h2; cases h2; exact hv
    ·cases h2
   ·rw [h1] at h2; cases h2; exact hv
 exact hr.heads (by simp) z3b hw (Tx.upd hgen.1 hgen.2 envKill_le) (Tx.upd hgen.1 hgen.2 envKill_le) hsz (jB fun k hkl hk => hr.live k hk)
theorem zoL {x y : RV} {ws : Ws} (h : Rdr.run σ (frz0 x) = some (y, ws)) : av1 (σ.puts ws).H x = av1 (σ.puts ws).H y := by
 unfold frz0 at h
 split at h
 ·rename_i l g e
  simp only [Rdr.run, KS.lk, Sl.hd!] at h
  split at h
  ·rename_i g' fr e' r rows hH
   split at h
   ·rename_i hc
    obtain ⟨rfl, rfl⟩ := hc
    cases h
    show avW _ l g e = .c (.sl e (rows.map (encR r)))
    cases fr with
    | true => simp [avW, KS.puts, hH]
    | false =>
     show avW ((σ.put (.H l) _).H) l g e = _
     rw [y7]; simp [avW, zt]
   ·cases h
  ·cases h
 ·rename_i l g e off len
  simp only [Rdr.run, KS.lk, Sl.hd!] at h
  split at h
  ·rename_i g' fr e' r rows hH
   split at h
   ·rename_i hc
    obtain ⟨rfl, rfl⟩ := hc
    simp only [Rdr.run] at h
    cases hb : inN rows off len with
    | false => rw [hb] at h; cases h
    | true =>
     rw [hb] at h
     cases h
     have hin : off + len ≤ rows.length := of_decide_eq_true hb
     show avS _ l g e off len = .c (.sl e ((subN rows off len).map (encR r)))
     cases fr with
     | true => simp [avS, KS.puts, hH, hin, subN]
     | false =>
      show avS ((σ.put (.H l) _).H) l g e off len = _
      rw [y7]; simp [avS, zt, hin, subN]
   ·cases h
  ·cases h
 ·cases h; rfl
theorem RelE.recell (hr : RelE P B X w0 S0 pa E tm σ) {l k g n c : Nat} {e : TypeId} {y : RV} (hH : σ.H l = .cells g n c e) (hk : k < n) (hy : ok1 σ.H y) (he : av1 σ.H (σ.C l k) = av1 σ.H y) :
  RelE P B X w0 S0 pa E tm (σ.put (.C l k) (.rv y)) := by
 have hC : ∀ a b, (σ.put (.C l k) (.rv y)).C a b = if a = l ∧ b = k then y else σ.C a b := by
  intro a b
  simp only [KS.put, nbeq, Sl.rv!]
  by_cases h1 : a = l <;> by_cases h2 : b = k <;> simp [h1, h2]
 have hav : ∀ a b, av1 σ.H ((σ.put (.C l k) (.rv y)).C a b) = av1 σ.H (σ.C a b) := by
  intro a b
  rw [hC]
  split
  ·rename_i h; obtain ⟨rfl, rfl⟩ := h; exact he.symm
  ·rfl
 have hm : ∀ a, (σ.put (.C l k) (.rv y)).m a = σ.m a := by
  intro a
  have hh : (σ.put (.C l k) (.rv y)).H = σ.H := rfl
  simp only [KS.m, hh]
  cases σ.H a with
  | no _ => rfl
  | flat _ _ _ _ _ => rfl
  | cells g2 n2 c2 e2 => simp only [hav]
 refine hr.step (σ' := σ.put (.C l k) (.rv y)) hr.w3 (fun a => by rw [hm]; exact Nat.le_refl _) (fun a i x z h1 h2 v hv => by rw [hm] at h2; rw [h1] at h2; cases h2; exact hv) .refl rfl (fun a b => ?_) hr.hd hr.live
 have h0 := hr.okC a b
 have hh : (σ.put (.C l k) (.rv y)).H = σ.H := rfl
 unfold Kx.okC at h0 ⊢
 rw [hh]
 cases hq : σ.H a with
 | no _ => trivial
 | flat _ _ _ _ _ => trivial
 | cells g2 n2 c2 e2 =>
  rw [hq] at h0
  simp only at h0 ⊢
  intro hb
  rw [hC]
  split
  ·exact hy
  ·exact h0 hb
theorem zst (hr : RelA P B X w0 S0 pa n a w σ) {g : Gh} {ws : Ws} (h : Rdr.run σ (ghR g) = some ws) : RelA P B X w0 S0 pa n a w (σ.puts ws) := by
 obtain ⟨E, rfl, hr, hde, hn⟩ := hr
 cases g with
 | frz i =>
  simp only [ghR, Rdr.run, KS.lk, Sl.rv!, Rdr.run_bind, Option.bind_eq_some_iff, Option.some.injEq] at h
  obtain ⟨⟨y, w1⟩, h1, h2⟩ := h
  cases h2
  obtain ⟨E', h3, h4, h5⟩ := zpI hr h1 (hr.okT i)
  have h6 := h3.rel.putT (d := i) (h5 _ (hr.t i)) h4
  rw [zbp] at h6
  exact ⟨E', h3.w, by rw [Yf]; exact h6, hde, hn⟩
 | expl i j =>
  simp only [ghR, Rdr.run, KS.lk, Sl.rv!] at h
  refine ⟨E, rfl, ?_, hde, hn⟩
  split at h
  ·rename_i l g off hi
   simp only [Rdr.run, KS.lk, Sl.hd!] at h
   split at h
   ·rename_i g' m c e hH
    split at h
    ·simp only [Rdr.run, KS.lk] at h
     exact zg5 hr (.inr ⟨l, g', m, c, e, off + j, rfl, hH, rfl⟩) h
    ·cases h
   ·cases h
  ·exact zg5 hr (.inl ⟨i, rfl, rfl⟩) h
 | trim i =>
  simp only [ghR, Rdr.run, KS.lk, Sl.rv!] at h
  refine ⟨E, rfl, ?_, hde, hn⟩
  split at h
  ·rename_i l g e len hi
   simp only [Rdr.run, KS.lk, Sl.hd!] at h
   split at h
   ·rename_i g' e' r rows hH
    split at h
    ·rename_i hc
     obtain ⟨rfl, rfl⟩ := hc
     simp only [Rdr.run] at h
     cases hb : inN rows 0 len with
     | false => rw [hb] at h; cases h
     | true =>
      rw [hb] at h
      cases h
      have hin : len ≤ rows.length := by have := of_decide_eq_true hb; omega
      have h1 := hr.trim hH len
      have hsub : subN rows 0 len = rows.take len := by simp [subN]
      have hx : av3 (σ.put (.H l) (.hd (.flat (g + 1) false e r (rows.take len)))).H (.arw l (g + 1) e) = .arr l 0 len len e := by
       show avW (σ.put (.H l) _).H l (g + 1) e = _
       rw [y7]; simp [avW, zt]; omega
      have hv := hr.t i
      rw [hi] at hv
      have hv' : av3 σ.H (.ars l g e 0 len) = .arr l (0 * r.size) len (rows.length - 0) e := by show avS σ.H l g e 0 len = _; simp [avS, hH]
      rw [hv', Nat.zero_mul, Nat.sub_zero] at hv
      have hconv : ∀ u, VR P E u (.arr l 0 len rows.length e) → VR P E u (.arr l 0 len len e) := by
       intro u hu
       rcases vV hu with ⟨h3, h4, b, rfl⟩ | ⟨c, hA, h2, h3, h4, h5, rfl⟩
       ·rw [h3]; exact .arr0 _ _ _ _
       ·exact .arr _ _ _ _ _ _ hA h3 h3 h4 h5
      have h2 := h1.putT (d := i) (x := .arw l (g + 1) e) (v := (fun i => a.tmps.getD i undef) i) (by
       rw [hx]
       exact hconv _ hv) (by
       show g + 1 ≤ ((σ.put (.H l) _).H l).gen
       rw [y7]; show g + 1 ≤ (updH σ.H l _ l).gen
       rw [zt]; exact Nat.le_refl _)
      rw [zbp] at h2
      rw [hsub]
      exact h2
    ·cases h
   ·cases h
  ·cases h; exact hr
  ·cases h; exact hr
  ·cases h
 | touch i =>
  cases h
  exact ⟨E, rfl, hr, hde, hn⟩
 | frzc i j =>
  simp only [ghR, Rdr.run, KS.lk, Sl.rv!] at h
  split at h
  ·rename_i l g off hi
   simp only [Rdr.run, KS.lk, Sl.hd!] at h
   split at h
   ·rename_i g' m c e hH
    split at h
    ·rename_i hc
     obtain ⟨rfl, hj⟩ := hc
     simp only [Rdr.run, KS.lk, Rdr.run_bind, Option.bind_eq_some_iff, Option.some.injEq] at h
     obtain ⟨⟨y, w1⟩, h1, h2⟩ := h
     cases h2
     have hok : ok1 σ.H (σ.C l (off + j)) := by have := hr.okC l (off + j); rw [okC, hH] at this; exact this hj
     obtain ⟨E', h3, h4⟩ := z1Y hr (.refl σ) h1
     have h5 := h4 hok
     have hcell : (σ.puts w1).H l = .cells g m c e := by
      rcases h3.of.H l with h | ⟨_, _, _, _, h, _⟩
      ·rw [h, hH]
      ·rw [hH] at h; cases h
     have hCC : (σ.puts w1).C = σ.C := h3.of.C
     have h6 := h3.rel.recell (l := l) (k := off + j) (y := y) hcell hj h5.1 (by rw [hCC]; exact zoL h1)
     refine ⟨E', h3.w, ?_, hde, hn⟩
     rw [Yf]
     exact h6
    ·cases h
   ·cases h
  ·cases h
 | frzq p j k =>
  simp only [ghR, Rdr.run, KS.lk, Sl.rv!] at h
  split at h
  ·rename_i l g off hi
   simp only [Rdr.run, KS.lk, Sl.hd!] at h
   split at h
   ·rename_i g' m c e hH
    split at h
    ·simp only [Rdr.run, KS.lk] at h
     split at h
     ·rename_i l2 g2 e2 hC
      simp only [Rdr.run, KS.lk] at h
      split at h
      ·rename_i g3 n2 c2 e3 hH2
       split at h
       ·rename_i hc
        obtain ⟨rfl, rfl, hk⟩ := hc
        simp only [Rdr.run, KS.lk, Rdr.run_bind, Option.bind_eq_some_iff, Option.some.injEq] at h
        obtain ⟨⟨y, w1⟩, h1, h2⟩ := h
        cases h2
        have hok : ok1 σ.H (σ.C l2 k) := by have := hr.okC l2 k; rw [okC, hH2] at this; exact this hk
        obtain ⟨E', h3, h4⟩ := z1Y hr (.refl σ) h1
        have h5 := h4 hok
        have hcell : (σ.puts w1).H l2 = .cells g2 n2 c2 e2 := by
         rcases h3.of.H l2 with h | ⟨_, _, _, _, h, _⟩
         ·rw [h, hH2]
         ·rw [hH2] at h; cases h
        have hCC : (σ.puts w1).C = σ.C := h3.of.C
        have h6 := h3.rel.recell (l := l2) (k := k) (y := y) hcell hk h5.1 (by rw [hCC]; exact zoL h1)
        refine ⟨E', h3.w, ?_, hde, hn⟩
        rw [Yf]
        exact h6
       ·cases h
      ·cases h
     ·cases h
    ·cases h
   ·cases h
  ·cases h
 | pack p j r =>
  simp only [ghR, Rdr.run, KS.lk, Sl.rv!] at h
  refine ⟨E, rfl, ?_, hde, hn⟩
  split at h
  ·rename_i l g off hi
   simp only [Rdr.run, KS.lk, Sl.hd!] at h
   split at h
   ·rename_i g' m c e hH
    split at h
    ·simp only [Rdr.run, KS.lk] at h
     split at h
     ·rename_i l2 g2 e2 hC
      simp only [Rdr.run, KS.lk] at h
      split at h
      ·rename_i g3 n2 cnt e3 hH2
       split at h
       ·rename_i hc
        obtain ⟨⟨rfl, rfl, hne⟩, hn2, hc0⟩ := hc
        simp only [Rdr.run_bind, z4Y, Option.bind_some, Option.bind_eq_some_iff, Rdr.run, Option.some.injEq] at h
        obtain ⟨rows, h1, rfl⟩ := h
        have h2 := zoK h1
        simp only [Nat.zero_add] at h2
        exact zpG hr hC hH2 hne hn2 hc0 h2
       ·cases h
      ·cases h
     ·cases h
    ·cases h
   ·cases h
  ·cases h
 | frzb i r =>
  simp only [ghR, Rdr.run, KS.lk, Sl.rv!] at h
  split at h
  ·rename_i l g hi
   simp only [Rdr.run, KS.lk, Sl.hd!] at h
   split at h
   ·rename_i g' m c e hH
    split at h
    ·rename_i hg
     subst hg
     simp only [Rdr.run_bind, z4Y, Option.bind_some, Option.bind_eq_some_iff, Rdr.run, Option.some.injEq] at h
     obtain ⟨y, h1, rfl⟩ := h
     have h2 := zoK h1
     simp only [Nat.zero_add] at h2
     obtain ⟨E', h3, h4⟩ := zpH hr hi hH h2
     exact ⟨E', h3, h4, hde, hn⟩
    ·cases h
   ·cases h
  ·cases h
theorem z50 {K : KS → List Key → Option α} : ∀ {gs : List Gh} {σ : KS} {D : List Key}, RelA P B X w0 S0 pa n a w σ → evGh gs σ D K = some r → ∃ σ' D', RelA P B X w0 S0 pa n a w σ' ∧ Fm (ghT gs) D D' σ σ' ∧ K σ' D' = some r
 | [], σ, D, hr, h => ⟨σ, D, hr, .refl _ _ _, h⟩
 | g :: gs, σ, D, hr, h => by
  obtain ⟨ws, h1, h2⟩ := YP h
  split at h2
  ·rename_i ht
   have h3 := zst hr h1
   obtain ⟨σ', D', h4, h5, h6⟩ := z50 h3 h2
   have hg : ∀ i, i ∈ ghT [g] → i ∈ ghT (g :: gs) := by
    intro i hi
    cases g with
    | frz j => simp [ghT] at hi ⊢; exact .inl hi
    | expl j k => simp [ghT] at hi ⊢; exact .inl hi
    | trim j => simp [ghT] at hi ⊢; exact .inl hi
    | touch j => simp [ghT] at hi ⊢; exact .inl hi
    | frzc j k => simp [ghT] at hi
    | frzq p j k => simp [ghT] at hi
    | pack p j k => simp [ghT] at hi
    | frzb j k => simp [ghT] at hi ⊢; exact .inl hi
   have hgs : ∀ i, i ∈ ghT gs → i ∈ ghT (g :: gs) := by
    intro i hi
    cases g with
    | frz j => simp [ghT]; exact .inr hi
    | expl j k => simp [ghT]; exact .inr hi
    | trim j => simp [ghT]; exact .inr hi
    | touch j => simp [ghT]; exact .inr hi
    | frzc j k => simp only [ghT]; exact hi
    | frzq p j k => simp only [ghT]; exact hi
    | pack p j k => simp only [ghT]; exact hi
    | frzb j k => simp [ghT]; exact .inr hi
   exact ⟨σ', D', h4, ((zdE (D := D) fun i hi => hg i (z5G ht hi))).trans (h5.mono hgs), h6⟩
  ·cases h2
/-! ### Codes -/
def exOf : Ex → Exit
 | .normal => Exit.normal
 | .exit i => Exit.exit i
 | .ret => Exit.ret
def VO (n : Nat) : Code → Bool
 | .region _ ops _ => ops.toList.all (Jp n)
 | .seq a b => VO n a && VO n b
 | .cond _ a b => VO n a && VO n b
 | .block _ c => VO n c
 | .loop c => VO n c
 | _ => true
theorem Yc {W : List Nat} : ∀ (gs : List Gh) (i : Nat), i ∈ ghT (gs.filter (inW W)) → i ∈ W
 | [], i, h => by cases h
 | .frz j :: gs, i, h => by
  simp only [List.filter] at h
  split at h
  ·rename_i hj
   simp only [ghT, List.mem_cons] at h
   rcases h with rfl | h
   ·exact natIn_iff.1 hj
   ·exact Yc gs i h
  ·exact Yc gs i h
 | .expl j k :: gs, i, h => by
  simp only [List.filter, inW] at h
  exact Yc gs i h
 | .touch j :: gs, i, h => by
  simp only [List.filter, inW] at h
  exact Yc gs i h
 | .frzc j k :: gs, i, h => by
  simp only [List.filter, inW, ghT] at h
  exact Yc gs i h
 | .frzq p j k :: gs, i, h => by
  simp only [List.filter, inW, ghT] at h
  exact Yc gs i h
 | .pack p j k :: gs, i, h => by
  simp only [List.filter, inW, ghT] at h
  exact Yc gs i h
 | .frzb j k :: gs, i, h => by
  simp only [List.filter] at h
  split at h
  ·rename_i hj
   simp only [ghT, List.mem_cons] at h
   rcases h with rfl | h
   ·exact natIn_iff.1 hj
   ·exact Yc gs i h
  ·exact Yc gs i h
 | .trim j :: gs, i, h => by
  simp only [List.filter] at h
  split at h
  ·rename_i hj
   simp only [ghT, List.mem_cons] at h
   rcases h with rfl | h
   ·exact natIn_iff.1 hj
   ·exact Yc gs i h
  ·exact Yc gs i h
theorem zsu (h : RelA P B X w0 S0 pa n a w σ) : Hed P pa σ := by obtain ⟨E, _, h, _⟩ := h; exact h.hed
theorem zli {T : TT} {W W' : List Nat} {σ1 τ : KS} {is : List It} {y : PL is} {D D1 : List Key} (hg : grab τ is = some y) (hit : itOK T W σ1 is = true) (hW : ∀ i, i ∈ W → i ∈ W') : Fm W' D1 (itK is ++ D1) σ1 (Y1 σ1 is y (σ1.cut W)) := by
 have hf := z16 (ψ := σ1.cut W) hg hit
 refine ⟨fun i hi => ?_, fun l hl => ?_, fun l j hl => ?_, fun k hk => List.mem_append_right _ hk⟩
 ·have hni : i ∉ W := fun h => hi (hW i h)
  rcases hf.t i with h | ⟨h, _⟩
  ·rw [h]
   show (bif natIn i W then .any else σ1.T i) = _
   cases hw : natIn i W with
   | true => exact absurd (natIn_iff.1 hw) hni
   | false => rfl
  ·exact absurd h hni
 ·exact hf.h0 l fun h => hl (List.mem_append_left _ h)
 ·exact hf.c0 l j fun h => hl (List.mem_append_left _ h)
theorem vo (hT : TOK P T) (hΓ : ΓOK P Γ) (hm : P.follows .mixedOrders = true) {Ht : HT} : ∀ (c : Code) (α : Type) (r : α) (σ : KS) (D : List Key) (K : Ex → KS → List Key → Option α) (a : Act) (w : World) (Q : Exit → Act → World → Prop), VO n c = true → RelA P B X w0 S0 pa n a w σ → evC T Γ Ht c α σ D K = some r →
  (∀ e σ' D' a' w', RelA P B X w0 S0 pa n a' w' σ' → Fm (dsts Ht c) D D' σ σ' → K e σ' D' = some r → Q (exOf e) a' w') → c.wp P Q a w
 | .skip, α, r, σ, D, K, a, w, Q, _, hr, h, hK => wp_skip (hK .normal σ D a w hr (.refl _ _ _) h)
 | .region id ops dr, α, r, σ, D, K, a, w, Q, hok, hr, h, hK => by
  obtain ⟨σ1, D1, hr1, hf1, h1⟩ := z50 hr h
  have hg : ∀ i, i ∈ ghT (Ht.gh id) → i ∈ dsts Ht (.region id ops dr) := fun i hi => List.mem_append_left _ hi
  have hWo : ∀ i ∈ VB ops.toList, i ∈ dsts Ht (.region id ops dr) := fun i hi => List.mem_append_right _ hi
  cases dr with
  | false => exact wp_region_list (znH hT hΓ (W := dsts Ht (.region id ops false)) ops.toList σ1 D1 a w hok hWo hr1 h1 fun σ' D' a' w' hr' hf' h' => hK .normal σ' D' a' w' hr' ((hf1.mono hg).trans hf') h')
  | true => exact znI hT hΓ hm (W := dsts Ht (.region id ops true)) hok hWo hr1 h1 fun σ' D' a' w' hr' hf' h' => hK .normal σ' D' a' w' hr' ((hf1.mono hg).trans hf') h'
 | .seq x y, α, r, σ, D, K, a, w, Q, hok, hr, h, hK => by
  simp only [VO, Bool.and_eq_true] at hok
  have hx : ∀ i, i ∈ dsts Ht x → i ∈ dsts Ht (.seq x y) := fun i hi => List.mem_append_left _ hi
  have hy : ∀ i, i ∈ dsts Ht y → i ∈ dsts Ht (.seq x y) := fun i hi => List.mem_append_right _ hi
  refine wp_seq (vo hT hΓ hm x α r σ D _ a w _ hok.1 hr h fun e σ' D' a' w' hr' hf' h' => ?_)
  cases e with
  | normal => exact vo hT hΓ hm y α r σ' D' K a' w' Q hok.2 hr' h' fun e2 σ2 D2 a2 w2 hr2 hf2 h2 => hK e2 σ2 D2 a2 w2 hr2 ((hf'.mono hx).trans (hf2.mono hy)) h2
  | exit i => exact hK (.exit i) σ' D' a' w' hr' (hf'.mono hx) h'
  | ret => exact hK .ret σ' D' a' w' hr' (hf'.mono hx) h'
 | .cond c x y, α, r, σ, D, K, a, w, Q, hok, hr, h, hK => by
  simp only [VO, Bool.and_eq_true] at hok
  have hx : ∀ i, i ∈ dsts Ht x → i ∈ dsts Ht (.cond c x y) := fun i hi => List.mem_append_left _ hi
  have hy : ∀ i, i ∈ dsts Ht y → i ∈ dsts Ht (.cond c x y) := fun i hi => List.mem_append_right _ hi
  unfold evC at h
  split at h
  ·rename_i v hv
   obtain ⟨v, rfl⟩ : ∃ v' : Bool, v' = v := ⟨v, rfl⟩
   have hc : a.eval c = .bool v := by
    obtain ⟨E, rfl, hre, _⟩ := hr
    have h1 := (hre.ev rfl c).1
    rw [hv] at h1
    exact z34 (b := v) h1
   have hpin : σ.pin c v = σ := by
    cases c with
    | tmp d => exact zg0 hv
    | _ => rfl
   refine wp_cond_split hc (fun e => ?_) (fun e => ?_)
   ·subst e
    rw [hpin] at h
    exact vo hT hΓ hm x α r σ D K a w Q hok.1 hr h fun e2 σ2 D2 a2 w2 hr2 hf2 h2 => hK e2 σ2 D2 a2 w2 hr2 (hf2.mono hx) h2
   ·subst e
    rw [hpin] at h
    exact vo hT hΓ hm y α r σ D K a w Q hok.2 hr h fun e2 σ2 D2 a2 w2 hr2 hf2 h2 => hK e2 σ2 D2 a2 w2 hr2 (hf2.mono hy) h2
  ·cases h
 | .block id c, α, r, σ, D, K, a, w, Q, hok, hr, h, hK => by
  refine wp_block (vo hT hΓ hm c α r σ D _ a w _ hok hr h fun e σ' D' a' w' hr' hf' h' => ?_)
  cases e with
  | normal => exact hK .normal σ' D' a' w' hr' hf' h'
  | exit j =>
   simp only at h'
   simp only [exOf, Exit.inBlock]
   split at h'
   ·rename_i hj; rw [if_pos hj]; exact hK .normal σ' D' a' w' hr' hf' h'
   ·rename_i hj; rw [if_neg hj]; exact hK (.exit j) σ' D' a' w' hr' hf' h'
  | ret => exact hK .ret σ' D' a' w' hr' hf' h'
 | .loop c, α, r, σ, D, K, a, w, Q, hok, hr, h, hK => by
  have hWc : ∀ i, i ∈ dsts Ht c → i ∈ dsts Ht (.loop c) := fun i hi => List.mem_append_right _ hi
  unfold evC at h
  cases hh : Ht.lh (z5B c) with
  | unroll m =>
   simp only [hh] at h
   refine wp_loop_ghost (fun k a w => ∃ σ' D', RelA P B X w0 S0 pa n a w σ' ∧ Fm (dsts Ht (.loop c)) D D' σ σ' ∧ zhM (fun σ D K => evC T Γ Ht c α σ D K) k σ' D' K = some r) m ⟨σ, D, hr, .refl _ _ _, h⟩ ?_
   rintro k a' w' ⟨σ', D', hr', hf', h'⟩
   cases k with
   | zero => cases h'
   | succ k =>
    refine vo hT hΓ hm c α r σ' D' _ a' w' _ hok hr' h' fun e σ2 D2 a2 w2 hr2 hf2 h2 => ?_
    have hf3 := hf'.trans (hf2.mono hWc)
    cases e with
    | normal => exact ⟨k, Nat.lt_succ_self k, σ2, D2, hr2, hf3, h2⟩
    | exit i => exact hK (.exit i) σ2 D2 a2 w2 hr2 hf3 h2
    | ret => exact hK .ret σ2 D2 a2 w2 hr2 hf3 h2
  | it fz is0 =>
   simp only [hh] at h
   generalize is0 σ = is at h
   obtain ⟨σ1, D1, hr1, hf1, h1⟩ := z50 hr h
   have hfz : ∀ i, i ∈ ghT fz → i ∈ dsts Ht (.loop c) := fun i hi => List.mem_append_left _ (by rw [hh]; exact hi)
   split at h1
   ·rename_i hit
    split at h1
    ·cases h1
    ·rename_i x0 hx0
     have h0 := zsu hr1
     have fillA : ∀ {τ : KS} {y : PL is} {a' : Act} {w' : World} {DD : List Key}, RelA P B X w0 S0 pa n a' w' τ → (∀ i, i ∉ dsts Ht c → τ.T i = σ1.T i) → (∀ l, Key.H l ∉ DD → τ.H l = σ1.H l) → (∀ l j, Key.C l j ∉ DD → τ.C l j = σ1.C l j) → DD.all (z9z σ1 (itK is)) = true → grab τ is = some y →
       RelA P B X w0 S0 pa n a' w' (Y1 σ1 is y (σ1.cut (dsts Ht c))) := by
      rintro τ y a' w' DD ⟨E, rfl, hre, hde, hn⟩ h2 h3 h4 h5 h6
      obtain ⟨E', h7, h8⟩ := zss hT hre h0 h2 h3 h4 h5 hit h6
      exact ⟨E', h7, h8, hde, hn⟩
     obtain ⟨F, hFe, h1⟩ : ∃ F : PL is → Option (Sum (PL is) α), (∀ x, F x = evC T Γ Ht c (Sum (PL is) α) (Y1 σ1 is x (σ1.cut (dsts Ht c))) [] (fun e σ' D' => match e with
        | .normal => evGh (fz.filter (inW (dsts Ht c))) σ' D' fun σ2 D2 => if D2.all (z9z σ1 (itK is)) = true then (grab σ2 is).map .inl else none
        | .exit i => mapO .inr (K (.exit i) σ' (D' ++ (itK is ++ D1)))
        | .ret => mapO .inr (K .ret σ' (D' ++ (itK is ++ D1))))) ∧ zk maxR F x0 = some r := ⟨_, fun _ => rfl, h1⟩
     refine wp_loop_ghost (fun k a w => ∃ x, (∃ τ, grab τ is = some x) ∧ RelA P B X w0 S0 pa n a w (Y1 σ1 is x (σ1.cut (dsts Ht c))) ∧ zk k F x = some r) maxR
      ⟨x0, ⟨σ1, hx0⟩, fillA (DD := []) hr1 (fun _ _ => rfl) (fun _ _ => rfl) (fun _ _ _ => rfl) rfl hx0, h1⟩ ?_
     rintro k a' w' ⟨x, ⟨τ0, hτ0⟩, hr', h'⟩
     cases k with
     | zero => rw [zpp] at h'; cases h'
     | succ k =>
      -- what one round comes to
      have hround : ∃ v, evC T Γ Ht c (Sum (PL is) α) (Y1 σ1 is x (σ1.cut (dsts Ht c))) [] (fun e σ' D' => match e with
        | .normal => evGh (fz.filter (inW (dsts Ht c))) σ' D' fun σ2 D2 => if D2.all (z9z σ1 (itK is)) = true then (grab σ2 is).map .inl else none
        | .exit i => mapO .inr (K (.exit i) σ' (D' ++ (itK is ++ D1)))
        | .ret => mapO .inr (K .ret σ' (D' ++ (itK is ++ D1)))) = some v ∧ (match v with | .inl y => zk k F y = some r | .inr z => z = r) := by
       simp only [← hFe]
       rw [Jm] at h'
       split at h'
       ·cases h'
       ·rename_i y hy; exact ⟨_, hy, h'⟩
       ·rename_i z hz; exact ⟨_, hz, by cases h'; rfl⟩
      obtain ⟨v, hv1, hv2⟩ := hround
      have hfill := zli (D := D) (D1 := D1) hτ0 hit hWc
      have out : ∀ {σ' : KS} {D' : List Key}, Fm (dsts Ht c) [] D' (Y1 σ1 is x (σ1.cut (dsts Ht c))) σ' → Fm (dsts Ht (.loop c)) D (D' ++ (itK is ++ D1)) σ σ' := by
       intro σ' D' hf
       have hb : Fm (dsts Ht (.loop c)) (itK is ++ D1) (D' ++ (itK is ++ D1)) (Y1 σ1 is x (σ1.cut (dsts Ht c))) σ' :=
        ⟨fun i hi => hf.T i fun h => hi (hWc i h), fun l hl => hf.H l fun h => hl (List.mem_append_left _ h), fun l j hl => hf.C l j fun h => hl (List.mem_append_left _ h), fun k hk => List.mem_append_right _ hk⟩
       exact ((hf1.mono hfz).trans hfill).trans hb
      refine vo hT hΓ hm c (Sum (PL is) α) v _ [] _ a' w' _ hok hr' hv1 fun e σ' D' a2 w2 hr2 hf2 h2 => ?_
      cases e with
      | normal =>
       obtain ⟨σ2, D2, hr3, hf3, h3⟩ := z50 hr2 h2
       split at h3
       ·rename_i hD2
        cases hg : grab σ2 is with
        | none => rw [hg] at h3; cases h3
        | some y =>
         rw [hg] at h3
         cases h3
         have hf4 := hf2.trans (hf3.mono fun i hi => Yc fz i hi)
         -- against the head: a temporary that a round does not write is as it was
         have hfill' := zli (W' := dsts Ht c) (D := []) (D1 := []) hτ0 hit fun i hi => hi
         rw [List.append_nil] at hfill'
         refine ⟨k, Nat.lt_succ_self k, y, ⟨σ2, hg⟩, fillA (DD := D2 ++ itK is) hr3 (fun i hi => (hf4.T i hi).trans (hfill'.T i hi)) (fun l hl => ?_) (fun l j hl => ?_) ?_ hg, hv2⟩
         ·exact (hf4.H l fun h => hl (List.mem_append_left _ h)).trans (hfill'.H l fun h => hl (List.mem_append_right _ h))
         ·exact (hf4.C l j fun h => hl (List.mem_append_left _ h)).trans (hfill'.C l j fun h => hl (List.mem_append_right _ h))
         ·rw [List.all_append, hD2, Bool.true_and, List.all_eq_true]
          intro k hk
          simp only [z9z, Bool.or_eq_true]
          exact .inl (kin_true.2 hk)
       ·cases h3
      | exit i =>
       simp only [mapO, Option.map_eq_some_iff] at h2
       obtain ⟨z, h3, rfl⟩ := h2
       replace hv2 : z = r := hv2
       subst hv2
       exact hK (.exit i) σ' _ a2 w2 hr2 (out hf2) h3
      | ret =>
       simp only [mapO, Option.map_eq_some_iff] at h2
       obtain ⟨z, h3, rfl⟩ := h2
       replace hv2 : z = r := hv2
       subst hv2
       exact hK .ret σ' _ a2 w2 hr2 (out hf2) h3
   ·cases h1
 | .exit id, α, r, σ, D, K, a, w, Q, _, hr, h, hK => wp_exit (hK (.exit id) σ D a w hr (.refl _ _ _) h)
 | .ret, α, r, σ, D, K, a, w, Q, _, hr, h, hK => wp_ret (hK .ret σ D a w hr (.refl _ _ _) h)
 | .rangeFunc .., _, _, _, _, _, _, _, _, _, _, h, _ => by simp [evC] at h
 | .scope _, _, _, _, _, _, _, _, _, _, _, h, _ => by simp [evC] at h
 | .label _, _, _, _, _, _, _, _, _, _, _, h, _ => by simp [evC] at h
 | .goto _, _, _, _, _, _, _, _, _, _, _, h, _ => by simp [evC] at h
 | .refuse _, _, _, _, _, _, _, _, _, _, _, h, _ => by simp [evC] at h
end
end Go.Kx
namespace Go.Kx
open Go.Rb
theorem zlj : ∀ (xs : List RV) (i : Nat), getL xs i = xs.getD i .und
 | [], i => by simp [getL]
 | x :: xs, 0 => by simp [getL]
 | x :: xs, i + 1 => by simp [getL, zlj xs i, show Nat.beq (i + 1) 0 = false from rfl]
section
variable {P : Program} {T : TT} {Γ : FuncId → Option GS} {B : Nat} {X : Nat → Prop} {w0 : World} {S0 : Nat → Nat → Prop} {pa : List ((Nat → Value) × (Nat → RV))} {n : Nat} {E : Env} {σ : KS} {tm : Nat → Value} {a : Act} {w : World} {α : Type} {r : α}
theorem zbq {σc : KS} {xs : List RV} {vs : Array Value} {m : Nat} (hw : W3 P B X w0 S0 E σc.m) (hC : ∀ l j, okC σc l j) (hd : ∀ l, HdOK P (σc.H l)) (hl : ∀ l, E.A l → (σc.H l).live) (hpa : ∀ q ∈ pa, ∀ i, VR P E (q.1 i) (av3 σc.H (q.2 i)) ∧ ok3 σc.H (q.2 i)) (hT : σc.T = getL xs) (hv : Vals P E σc vs xs) :
  RelE P B X w0 S0 pa E (fun i => (vs ++ Array.replicate (m - vs.size) undef).getD i undef) σc := by
 have key : ∀ i, VR P E ((vs ++ Array.replicate (m - vs.size) undef).getD i undef) (av3 σc.H (σc.T i)) ∧ ok3 σc.H (σc.T i) := by
  intro i
  rw [hT, zlj]
  by_cases hi : i < xs.length
  ·have h1 : i < vs.size := by rw [hv.1]; exact hi
   have h2 : (vs ++ Array.replicate (m - vs.size) undef).getD i undef = vs[i] := by
    simp [Array.getD_eq_getD_getElem?, Array.getElem?_append_left h1, Array.getElem?_eq_getElem h1]
   have h3 : xs.getD i .und = xs[i] := by simp [List.getD, List.getElem?_eq_getElem hi]
   rw [h2, h3]
   exact hv.2 i _ _ (Array.getElem?_eq_getElem h1) (List.getElem?_eq_getElem hi)
  ·have h1 : vs.size ≤ i := by rw [hv.1]; omega
   have h2 : (vs ++ Array.replicate (m - vs.size) undef).getD i undef = undef := by
    simp only [Array.getD_eq_getD_getElem?, Array.getElem?_append_right h1, Array.getElem?_replicate]
    split <;> rfl
   have h3 : xs.getD i .und = .und := by simp [List.getD, List.getElem?_eq_none (by omega : xs.length ≤ i)]
   rw [h2, h3]
   exact ⟨.und, trivial⟩
 exact ⟨hw, fun i => (key i).1, fun i => (key i).2, hC, hd, hl, hpa⟩
/-! ### Results -/
theorem zlk {t : TypeId} {m : Nat → List AV} {y z : AV} (h : z3A P t m y = some z) {v : Value} (hv : VR P E v y) : ∃ ad, v = .pointer (some ad) := by
 unfold z3A at h
 split at h
 ·cases hv; exact ⟨_, rfl⟩
 ·cases hv; exact ⟨_, rfl⟩
 ·cases h
theorem z3R (hT : TOK P T) (hr : RelE P B X w0 S0 pa E tm σ) (ha : tm = fun i => a.tmps.getD i undef) : ∀ (rs : List ResultVar) (xs : List RV), Rdr.run σ (resR T rs) = some xs →
  ∃ us : List Value, (rs.mapM fun r => match r with | .tmp t => pure (a.tmps.getD t undef) | .cell ad ty => do loadVar ty (← asAddr (a.tmps.getD ad undef)) : Sem (List Value)).run P E.w = .ok us E.w ∧
   us.length = xs.length ∧ ∀ (i : Nat) (u : Value) (x : RV), us[i]? = some u → xs[i]? = some x → VR P E u (av3 σ.H x) ∧ ok3 σ.H x
 | [], xs, h => by cases h; exact ⟨[], rfl, rfl, by simp⟩
 | .tmp t :: rs, xs, h => by
  simp only [resR, Rdr.run, KS.lk, Sl.rv!, Rdr.run_bind, Option.bind_eq_some_iff, Option.some.injEq] at h
  obtain ⟨ys, h1, rfl⟩ := h
  obtain ⟨us, h2, h3, h4⟩ := z3R hT hr ha rs ys h1
  refine ⟨a.tmps.getD t undef :: us, ?_, by simp [h3], fun i u x hu hx => ?_⟩
  ·simp only [List.mapM_cons, Sem.run_bind, Sem.run_pure, Result.andThen_ok, h2]
  ·cases i with
   | zero => simp only [List.getElem?_cons_zero, Option.some.injEq] at hu hx; subst hu hx; subst ha; exact ⟨hr.t t, hr.okT t⟩
   | succ i => exact h4 i u x (by simpa using hu) (by simpa using hx)
 | .cell ad ty :: rs, xs, h => by
  simp only [resR, Rdr.run, KS.lk, Sl.rv!, Rdr.run_bind, Option.bind_eq_some_iff, Option.some.injEq] at h
  obtain ⟨x0, h0, ys, h1, rfl⟩ := h
  obtain ⟨us, h2, h3, h4⟩ := z3R hT hr ha rs ys h1
  obtain ⟨hy, hok⟩ := zhO hT hr h0
  have hva : VR P E (a.tmps.getD ad undef) (av3 σ.H (σ.T ad)) := by have := hr.t ad; rw [ha] at this; exact this
  obtain ⟨u0, hu0, huv⟩ := z7W hr.w3.memOK hva hy
  obtain ⟨addr, hp⟩ := zlk hy hva
  refine ⟨u0 :: us, ?_, by simp [h3], fun i u x hu hx => ?_⟩
  ·rw [hp] at hu0
   simp only [Instr.loadAt, Instr.sureAddr, Sem.run_bind, Sem.run_pure, Result.andThen_ok] at hu0
   have haa : (asAddr (.pointer (some addr))).run P E.w = .ok addr E.w := rfl
   simp only [List.mapM_cons, Sem.run_bind, Sem.run_pure, Result.andThen_ok, hp, haa, hu0, h2]
  ·cases i with
   | zero => simp only [List.getElem?_cons_zero, Option.some.injEq] at hu hx; subst hu hx; exact ⟨huv, hok⟩
   | succ i => exact h4 i u x (by simpa using hu) (by simpa using hx)
def z52 (us : List Value) : Value := if h : us.toArray.size = 1 then us.toArray[0] else .tuple us.toArray
theorem z7Y {fn : Func} {us : List Value} (h : (fn.results.toList.mapM fun r => match r with | .tmp t => pure (a.tmps.getD t undef) | .cell ad ty => do loadVar ty (← asAddr (a.tmps.getD ad undef)) : Sem (List Value)).run P E.w = .ok us E.w) :
  (results fn a.tmps).run P E.w = .ok (z52 us) E.w := by
 have hrun' : (fn.results.mapM fun r => match r with | .tmp t => pure (a.tmps.getD t undef) | .cell ad ty => do loadVar ty (← asAddr (a.tmps.getD ad undef)) : Sem (Array Value)).run P E.w = .ok us.toArray E.w := by
  rw [Array.mapM_eq_mapM_toList, Sem.run_map, h, Result.andThen_ok]
 unfold results
 rw [Sem.run_bind]
 exact (congrArg (fun x => Result.andThen x _) hrun').trans rfl
theorem zf7 {H : Nat → Hd} {us : List Value} {xs : List RV} (hl : us.length = xs.length) (hx : ∀ (i : Nat) (u : Value) (x : RV), us[i]? = some u → xs[i]? = some x → VR P E u (av3 H x) ∧ ok3 H x) (hnt : ∀ x ∈ xs, xs.length ≠ 1 → x.nt = true) :
  VR P E (z52 us) (av3 H (z79 xs)) ∧ ok3 H (z79 xs) := by
 unfold z52
 match us, xs, hl with
 | [], [], _ => exact ⟨.tup _ _ rfl (by simp), fun x hx => by cases hx⟩
 | [u], [x], _ => exact hx 0 u x rfl rfl
 | u :: u' :: us, x :: x' :: xs, hl =>
  have h0 : ¬ ((u :: u' :: us).toArray.size = 1) := by simp
  rw [dif_neg h0]
  have hnt' : ∀ z ∈ x :: x' :: xs, ∀ ys, z ≠ .tup ys := by
   intro z hz ys he
   have := hnt z hz (by simp)
   rw [he] at this; cases this
  refine ⟨.tup _ _ (by simpa using hl) fun i v y h1 h2 => ?_, fun z hz => ?_⟩
  ·rw [List.getElem?_map, Option.map_eq_some_iff] at h2
   obtain ⟨z, hz, rfl⟩ := h2
   have h3 := (hx i v z (by simpa using h1) hz).1
   rw [z12 _ _ (hnt' z (List.mem_of_getElem? hz))] at h3
   exact h3
  ·obtain ⟨i, hi⟩ := List.getElem?_of_mem hz
   have hlt : i < (u :: u' :: us).length := by rw [hl]; exact (List.getElem?_eq_some_iff.1 hi).1
   exact z11 (hx i _ z (List.getElem?_eq_getElem hlt) hi).2 (hnt' z hz)
/-! ### Walked where it is called -/
theorem yV (hT : TOK P T) (hΓ : ΓOK P Γ) (hm : P.follows .mixedOrders = true) {Ht : HT} {f : FuncId} {fn : Func} {c : Code} (hf : P.funcs[f]? = some fn) (hb : fn.body = some c) (hname : (fn.name == "runtime.NumGoroutine") = false) (hok : VO fn.ntmps c = true) :
  CSOK P f (inlF T Γ Ht c fn.results.toList fn.ntmps) := by
 refine ⟨⟨fn, c, hf, hb, hname⟩, ?_⟩
 intro B X w0 S0 pa E σ tm xs vs α D K r post hr hv h hK
 unfold inlF at h
 split at h
 ·rename_i hlen
  have hlen' : xs.length ≤ fn.ntmps := Nat.ble_eq.mp hlen
  let σc : KS := { T := getL xs, H := σ.H, C := σ.C }
  have hen : RelE P B X w0 S0 ((tm, σ.T) :: pa) E (fun i => (vs ++ Array.replicate (fn.ntmps - vs.size) undef).getD i undef) σc := by
   refine zbq (σc := σc) hr.w3 hr.okC hr.hd hr.live (fun q hq i => ?_) rfl hv
   rcases List.mem_cons.1 hq with rfl | hq
   ·exact ⟨hr.t i, hr.okT i⟩
   ·exact hr.pa q hq i
  refine calls_of_wp hf hb (vo (B := B) (X := X) (w0 := w0) (S0 := S0) (pa := (tm, σ.T) :: pa) (n := fn.ntmps) hT hΓ hm c α r σc D _ _ E.w _ hok ⟨E, rfl, hen, rfl, by simp; rw [hv.1]; omega⟩ h ?_)
  intro e σ' D' a' w' hr' hf' h'
  obtain ⟨E', rfl, hre, hde, hn⟩ := hr'
  have fin : Rdr.runK σ' (resR T fn.results.toList) (fun rvs => if rvs.all RV.nt = true then K (z79 rvs) { T := σ.T, H := σ'.H, C := σ'.C } D' else none) = some r → a'.defers = [] ∧ ∃ v, (results fn a'.tmps).run P E'.w = .ok v E'.w ∧ ∃ v', Ending.returned v = .returned v' ∧ post v' E'.w := by
   intro h
   obtain ⟨xs', h1, h2⟩ := YP h
   obtain ⟨us, h3, h4, h5⟩ := z3R hT hre rfl _ xs' h1
   refine ⟨hde, z52 us, z7Y h3, z52 us, rfl, ?_⟩
   have hcaller : RelE P B X w0 S0 pa E' tm { T := σ.T, H := σ'.H, C := σ'.C } :=
    ⟨hre.w3, fun i => (hre.pa _ List.mem_cons_self i).1, fun i => (hre.pa _ List.mem_cons_self i).2, hre.okC, hre.hd, hre.live, fun q hq i => hre.pa q (List.mem_cons_of_mem _ hq) i⟩
   split at h2
   ·rename_i hnt
    obtain ⟨h6, h7⟩ := zf7 (H := σ'.H) h4 h5 (fun x hx _ => List.all_eq_true.1 hnt x hx)
    exact hK _ { T := σ.T, H := σ'.H, C := σ'.C } D' E' _ hcaller ⟨fun _ _ => rfl, hf'.H, hf'.C, hf'.D⟩ h6 h7 h2
   ·cases h2
  cases e with
  | normal => exact fin h'
  | ret => exact fin h'
  | exit i => cases h'
 ·cases h
end
end Go.Kx
namespace Go.Kx
open Go.Rb
section
variable {P : Program} {T : TT} {B : Nat} {X : Nat → Prop} {w0 : World} {S0 : Nat → Nat → Prop} {pa : List ((Nat → Value) × (Nat → RV))} {E : Env} {σ σ1 : KS} {tm : Nat → Value} {α : Type} {r : α}
theorem V4 {β : Type} {o : Option β} {x : β} (h : Rdr.run σ (optR o) = some x) : o = some x := by
 cases o with
 | none => cases h
 | some y => cases h; rfl
/-! ### Arguments -/
theorem zsv : ∀ {r : RT} {xs : List RV} {z : DenR r} {ws : Ws}, Rdr.run σ (rowI false r xs) = some (z, ws) → ∃ ys, Rdr.run σ (frzL xs) = some (ys, ws) ∧ asR r ys = some z := by
 intro r
 induction r using RT.rec (motive_1 := fun _ => True) with
 | int | bool | str | sl => trivial
 | one c =>
  intro xs z ws h
  match xs, h with
  | [x], h =>
   obtain ⟨z, rfl⟩ : ∃ z' : Den c, z' = z := ⟨z, rfl⟩
   have h' : Rdr.run σ (VC false c x) = some (z, ws) := h
   simp only [VC, Bool.false_eq_true, if_false, Rdr.run_bind, Option.bind_eq_some_iff, Rdr.run, Option.some.injEq] at h'
   obtain ⟨⟨y, w⟩, h1, z', h2, h3⟩ := h'
   cases h3
   refine ⟨[y], ?_, V4 h2⟩
   simp only [frzL, Rdr.run_bind, h1, Option.bind_some, Rdr.run, List.append_nil]
  | [], h => cases h
  | _ :: _ :: _, h => cases h
 | cons c r _ ih =>
  intro xs z ws h
  match xs, h with
  | x :: xs, h =>
   obtain ⟨z, rfl⟩ : ∃ z' : Den c × DenR r, z' = z := ⟨z, rfl⟩
   have h' : Rdr.run σ (Rdr.bind (VC false c x) fun q => Rdr.bind (rowI false r xs) fun p => .ret ((q.1, p.1), q.2 ++ p.2)) = some (z, ws) := h
   simp only [Rdr.run_bind, Option.bind_eq_some_iff, Rdr.run, Option.some.injEq] at h'
   obtain ⟨⟨y1, w1⟩, h1, ⟨y2, w2⟩, h2, h3⟩ := h'
   cases h3
   simp only [VC, Bool.false_eq_true, if_false, Rdr.run_bind, Option.bind_eq_some_iff, Rdr.run, Option.some.injEq] at h1
   obtain ⟨⟨y, w⟩, h4, z', h5, h6⟩ := h1
   cases h6
   obtain ⟨ys, h7, h8⟩ := ih h2
   refine ⟨y :: ys, ?_, ?_⟩
   ·simp only [frzL, Rdr.run_bind, h4, h7, Option.bind_some, Rdr.run]
   ·rw [zkP]
    show zfL (asD c y) (asR r ys) = _
    rw [V4 h5, h8]; rfl
  | [], h => cases h
theorem zhX {H H' : Nat → Hd} {E' : Env} {r : RT} {ag : Bool} {x : RV} {z : DenR r} {v : Value} (hv : VR P E v (av3 H x)) (hsz : (x.row ag).length = r.size)
  (hc : ∀ (j : Nat) (y : RV) (c : C), (x.row ag)[j]? = some y → (encR r z)[j]? = some c → ∀ u, VR P E u (av1 H y) → VR P E' u (.c c)) : VR P E' v (av3 H' (.ofRow ag (zV r z))) ∧ ok3 H' (.ofRow ag (zV r z)) := by
 cases ag with
 | true =>
  have hx : ∃ xs, x = .ag xs := by
   cases x with
   | ag xs => exact ⟨xs, rfl⟩
   | _ => simp [RV.row] at hsz; have := YL r; omega
  obtain ⟨xs, rfl⟩ := hx
  simp only [RV.row, if_true] at hsz hc
  replace hv : VR P E v (.agg (xs.map (av1 H))) := hv
  refine ⟨?_, fun y hy => ?_⟩
  ·show VR P E' v (.agg ((zV r z).map (av1 H')))
   rw [vk]
   cases hv with
   | agg vs _ hl h1 hr =>
    refine .agg vs _ (by rw [hl, List.length_map, List.length_map, ZW, hsz]) h1 fun i u y hu hy => ?_
    rw [List.getElem?_map, Option.map_eq_some_iff] at hy
    obtain ⟨c, hcc, rfl⟩ := hy
    have hi : i < xs.length := by rw [hsz, ← ZW r z]; exact (List.getElem?_eq_some_iff.1 hcc).1
    exact hc i _ c (List.getElem?_eq_getElem hi) hcc u (hr i u _ hu (by rw [List.getElem?_map, List.getElem?_eq_getElem hi]; rfl))
  ·obtain ⟨c, w, rfl⟩ := Jo r z y hy; trivial
 | false =>
  have hna : ∀ xs, x ≠ .ag xs := by
   intro xs he; subst he
   simp [RV.row] at hsz; have := YL r; omega
  have hrow : x.row false = [x] := by cases x <;> first | rfl | exact absurd rfl (hna _)
  rw [hrow] at hsz hc
  cases r with
  | cons c r => simp [RT.size] at hsz; have := YL r; omega
  | one c =>
   refine ⟨?_, trivial⟩
   show VR P E' v (.c (enc c z))
   have hav : ∀ (hnt : ∀ xs, x ≠ .tup xs), VR P E v (av1 H x) := fun hnt => by rw [z12 _ _ hnt, z5s _ _ hna] at hv; exact hv
   by_cases ht : ∃ xs, x = .tup xs
   ·obtain ⟨xs, rfl⟩ := ht
    -- a tuple says nothing of itself
    exact hc 0 _ _ rfl rfl v (.any _)
   ·exact hc 0 _ _ rfl rfl v (hav fun xs e => ht ⟨xs, e⟩)
theorem zv1 {H : Nat → Hd} {ag : Bool} {x : RV} (hx : ok3 H x) : ∀ y ∈ x.row ag, ok1 H y := by
 intro y hy
 cases ag with
 | true =>
  cases x with
  | ag xs => exact hx y hy
  | _ => simp [RV.row] at hy
 | false =>
  cases x with
  | ag xs => simp [RV.row] at hy
  | tup xs => simp [RV.row] at hy; subst hy; trivial
  | _ => (simp [RV.row] at hy; subst hy; exact hx)
theorem ziM {E0 : Env} : ∀ {is : List IT} {xs : List RV} {x : PI is} {ws : Ws} {vs : List Value} {E : Env} {σ1 : KS}, FrzTo P B X w0 S0 pa tm E0 σ σ E σ1 → Rdr.run σ (insR false is xs) = some (x, ws) → vs.length = xs.length →
  (∀ (i : Nat) (v : Value) (y : RV), vs[i]? = some v → xs[i]? = some y → VR P E0 v (av3 σ.H y) ∧ ok3 σ.H y) →
  ∃ E', FrzTo P B X w0 S0 pa tm E0 σ σ E' (σ1.puts ws) ∧ (∀ v c, VR P E v (.c c) → VR P E' v (.c c)) ∧ (yr is x).length = vs.length ∧ ∀ (i : Nat) (v : Value) (y : RV), vs[i]? = some v → (yr is x)[i]? = some y → VR P E' v (av3 noH y) ∧ ok3 noH y := by
 have one : ∀ {E : Env} {σ1 : KS} {r : RT} {ag : Bool} {y : RV} {z : DenR r} {ws : Ws} {v : Value}, FrzTo P B X w0 S0 pa tm E0 σ σ E σ1 → Rdr.run σ (rowI false r (y.row ag)) = some (z, ws) → VR P E0 v (av3 σ.H y) → ok3 σ.H y →
   ∃ E', FrzTo P B X w0 S0 pa tm E σ σ1 E' (σ1.puts ws) ∧ VR P E' v (av3 noH (.ofRow ag (zV r z))) ∧ ok3 noH (.ofRow ag (zV r z)) := by
  intro E σ1 r ag y z ws v ft h hv hok
  obtain ⟨ys, h1, h2⟩ := zsv h
  obtain ⟨E', f1, f2, f3, f4⟩ := z4Z ft.rel ft.of h1 fun c hc => ft.tx.ok1 _ (zv1 hok c hc)
  obtain ⟨g1, g2⟩ := z3P (P := P) (E := E') (σ1.puts ws).H h2
  refine ⟨E', f1, zhX (E := E) (H := σ1.H) (ft.tx.v3 _ _ hok hv) (by rw [← f2]; exact g1) fun j y' c hy hc u hu => ?_⟩
  have hj : j < ys.length := by rw [f2]; exact (List.getElem?_eq_some_iff.1 hy).1
  exact g2 j _ c (List.getElem?_eq_getElem hj) hc u (f4 j y' _ hy (List.getElem?_eq_getElem hj) u hu)
 intro is
 induction is with
 | nil =>
  intro xs x ws vs E σ1 ft h hl hv
  match xs, h with
  | [], h =>
   cases h
   exact ⟨E, ft, fun _ _ h => h, by rw [hl]; rfl, fun i v y _ hy => by simp [yr] at hy⟩
  | _ :: _, h => cases h
 | cons it is ih =>
  intro xs x ws vs E σ1 ft h hl hv
  cases it with
  | f id =>
   match xs, vs, hl, h with
   | .fn id' [] :: xs, v :: vs, hl, h =>
    have h' : Rdr.run σ (if id = id' then insR false is xs else .fail) = some (x, ws) := h
    split at h'
    ·rename_i hid
     subst hid
     obtain ⟨E', f1, f2, f3, f4⟩ := ih (xs := xs) (vs := vs) ft h' (by simpa using hl) (fun i v y h1 h2 => hv (i + 1) v y (by simpa using h1) (by simpa using h2))
     refine ⟨E', f1, f2, by simpa [yr] using f3, fun i u y h1 h2 => ?_⟩
     cases i with
     | zero =>
      simp [yr] at h1 h2
      subst h1 h2
      have h3 := (hv 0 v _ rfl rfl).1
      replace h3 : VR P E0 v (.fn id []) := h3
      cases h3 with
      | fn _ cs _ hcl _ => exact ⟨.fn id cs [] hcl (by simp), fun c hc => by cases hc⟩
     | succ i => exact f4 i u y (by simpa using h1) (by simpa [yr] using h2)
    ·cases h'
   | .fn id' (_ :: _) :: xs, _, _, h => cases h
   | [], _, _, h => cases h
   | .d _ _ :: _, _, _, h => cases h
   | .nils :: _, _, _, h => cases h
   | .ag _ :: _, _, _, h => cases h
   | .tup _ :: _, _, _, h => cases h
   | .arw _ _ _ :: _, _, _, h => cases h
   | .ars _ _ _ _ _ :: _, _, _, h => cases h
   | .ptr _ _ _ :: _, _, _, h => cases h
   | .pel _ _ _ _ _ :: _, _, _, h => cases h
   | .el _ _ _ :: _, _, _, h => cases h
   | .und :: _, _, _, h => cases h
   | .any :: _, _, _, h => cases h
  | v r ag =>
   match xs, vs, hl, h with
   | [], _, _, h => cases is <;> cases h
   | y :: xs, v :: vs, hl, h =>
    cases is with
    | nil =>
     match xs, vs, hl, h with
     | [], [], hl, h =>
      have h' : Rdr.run σ (rowI false r (y.row ag)) = some (x, ws) := h
      obtain ⟨h3, h4⟩ := hv 0 v y rfl rfl
      obtain ⟨E', f1, f2, f3⟩ := one ft h' h3 h4
      refine ⟨E', ft.trans f1, f1.dat, rfl, fun i u q h1 h2 => ?_⟩
      cases i with
      | zero =>
       have h5 : some (RV.ofRow ag (zV r x)) = some q := h2
       simp at h1; subst h1; cases h5
       exact ⟨f2, f3⟩
      | succ i => simp at h1
     | _ :: _, _, _, h => cases h
    | cons i1 is =>
     obtain ⟨x, rfl⟩ : ∃ x' : DenR r × PI (i1 :: is), x' = x := ⟨x, rfl⟩
     have h' : Rdr.run σ (Rdr.bind (rowI false r (y.row ag)) fun q => Rdr.bind (insR false (i1 :: is) xs) fun p => .ret ((q.1, p.1), q.2 ++ p.2)) = some (x, ws) := h
     simp only [Rdr.run_bind, Option.bind_eq_some_iff, Rdr.run, Option.some.injEq] at h'
     obtain ⟨⟨z, w1⟩, h1, ⟨x', w2⟩, h2, h3⟩ := h'
     cases h3
     obtain ⟨h3, h4⟩ := hv 0 v y rfl rfl
     obtain ⟨E1, f1, f2, f3⟩ := one ft h1 h3 h4
     obtain ⟨E2, g1, g2, g3, g4⟩ := ih (xs := xs) (vs := vs) (ft.trans f1) h2 (by simpa using hl) (fun i v y h1 h2 => hv (i + 1) v y (by simpa using h1) (by simpa using h2))
     rw [Yf]
     refine ⟨E2, g1, fun v c hv => g2 v c (f1.dat v c hv), by show (yr (i1 :: is) x').length + 1 = _; rw [g3]; rfl, fun i u q h5 h6 => ?_⟩
     cases i with
     | zero =>
      have h7 : some (RV.ofRow ag (zV r z)) = some q := h6
      simp at h5; subst h5; cases h7
      refine ⟨?_, f3⟩
      -- data stays data
      cases ag with
      | true =>
       replace f2 : VR P E1 v (.agg ((zV r z).map (av1 noH))) := f2
       rw [vk] at f2
       show VR P E2 v (.agg ((zV r z).map (av1 noH)))
       rw [vk]
       cases f2 with
       | agg us _ hl h1 hr =>
        refine .agg us _ hl h1 fun i u y hu hy => ?_
        have h8 := hr i u y hu hy
        rw [List.getElem?_map, Option.map_eq_some_iff] at hy
        obtain ⟨c, _, rfl⟩ := hy
        exact g2 _ _ h8
      | false =>
       cases r with
       | one c => exact g2 v _ f2
       | cons c r => exact g2 v _ f2
     | succ i => exact g4 i u q (by simpa using h5) h6
/-! ### Arguments that are only looked at -/
def Est (E : Env) : Env := { E with S := fun b o => E.S b o ∨ ∃ l, E.A l ∧ b = E.β l, A := fun _ => False }
theorem zdF {v : Value} {c : C} (h : VR P E v (.c c)) : VR P (Est E) v (.c c) := by
 cases h with | c _ _ h => exact .c (E := Est E) _ _ (h.mono (fun _ _ _ _ h => h) fun _ _ h => .inl h)
theorem zsw (hr : RelE P B X w0 S0 pa E tm σ) {e : TypeId} {r : RT} {x : RV} {rows : List (DenR r)} (h : Rdr.run σ (z4W e r x) = some rows) {v : Value} (hv : VR P E v (av1 σ.H x)) : VR P (Est E) v (.c (.sl e (rw' r rows))) := by
 unfold z4W at h
 split at h
 ·rename_i c y
  have hq := V4 h
  obtain ⟨rfl, rfl⟩ := zl3 hq
  exact zdF hv
 ·cases h
  replace hv : VR P E v .nils := hv
  cases hv
  exact .c _ _ (.emp _ _ _)
 ·rename_i l g e'
  simp only [Rdr.run, KS.lk, Sl.hd!] at h
  split at h
  ·rename_i g' fr e2 r' rows' hH
   split at h
   ·rename_i hc
    obtain ⟨rfl, rfl, rfl⟩ := hc
    have hq := V4 h
    have hsz : r'.size = P.cellsOf e := by have := hr.hd l; rw [hH] at this; exact this
    obtain ⟨_, rfl, rfl⟩ := z3c hq
    cases fr with
    | true =>
     have hx' : av1 σ.H (.arw l g e) = .c (.sl e (rw' r' rows)) := by show avW σ.H l g e = _; simp [avW, hH, rw']
     rw [hx'] at hv; exact zdF hv
    | false =>
     have hx' : av1 σ.H (.arw l g e) = .arr l (0 * r'.size) rows.length rows.length e := by show avW σ.H l g e = _; simp [avW, hH]
     rw [hx'] at hv
     have := zdD hr.w3 (Y4 hH) hsz (off := 0) (len := rows.length) (by omega) hv (S' := (Est E).S) (fun _ _ h => .inl h) (fun o hA _ => .inr ⟨l, hA, rfl⟩)
     rw [List.drop_zero, List.take_length] at this
     exact .c (E := Est E) _ _ this
   ·cases h
  ·cases h
 ·rename_i l g e' off len
  simp only [Rdr.run, KS.lk, Sl.hd!] at h
  split at h
  ·rename_i g' fr e2 r' rows' hH
   split at h
   ·rename_i hc
    obtain ⟨rfl, rfl, rfl⟩ := hc
    simp only [Rdr.run] at h
    cases hin : inN rows' off len with
    | false => rw [hin] at h; cases h
    | true =>
     simp only [hin, cond] at h
     have hin' : off + len ≤ rows'.length := of_decide_eq_true hin
     have hq := V4 h
     have hsz : r'.size = P.cellsOf e := by have := hr.hd l; rw [hH] at this; exact this
     obtain ⟨_, rfl, rfl⟩ := z3c hq
     cases fr with
     | true =>
      have hx' : av1 σ.H (.ars l g e off len) = .c (.sl e (rw' r' (subN rows' off len))) := by show avS σ.H l g e off len = _; simp [avS, hH, rw', hin', subN]
      rw [hx'] at hv; exact zdF hv
     | false =>
      have hx' : av1 σ.H (.ars l g e off len) = .arr l (off * r'.size) len (rows'.length - off) e := by show avS σ.H l g e off len = _; simp [avS, hH]
      rw [hx'] at hv
      exact .c (E := Est E) _ _ (zdD hr.w3 (Y4 hH) hsz hin' hv (S' := (Est E).S) (fun _ _ h => .inl h) (fun o hA _ => .inr ⟨l, hA, rfl⟩))
   ·cases h
  ·cases h
 ·cases h
theorem ziN (hr : RelE P B X w0 S0 pa E tm σ) {c : CT} {x : RV} {z : Den c} {ws : Ws} (h : Rdr.run σ (VC true c x) = some (z, ws)) : ws = [] ∧ ∀ v, VR P E v (av1 σ.H x) → VR P (Est E) v (.c (enc c z)) := by
 unfold VC at h
 simp only [if_true] at h
 cases c with
 | sl e r =>
  simp only [Rdr.run_bind, Option.bind_eq_some_iff, Rdr.run, Option.some.injEq] at h
  obtain ⟨y, h1, h2⟩ := h
  cases h2
  exact ⟨rfl, fun v hv => zsw hr h1 hv⟩
 | _ =>
  simp only [Rdr.run_bind, Option.bind_eq_some_iff, Rdr.run, Option.some.injEq] at h
  obtain ⟨y, h1, h2⟩ := h
  cases h2
  exact ⟨rfl, fun v hv => zdF (z5E (V4 h1) σ.H hv)⟩
theorem zll (hr : RelE P B X w0 S0 pa E tm σ) : ∀ {r : RT} {xs : List RV} {z : DenR r} {ws : Ws}, Rdr.run σ (rowI true r xs) = some (z, ws) → ws = [] ∧ xs.length = r.size ∧ ∀ (j : Nat) (x : RV) (c : C), xs[j]? = some x → (encR r z)[j]? = some c → ∀ v, VR P E v (av1 σ.H x) → VR P (Est E) v (.c c) := by
 intro r
 induction r using RT.rec (motive_1 := fun _ => True) with
 | int | bool | str | sl => trivial
 | one c =>
  intro xs z ws h
  match xs, h with
  | [x], h =>
   obtain ⟨h1, h2⟩ := ziN hr (show Rdr.run σ (VC true c x) = some (z, ws) from h)
   refine ⟨h1, rfl, fun j y c' hy hc v hv => ?_⟩
   cases j with
   | zero =>
    simp at hy; subst hy
    have hc' : (some (enc c z) : Option C) = some c' := hc
    cases hc'
    exact h2 v hv
   | succ j => simp at hy
  | [], h => cases h
  | _ :: _ :: _, h => cases h
 | cons c r _ ih =>
  intro xs z ws h
  match xs, h with
  | x :: xs, h =>
   obtain ⟨z, rfl⟩ : ∃ z' : Den c × DenR r, z' = z := ⟨z, rfl⟩
   have h' : Rdr.run σ (Rdr.bind (VC true c x) fun q => Rdr.bind (rowI true r xs) fun p => .ret ((q.1, p.1), q.2 ++ p.2)) = some (z, ws) := h
   simp only [Rdr.run_bind, Option.bind_eq_some_iff, Rdr.run, Option.some.injEq] at h'
   obtain ⟨⟨y1, w1⟩, h1, ⟨y2, w2⟩, h2, h3⟩ := h'
   cases h3
   obtain ⟨k1, k2⟩ := ziN hr h1
   obtain ⟨k3, k4, k5⟩ := ih h2
   refine ⟨by simp [k1, k3], by simp [RT.size, k4], fun j y c' hy hc v hv => ?_⟩
   cases j with
   | zero =>
    simp at hy; subst hy
    have hc' : (some (enc c y1) : Option C) = some c' := hc
    cases hc'
    exact k2 v hv
   | succ j =>
    have hc' : (encR r y2)[j]? = some c' := hc
    exact k5 j y c' (by simpa using hy) hc' v hv
  | [], h => cases h
theorem zub (hr : RelE P B X w0 S0 pa E tm σ) : ∀ {is : List IT} {xs : List RV} {x : PI is} {ws : Ws} {vs : List Value}, Rdr.run σ (insR true is xs) = some (x, ws) → vs.length = xs.length →
  (∀ (i : Nat) (v : Value) (y : RV), vs[i]? = some v → xs[i]? = some y → VR P E v (av3 σ.H y) ∧ ok3 σ.H y) →
  ws = [] ∧ (yr is x).length = vs.length ∧ ∀ (i : Nat) (v : Value) (y : RV), vs[i]? = some v → (yr is x)[i]? = some y → VR P (Est E) v (av3 noH y) ∧ ok3 noH y := by
 intro is
 induction is with
 | nil =>
  intro xs x ws vs h hl hv
  match xs, h with
  | [], h => cases h; exact ⟨rfl, by rw [hl]; rfl, fun i v y _ hy => by simp [yr] at hy⟩
  | _ :: _, h => cases h
 | cons it is ih =>
  intro xs x ws vs h hl hv
  cases it with
  | f id =>
   match xs, vs, hl, h with
   | .fn id' [] :: xs, v :: vs, hl, h =>
    have h' : Rdr.run σ (if id = id' then insR true is xs else .fail) = some (x, ws) := h
    split at h'
    ·rename_i hid
     subst hid
     obtain ⟨f1, f3, f4⟩ := ih (xs := xs) (vs := vs) h' (by simpa using hl) (fun i v y h1 h2 => hv (i + 1) v y (by simpa using h1) (by simpa using h2))
     refine ⟨f1, by simpa [yr] using f3, fun i u y h1 h2 => ?_⟩
     cases i with
     | zero =>
      simp [yr] at h1 h2
      subst h1 h2
      have h3 := (hv 0 v _ rfl rfl).1
      replace h3 : VR P E v (.fn id []) := h3
      cases h3 with
      | fn _ cs _ hcl _ => exact ⟨.fn id cs [] hcl (by simp), fun c hc => by cases hc⟩
     | succ i => exact f4 i u y (by simpa using h1) (by simpa [yr] using h2)
    ·cases h'
   | .fn id' (_ :: _) :: xs, _, _, h => cases h
   | [], _, _, h => cases h
   | .d _ _ :: _, _, _, h => cases h
   | .nils :: _, _, _, h => cases h
   | .ag _ :: _, _, _, h => cases h
   | .tup _ :: _, _, _, h => cases h
   | .arw _ _ _ :: _, _, _, h => cases h
   | .ars _ _ _ _ _ :: _, _, _, h => cases h
   | .ptr _ _ _ :: _, _, _, h => cases h
   | .pel _ _ _ _ _ :: _, _, _, h => cases h
   | .el _ _ _ :: _, _, _, h => cases h
   | .und :: _, _, _, h => cases h
   | .any :: _, _, _, h => cases h
  | v r ag =>
   match xs, vs, hl, h with
   | [], _, _, h => cases is <;> cases h
   | y :: xs, v :: vs, hl, h =>
    obtain ⟨h3, h4⟩ := hv 0 v y rfl rfl
    cases is with
    | nil =>
     match xs, vs, hl, h with
     | [], [], hl, h =>
      obtain ⟨f1, f2, f3⟩ := zll hr (show Rdr.run σ (rowI true r (y.row ag)) = some (x, ws) from h)
      refine ⟨f1, rfl, fun i u q h1 h2 => ?_⟩
      cases i with
      | zero =>
       have h5 : some (RV.ofRow ag (zV r x)) = some q := h2
       simp at h1; subst h1; cases h5
       exact zhX (E := E) (H := σ.H) h3 f2 f3
      | succ i => simp at h1
     | _ :: _, _, _, h => cases h
    | cons i1 is =>
     obtain ⟨x, rfl⟩ : ∃ x' : DenR r × PI (i1 :: is), x' = x := ⟨x, rfl⟩
     have h' : Rdr.run σ (Rdr.bind (rowI true r (y.row ag)) fun q => Rdr.bind (insR true (i1 :: is) xs) fun p => .ret ((q.1, p.1), q.2 ++ p.2)) = some (x, ws) := h
     simp only [Rdr.run_bind, Option.bind_eq_some_iff, Rdr.run, Option.some.injEq] at h'
     obtain ⟨⟨z, w1⟩, h1, ⟨x', w2⟩, h2, h5⟩ := h'
     cases h5
     obtain ⟨f1, f2, f3⟩ := zll hr h1
     obtain ⟨g1, g3, g4⟩ := ih (xs := xs) (vs := vs) h2 (by simpa using hl) (fun i v y h1 h2 => hv (i + 1) v y (by simpa using h1) (by simpa using h2))
     refine ⟨by simp [f1, g1], by show (yr (i1 :: is) x').length + 1 = _; rw [g3]; rfl, fun i u q h5 h6 => ?_⟩
     cases i with
     | zero =>
      have h7 : some (RV.ofRow ag (zV r z)) = some q := h6
      simp at h5; subst h5; cases h7
      exact zhX (E := E) (H := σ.H) h3 f2 f3
     | succ i => exact g4 i u q (by simpa using h5) h6
end
end Go.Kx
namespace Go.Kx
open Go.Rb
def Later (σ σ' : KS) : Prop := ∀ l g e r (rows : List (DenR r)), σ'.H l = .flat g false e r rows → σ.H l = .flat g false e r rows
theorem Later.trans {σ σ' σ'' : KS} (h : Later σ σ') (k : Later σ' σ'') : Later σ σ'' := fun l g e r rows hq => h l g e r rows (k l g e r rows hq)
theorem FrzOf.later {σ σ' : KS} (h : FrzOf σ σ') : Later σ σ' := by
 intro l g e r rows hq
 rcases h.H l with h1 | ⟨_, _, _, _, _, h2⟩
 ·rw [← h1]; exact hq
 ·rw [h2] at hq; cases hq
section
variable {P : Program} {T : TT} {B : Nat} {X : Nat → Prop} {w0 : World} {S0 : Nat → Nat → Prop} {pa : List ((Nat → Value) × (Nat → RV))} {E E' E2 : Env} {σ σ' : KS} {tm : Nat → Value} {α : Type} {r : α}
structure Go1 (P : Program) (B : Nat) (X : Nat → Prop) (w0 : World) (S0 : Nat → Nat → Prop) (pa : List ((Nat → Value) × (Nat → RV))) (tm : Nat → Value) (E : Env) (σ : KS) (E' : Env) (σ' : KS) : Prop where
 rel : RelE P B X w0 S0 pa E' tm σ'
 w : E'.w = E.w
 tx : Tx P E σ.H E' σ'.H
 dat : ∀ v c, VR P E v (.c c) → VR P E' v (.c c)
 later : Later σ σ'
theorem Go1.refl (hr : RelE P B X w0 S0 pa E tm σ) : Go1 P B X w0 S0 pa tm E σ E σ := ⟨hr, rfl, .refl, fun _ _ h => h, fun _ _ _ _ _ h => h⟩
theorem Go1.trans {E'' : Env} {σ'' : KS} (h : Go1 P B X w0 S0 pa tm E σ E' σ') (k : Go1 P B X w0 S0 pa tm E' σ' E'' σ'') : Go1 P B X w0 S0 pa tm E σ E'' σ'' :=
 ⟨k.rel, k.w.trans h.w, h.tx.trans k.tx, fun v c hv => k.dat v c (h.dat v c hv), h.later.trans k.later⟩
theorem zuc (hr : RelE P B X w0 S0 pa E tm σ) {c : CT} {x : RV} {z : Den c} {ws : Ws} (h : Rdr.run σ (frzC c x) = some (z, ws)) (hx : ok1 σ.H x) : ∃ E', Go1 P B X w0 S0 pa tm E σ E' (σ.puts ws) ∧ ∀ v, VR P E v (av1 σ.H x) → VR P E' v (.c (enc c z)) := by
 simp only [frzC, Rdr.run_bind, Option.bind_eq_some_iff, Rdr.run, Option.some.injEq] at h
 obtain ⟨⟨y, w⟩, h1, z', h2, h3⟩ := h
 cases h3
 obtain ⟨E', f1, f2⟩ := z1Y hr (.refl σ) h1
 obtain ⟨f3, f4⟩ := f2 hx
 exact ⟨E', ⟨f1.rel, f1.w, f1.tx, f1.dat, f1.of.later⟩, fun v hv => z5E (V4 h2) _ (f4 v hv)⟩
def CellOut (P : Program) (E : Env) (σ : KS) (c : CT) (own : Bool) (x : RV) (y : Den c) (u : Value) : Prop :=
 if own = true then VR P E u (av1 σ.H x) ∧ ok1 σ.H x ∧ ∃ σi, Later σi σ ∧ Rdr.run σi (ownR c x) = some y else VR P E u (.c (enc c y))
theorem CellOut.go {c : CT} {own : Bool} {x : RV} {y : Den c} {u : Value} (h : CellOut P E σ c own x y u) (k : Go1 P B X w0 S0 pa tm E σ E' σ') : CellOut P E' σ' c own x y u := by
 unfold CellOut at h ⊢
 cases own with
 | true =>
  simp only [if_true] at h ⊢
  obtain ⟨h1, h2, σi, h3, h4⟩ := h
  exact ⟨k.tx.v1 u x h2 h1, k.tx.ok1 x h2, σi, h3.trans k.later, h4⟩
 | false => simp only [Bool.false_eq_true, if_false] at h ⊢; exact k.dat u _ h
def RowOut (P : Program) (E : Env) (σ : KS) : (r : RT) → List Bool → DenR r → List RV → List Value → Prop
 | .one c, b, y, [x], [u] => CellOut P E σ c (b.headD false) x y u
 | .cons c r, b, y, x :: xs, u :: us => CellOut P E σ c (b.headD false) x (Prod.fst y) u ∧ RowOut P E σ r b.tail (Prod.snd y) xs us
 | _, _, _, _, _ => False
theorem RowOut.go (k : Go1 P B X w0 S0 pa tm E σ E' σ') : ∀ {r : RT} {b : List Bool} {y : DenR r} {xs : List RV} {us : List Value}, RowOut P E σ r b y xs us → RowOut P E' σ' r b y xs us
 | .one c, b, y, [x], [u], h => CellOut.go (y := y) h k
 | .cons c r, b, y, x :: xs, u :: us, h => ⟨h.1.go k, RowOut.go k h.2⟩
 | .one _, _, _, [], _, h => h.elim
 | .one _, _, _, [_], [], h => h.elim
 | .one _, _, _, [_], _ :: _ :: _, h => h.elim
 | .one _, _, _, _ :: _ :: _, _, h => h.elim
 | .cons _ _, _, _, [], _, h => h.elim
 | .cons _ _, _, _, _ :: _, [], h => h.elim
theorem ze7 (hr : RelE P B X w0 S0 pa E tm σ) {c : CT} {own : Bool} {x : RV} {K : KS → Den c → Option α} (h : zdC c own x σ K = some r) {u : Value} (hu : VR P E u (av1 σ.H x)) (hx : ok1 σ.H x) :
  ∃ E' σ' y, K σ' y = some r ∧ Go1 P B X w0 S0 pa tm E σ E' σ' ∧ CellOut P E' σ' c own x y u := by
 unfold zdC at h
 cases own with
 | true =>
  simp only [if_true] at h
  obtain ⟨y, h1, h2⟩ := YP h
  refine ⟨E, σ, y, h2, .refl hr, ?_⟩
  unfold CellOut; rw [if_pos rfl]
  exact ⟨hu, hx, σ, fun _ _ _ _ _ h => h, h1⟩
 | false =>
  simp only [Bool.false_eq_true, if_false] at h
  obtain ⟨⟨y, ws⟩, h1, h2⟩ := YP h
  obtain ⟨E', f1, f2⟩ := zuc hr h1 hx
  refine ⟨E', _, y, h2, f1, ?_⟩
  unfold CellOut; rw [if_neg (by simp)]
  exact f2 u hu
theorem ze8 : ∀ {rt : RT} {b : List Bool} {xs : List RV} {us : List Value} {E : Env} {σ : KS} {K : KS → DenR rt → Option α}, RelE P B X w0 S0 pa E tm σ → z78 rt b xs σ K = some r → us.length = xs.length →
  (∀ (i : Nat) (u : Value) (x : RV), us[i]? = some u → xs[i]? = some x → VR P E u (av1 σ.H x) ∧ ok1 σ.H x) → ∃ E' σ' y, K σ' y = some r ∧ Go1 P B X w0 S0 pa tm E σ E' σ' ∧ RowOut P E' σ' rt b y xs us := by
 intro rt
 induction rt using RT.rec (motive_1 := fun _ => True) with
 | int | bool | str | sl => trivial
 | one c =>
  intro b xs us E σ K hr h hl hv
  match xs, us, hl, h with
  | [x], [u], _, h =>
   have h' : zdC c (b.headD false) x σ K = some r := h
   obtain ⟨h1, h2⟩ := hv 0 u x rfl rfl
   obtain ⟨E', σ', y, f1, f2, f3⟩ := ze7 hr h' h1 h2
   exact ⟨E', σ', y, f1, f2, f3⟩
  | [], _, _, h => cases h
  | _ :: _ :: _, _, _, h => cases h
 | cons c rt _ ih =>
  intro b xs us E σ K hr h hl hv
  match xs, us, hl, h with
  | x :: xs, u :: us, hl, h =>
   have h' : zdC c (b.headD false) x σ (fun σ y => z78 rt b.tail xs σ fun σ ys => K σ (y, ys)) = some r := h
   obtain ⟨h1, h2⟩ := hv 0 u x rfl rfl
   obtain ⟨E1, σ1, y, f1, f2, f3⟩ := ze7 hr h' h1 h2
   obtain ⟨E2, σ2, ys, g1, g2, g3⟩ := ih (us := us) f2.rel f1 (by simpa using hl) (fun i v z h3 h4 => by
    obtain ⟨h5, h6⟩ := hv (i + 1) v z (by simpa using h3) (by simpa using h4)
    exact ⟨f2.tx.v1 v z h6 h5, f2.tx.ok1 z h6⟩)
   exact ⟨E2, σ2, (y, ys), g1, f2.trans g2, CellOut.go (y := y) f3 g2, g3⟩
  | [], _, _, h => cases h
def OutOne (P : Program) (E : Env) (σ : KS) (o : OT) (y : DenR o.r) (x : RV) (u : Value) : Prop :=
 ∃ us, RowOut P E σ o.r o.own y (x.row o.agg) us ∧ (if o.agg = true then u = .agg us.toArray ∧ ∀ v ∈ us, v.oneCell' = true else us = [u])
def zkI (P : Program) (E : Env) (σ : KS) : (os : List OT) → PO os → List RV → List Value → Prop
 | [], _, [], [] => True
 | [o], y, [x], [u] => OutOne P E σ o y x u
 | o :: o1 :: os, y, x :: xs, u :: us => OutOne P E σ o (Prod.fst y) x u ∧ zkI P E σ (o1 :: os) (Prod.snd y) xs us
 | _, _, _, _ => False
theorem OutOne.go (k : Go1 P B X w0 S0 pa tm E σ E' σ') {o : OT} {y : DenR o.r} {x : RV} {u : Value} (h : OutOne P E σ o y x u) : OutOne P E' σ' o y x u := by
 obtain ⟨us, h1, h2⟩ := h; exact ⟨us, h1.go k, h2⟩
theorem zbr (hr : RelE P B X w0 S0 pa E tm σ) {o : OT} {x : RV} {u : Value} {K : KS → DenR o.r → Option α} (h : z78 o.r o.own (x.row o.agg) σ K = some r) (hu : VR P E u (av3 σ.H x)) (hx : ok3 σ.H x) :
  ∃ E' σ' y, K σ' y = some r ∧ Go1 P B X w0 S0 pa tm E σ E' σ' ∧ OutOne P E' σ' o y x u := by
 obtain ⟨rt, ag, own⟩ := o
 simp only at h
 cases ag with
 | true =>
  by_cases hag : ∃ xs, x = .ag xs
  ·obtain ⟨xs, rfl⟩ := hag
   have hrow : RV.row true (.ag xs) = xs := rfl
   rw [hrow] at h
   replace hu : VR P E u (.agg (xs.map (av1 σ.H))) := hu
   cases hu with
   | agg vs _ hl h1 hv =>
   obtain ⟨E', σ', y, f1, f2, f3⟩ := ze8 (us := vs.toList) hr h (by simpa using hl) (fun i v z h3 h4 => ⟨hv i v _ (by simpa using h3) (by rw [List.getElem?_map, h4]; rfl), hx z (List.mem_of_getElem? h4)⟩)
   refine ⟨E', σ', y, f1, f2, vs.toList, f3, ?_⟩
   rw [if_pos rfl]
   exact ⟨by simp, fun v hv' => by obtain ⟨i, hi⟩ := List.getElem?_of_mem hv'; exact h1 i v (by simpa using hi)⟩
  ·have hrow : RV.row true x = [] := by cases x <;> first | rfl | exact absurd ⟨_, rfl⟩ hag
   rw [hrow] at h
   cases rt <;> cases h
 | false =>
  by_cases hag : ∃ xs, x = .ag xs
  ·obtain ⟨xs, rfl⟩ := hag
   have hrow : RV.row false (.ag xs) = [] := rfl
   rw [hrow] at h
   cases rt <;> cases h
  ·have hna : ∀ xs, x ≠ .ag xs := fun xs e => hag ⟨xs, e⟩
   have hrow : RV.row false x = [x] := by cases x <;> first | rfl | exact absurd ⟨_, rfl⟩ hag
   rw [hrow] at h
   have hx1 : VR P E u (av1 σ.H x) ∧ ok1 σ.H x := by
    by_cases ht : ∃ xs, x = .tup xs
    ·obtain ⟨xs, rfl⟩ := ht; exact ⟨.any _, trivial⟩
    ·have hnt : ∀ xs, x ≠ .tup xs := fun xs e => ht ⟨xs, e⟩
     rw [z12 _ _ hnt, z5s _ _ hna] at hu
     exact ⟨hu, z38 (z11 hx hnt) hna⟩
   obtain ⟨E', σ', y, f1, f2, f3⟩ := ze8 (us := [u]) hr h rfl (fun i v z h3 h4 => by
    cases i with
    | zero => simp at h3 h4; subst h3 h4; exact hx1
    | succ i => simp at h3)
   refine ⟨E', σ', y, f1, f2, [u], ?_, ?_⟩
   ·show RowOut P E' σ' rt own y (RV.row false x) [u]
    rw [hrow]; exact f3
   ·rw [if_neg (by simp)]
theorem ze9 : ∀ {os : List OT} {xs : List RV} {us : List Value} {E : Env} {σ : KS} {K : KS → PO os → Option α}, RelE P B X w0 S0 pa E tm σ → z9A os xs σ K = some r → us.length = xs.length →
  (∀ (i : Nat) (u : Value) (x : RV), us[i]? = some u → xs[i]? = some x → VR P E u (av3 σ.H x) ∧ ok3 σ.H x) → ∃ E' σ' y, K σ' y = some r ∧ Go1 P B X w0 S0 pa tm E σ E' σ' ∧ zkI P E' σ' os y xs us := by
 intro os
 induction os with
 | nil =>
  intro xs us E σ K hr h hl hv
  match xs, us, hl, h with
  | [], [], _, h => exact ⟨E, σ, (), h, .refl hr, trivial⟩
  | _ :: _, _, _, h => cases h
 | cons o os ih =>
  intro xs us E σ K hr h hl hv
  cases os with
  | nil =>
   match xs, us, hl, h with
   | [x], [u], _, h =>
    obtain ⟨h1, h2⟩ := hv 0 u x rfl rfl
    obtain ⟨E', σ', y, f1, f2, f3⟩ := zbr hr (show z78 o.r o.own (x.row o.agg) σ K = some r from h) h1 h2
    exact ⟨E', σ', y, f1, f2, f3⟩
   | [], _, _, h => cases h
   | _ :: _ :: _, _, _, h => cases h
  | cons o1 os =>
   match xs, us, hl, h with
   | x :: xs, u :: us, hl, h =>
    obtain ⟨h1, h2⟩ := hv 0 u x rfl rfl
    obtain ⟨E1, σ1, y, f1, f2, f3⟩ := zbr hr (show z78 o.r o.own (x.row o.agg) σ (fun σ y => z9A (o1 :: os) xs σ fun σ ys => K σ (y, ys)) = some r from h) h1 h2
    obtain ⟨E2, σ2, ys, g1, g2, g3⟩ := ih (us := us) f2.rel f1 (by simpa using hl) (fun i v z h3 h4 => by
     obtain ⟨h5, h6⟩ := hv (i + 1) v z (by simpa using h3) (by simpa using h4)
     exact ⟨f2.tx.v3 v z h6 h5, f2.tx.ok3 z h6⟩)
    exact ⟨E2, σ2, (y, ys), g1, f2.trans g2, OutOne.go (y := y) g2 f3, g3⟩
   | [], _, _, h => cases h
/-! ### Rows of one's own, at the end -/
def zqV (P : Program) (E : Env) (e : TypeId) (r : RT) (rows : List (DenR r)) (u : Value) (roots : List Nat) : Prop :=
 (rows = [] ∧ ∃ a, u = .slice a 0 0) ∨ ∃ l cs ty cap, E.A l ∧ l ∈ roots ∧ E.w.heap[E.β l]? = some (.cells cs ty (0, 0)) ∧ BlkR P E (E.cp l) cs (zr r rows) ∧ u = .slice (some ⟨E.β l, 0, none⟩) rows.length cap ∧ rows.length ≤ cap ∧ cap * P.cellsOf e ≤ E.cp l ∧ cap ≤ maxLen
theorem zud (hr : RelE P B X w0 S0 pa E tm σ) {e : TypeId} {rt : RT} {x : RV} {y : List (DenR rt)} {u : Value} (h : CellOut P E σ (.sl e rt) true x y u) (hl : ∀ l ∈ x.root, z1X σ l = true) : zqV P E e rt y u x.root := by
 unfold CellOut at h
 rw [if_pos rfl] at h
 obtain ⟨hu, hx, σi, hlat, hrun⟩ := h
 have live : ∀ {l g : Nat} {e' : TypeId} {r' : RT} {rows : List (DenR r')}, z1X σ l = true → σi.H l = .flat g false e' r' rows → σ.H l = .flat g false e' r' rows := by
  intro l g e' r' rows h1 h2
  unfold z1X at h1
  split at h1
  ·rename_i g2 e2 r2 rows2 h3
   have h4 := hlat l g2 e2 r2 rows2 h3
   rw [h2] at h4
   rw [h3]; exact h4.symm
  ·cases h1
 cases x with
 | nils =>
  have hy : y = [] := by
   have h1 : some ([] : List (DenR rt)) = some y := hrun
   cases h1; rfl
  replace hu : VR P E u .nils := hu
  cases hu
  exact .inl ⟨hy, none, rfl⟩
 | arw l g e' =>
  have h1 : Rdr.run σi (Rdr.get (.H l) fun s => match s.hd! with
   | .flat g' false e2 r' rows => if g = g' ∧ e = e' ∧ e = e2 then optR (asD (.sl e rt) (.d (.sl e2 r') rows)) else .fail
   | _ => .fail) = some y := hrun
  simp only [Rdr.run, KS.lk, Sl.hd!] at h1
  split at h1
  ·rename_i g' e2 r' rows' hH
   split at h1
   ·rename_i hc
    obtain ⟨rfl, rfl, rfl⟩ := hc
    obtain ⟨_, rfl, rfl⟩ := z3c (V4 h1)
    have hH2 := live (hl l (by simp [RV.root])) hH
    have hx' : av1 σ.H (.arw l g e) = .arr l 0 y.length y.length e := by show avW σ.H l g e = _; simp [avW, hH2]
    rw [hx'] at hu
    rcases vV hu with ⟨h2, _, a, rfl⟩ | ⟨c, hA, h2, h3, h4, h5, rfl⟩
    ·exact .inl ⟨List.eq_nil_of_length_eq_zero h2, a, rfl⟩
    ·obtain ⟨cs, ty, hh, hb, _⟩ := hr.w3.loc l hA
     have hm : σ.m l = zr r' y := Y4 hH2
     rw [hm] at hb
     exact .inr ⟨l, cs, ty, c, hA, by simp [RV.root], hh, hb, rfl, h3, by omega, h5⟩
   ·cases h1
  ·cases h1
 | ars l g e' o len =>
  cases o with
  | succ o => cases hrun
  | zero =>
   have h1 : Rdr.run σi (Rdr.get (.H l) fun s => match s.hd! with
    | .flat g' false e2 r' rows => if g = g' ∧ e = e' ∧ e = e2 then .test (inN rows 0 len) (optR (asD (.sl e rt) (.d (.sl e2 r') (subN rows 0 len)))) .fail else .fail
    | _ => .fail) = some y := hrun
   simp only [Rdr.run, KS.lk, Sl.hd!] at h1
   split at h1
   ·rename_i g' e2 r' rows' hH
    split at h1
    ·rename_i hc
     obtain ⟨rfl, rfl, rfl⟩ := hc
     simp only [Rdr.run] at h1
     cases hin : inN rows' 0 len with
     | false => rw [hin] at h1; cases h1
     | true =>
      simp only [hin, cond] at h1
      have hin' : 0 + len ≤ rows'.length := of_decide_eq_true hin
      obtain ⟨_, rfl, rfl⟩ := z3c (V4 h1)
      have hH2 := live (hl l (by simp [RV.root])) hH
      have hx' : av1 σ.H (.ars l g e 0 len) = .arr l 0 len rows'.length e := by show avS σ.H l g e 0 len = _; simp [avS, hH2]
      rw [hx'] at hu
      have hsl : (subN rows' 0 len).length = len := by simp [subN]; omega
      rcases vV hu with ⟨h2, _, a, rfl⟩ | ⟨c, hA, h2, h3, h4, h5, rfl⟩
      ·exact .inl ⟨List.eq_nil_of_length_eq_zero (by rw [hsl]; exact h2), a, rfl⟩
      ·obtain ⟨cs, ty, hh, hb, _⟩ := hr.w3.loc l hA
       have hm : σ.m l = zr r' rows' := Y4 hH2
       rw [hm] at hb
       have hpre : zr r' (subN rows' 0 len) = (zr r' rows').take (len * r'.size) := by rw [subN, List.drop_zero, z5t]
       refine .inr ⟨l, cs, ty, c, hA, by simp [RV.root], hh, ?_, by rw [hsl], by rw [hsl]; exact h3, by omega, h5⟩
       rw [hpre]
       refine ⟨hb.1, Nat.le_trans (by rw [List.length_take]; omega) hb.2.1, fun i v z hv hz => ?_⟩
       rw [List.getElem?_take] at hz
       split at hz
       ·exact hb.2.2 i v z hv hz
       ·cases hz
    ·cases h1
   ·cases h1
 | _ => cases hrun
/-! ### The caller takes them over -/
theorem RelE.adopt (hr : RelE P B X w0 S0 pa E tm σ) {l g : Nat} {e : TypeId} {r : RT} {rows : List (DenR r)} (hH : σ.H l = .no g) (hsz : r.size = P.cellsOf e) {b n : Nat} {cs : Array Value} {ty : TypeId} (hb : E.w.heap[b]? = some (.cells cs ty (0, 0)))
  (hc : BlkR P E n cs (zr r rows)) (hs : ∀ o, ¬ E.S b o) (hB : B ≤ b ∨ X b) (hne : ∀ l', E.A l' → E.β l' ≠ b) :
  ∃ E' : Env, E' = { E with β := fun k => if k = l then b else E.β k, A := fun k => E.A k ∨ k = l, cp := fun k => if k = l then n else E.cp k } ∧ RelE P B X w0 S0 pa E' tm (σ.put (.H l) (.hd (.flat (g + 1) false e r rows))) ∧ E.le E' ∧
   Tx P E σ.H E' (updH σ.H l (.flat (g + 1) false e r rows)) := by
 have hA := hr.notA hH
 let E' : Env := { E with β := fun k => if k = l then b else E.β k, A := fun k => E.A k ∨ k = l, cp := fun k => if k = l then n else E.cp k }
 have hle : E.le E' := by
  refine ⟨fun _ _ _ _ h => h, fun _ _ h => h, fun k hk => ?_, fun _ _ _ _ h => .inl h, fun _ _ h => h⟩
  have hkl : k ≠ l := by rintro rfl; exact hA hk
  exact ⟨.inl hk, by simp [E', hkl], by simp [E', hkl]⟩
 have hgen := vl (H := σ.H) (l := l) (h := .flat (g + 1) false e r rows) (by rw [hH]; exact Nat.lt_succ_self g)
 have hTx : Tx P E σ.H E' (updH σ.H l (.flat (g + 1) false e r rows)) := Tx.upd hgen.1 hgen.2 (envKill_le.trans hle)
 have hw : W3 P B X w0 S0 E' (setM σ.m l (zr r rows)) := by
  refine ⟨hr.w3.fr, hr.w3.hB, hr.w3.s0, hr.w3.sNew, hr.w3.slt, fun k hk => ?_, fun k hk => ?_, fun k k' hk hk' he => ?_, hr.w3.ow, hr.w3.gl⟩
  ·by_cases h1 : k = l
   ·exact .inr h1
   ·simp only [setM, if_neg h1] at hk; exact .inl (hr.w3.hA k hk)
  ·by_cases h1 : k = l
   ·subst h1
    refine ⟨cs, ty, ?_, ?_, ?_, ?_⟩
    ·simp only [E', if_true]; exact hb
    ·have := hc.mono hle
     simp only [setM, if_true, E'] at this ⊢
     exact this
    ·intro o ho; simp only [E', if_true] at ho; exact hs o ho
    ·simp only [E', if_true]; exact hB
   ·have hAk : E.A k := by rcases hk with hk | hk; exact hk; exact absurd hk h1
    obtain ⟨cs', e', hh, hc', hs', hb'⟩ := hr.w3.loc k hAk
    refine ⟨cs', e', ?_, ?_, ?_, ?_⟩
    ·simp only [E', if_neg h1]; exact hh
    ·have := hc'.mono hle
     simp only [setM, if_neg h1, E'] at this ⊢
     exact this
    ·intro o ho; simp only [E', if_neg h1] at ho; exact hs' o ho
    ·simp only [E', if_neg h1]; exact hb'
  ·by_cases h1 : k = l <;> by_cases h2 : k' = l
   ·rw [h1, h2]
   ·have hAk : E.A k' := by rcases hk' with h | h; exact h; exact absurd h h2
    simp only [E', if_pos h1, if_neg h2] at he
    exact absurd he.symm (hne k' hAk)
   ·have hAk : E.A k := by rcases hk with h | h; exact h; exact absurd h h1
    simp only [E', if_neg h1, if_pos h2] at he
    exact absurd he (hne k hAk)
   ·have hAk : E.A k := by rcases hk with h | h; exact h; exact absurd h h1
    have hAk' : E.A k' := by rcases hk' with h | h; exact h; exact absurd h h2
    simp only [E', if_neg h1, if_neg h2] at he
    exact hr.w3.locne k k' hAk hAk' he
 refine ⟨E', rfl, hr.heads (by simp) z3b hw hTx (Tx.upd hgen.1 hgen.2 envKill_le) hsz (jB fun k hkl hk => ?_), hle, hTx⟩
 rcases hk with hk | hk
 ·exact hr.live k hk
 ·exact absurd hk hkl
end
end Go.Kx
