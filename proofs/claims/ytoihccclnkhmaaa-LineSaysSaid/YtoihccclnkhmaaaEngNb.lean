/-
  What is proved: what an operation does that makes an array of one's own, fills it, cuts it, or holds a slice against nil. Conditions: none.
-/
import Derived.Test.YtoihccclnkhmaaaEngN
import Derived.Lib.AppendZeros
set_option linter.unusedVariables false
set_option linter.unusedSimpArgs false
set_option maxRecDepth 4000
namespace Go.Rb

/-- Knowledge of array l is forgotten. -/
def killT (l : Nat) (t : Nat → AV) : Nat → AV := fun i => kill3 (fun k => k == l) (t i)
def killM (l : Nat) (m : Nat → List AV) : Nat → List AV := fun i => if i = l then [] else (m i).map (kill1 (fun k => k == l))

/-- What a slice's elements are, cell by cell. -/
def acells (P : Program) (m : Nat → List AV) (e : TypeId) (y : AV) : Option (Nat × List AV) :=
  match y with
  | .arr l off len _ e' => if e' = e ∧ off + len * P.cellsOf e ≤ (m l).length then some (len, ((m l).drop off).take (len * P.cellsOf e)) else none
  | y => match y.rows e with
    | some rows => some (rows.length, rows.flatten.map .c)
    | none => none

/-- **Operations on arrays of one's own, and a slice held against nil.** -/
def ArrT (P : Program) (s : RSt) (o : Oper) (N : RSt → Prop) : Prop :=
  match o.op with
  | .binOp op T x y _ => (op = .eql ∨ op = .neq) ∧ ∃ e, P.underlying T = some (.slice e) ∧ evO s.t y = .nils ∧
      ((∃ rows, (evO s.t x).rows e = some rows ∧ ∀ b, (b = true → rows = []) → N { s with t := putT s.t o.dst (.c (.bool (if op = .eql then b else !b))) }) ∨
       (∃ l off len cap, evO s.t x = .arr l off len cap e ∧ ∀ b, (b = true → len = 0) → N { s with t := putT s.t o.dst (.c (.bool (if op = .eql then b else !b))) }))
  | .makeSlice ty ln cp => ∃ (a : Nat) (e : TypeId) (n : Int) (z : List AV), 1000 ≤ a ∧ s.m a = [] ∧ P.underlying ty = some (.slice e) ∧ evO s.t ln = .c (.int .i64 n) ∧ evO s.t cp = .c (.int .i64 n) ∧
      0 ≤ n ∧ n * P.bytesOf e ≤ 140737488355328 ∧ n ≤ 9223372036854775807 ∧ zc P e = some z ∧ z.length = P.cellsOf e ∧ P.cellsOf e ≠ 0 ∧
      N { s with t := putT s.t o.dst (.arr a 0 n.toNat n.toNat e), m := setM s.m a ((List.replicate n.toNat z).flatten) }
  | .assign x => ∃ (e : TypeId) (k : Nat), evO s.t x = .nils ∧ N { s with t := putT s.t o.dst (.own false k e []) }
  | .slice T x lo hi mx => lo = none ∧ mx = none ∧ ∃ h k e, hi = some h ∧ evO s.t h = .c (.int k 0) ∧ P.underlying T = some (.slice e) ∧ (P.info? e).isSome = true ∧
      ((evO s.t x = .nils ∧ N { s with t := putT s.t o.dst .nils }) ∨
       (∃ l len cap d, evO s.t x = .arr l 0 len cap e ∧ 2000 ≤ l ∧ o.dst = some d ∧ s.p.testBit d = false ∧ N { s with t := setT (killT l s.t) d (.own true d e []), m := killM l s.m, p := s.p ||| 2 ^ d }))
  | .call c => ∃ (x y : Operand) (ty tn e : TypeId) (kn k : IntKind) (n a : Nat) (z : List AV), c.callee = .builtin .append ∧ c.args = #[x, y] ∧ c.argTypes = #[ty, tn] ∧ P.underlying ty = some (.slice e) ∧ P.underlying tn = some (.int kn) ∧
      evO s.t x = .nils ∧ evO s.t y = .c (.int k n) ∧ 0 < n ∧ n * P.bytesOf e ≤ 140737488355328 ∧ n ≤ maxLen ∧ 1000 ≤ a ∧ s.m a = [] ∧ zc P e = some z ∧ z.length = P.cellsOf e ∧ P.cellsOf e ≠ 0 ∧
      N { s with t := putT s.t o.dst (.arr a 0 n n e), m := setM s.m a ((List.replicate n z).flatten) }
  | _ => False

section
variable {P : Program} {B : Nat} {X : Nat → Prop} {w0 : World} {S0 : Nat → Nat → Prop} {pa : Nat → Option (Nat × Nat)} {n : Nat}

theorem rel_val {E : Env} {a : Act} {s : RSt} {dst : Option Nat} {v : Value} {x : AV} (hwi : WI P B X w0 S0 E s) (hv : ∀ i, VR P E (a.tmps.getD i undef) (s.t i)) (hde : a.defers = []) (hn : a.tmps.size = n)
    (hpa : ∀ l b, pa l = some b → E.A l ∧ (E.β l, E.cp l) = b) (hd : ∀ d, dst = some d → d < a.tmps.size) (hx : VR P E v x) :
    Rel P B X w0 S0 pa n (a.put dst v) E.w { s with t := putT s.t dst x } := by
  refine ⟨E, rfl, ⟨hwi.fr, hwi.hB, hwi.s0, hwi.sNew, hwi.slt, hwi.hA, hwi.loc, hwi.locne, hwi.own, hwi.ownne, hwi.new, hwi.deadn, hwi.deado⟩, act_put hv (Env.le.refl E) hx hd, ?_, ?_, hpa⟩
  · cases dst <;> simp [Act.put, hde]
  · cases dst <;> simp [Act.put, hn]

theorem run_nilcmp {w : World} {op : BinOp} {T e : TypeId} {x y : Operand} {a : Option Addr} {k c : Nat} (hop : op = .eql ∨ op = .neq) (hu : P.underlying T = some (.slice e)) :
    (do eqGuard op T x y (.slice a k c) (.slice none 0 0); binOp op T (.slice a k c) (.slice none 0 0) : Sem Value).run P w = .ok (.bool (if op = .eql then a.isNone else !a.isNone)) w := by
  have he : (Op.equal T (.slice a k c) (.slice none 0 0)).run P w = .ok a.isNone w := by
    unfold Op.equal Op.maxDepth
    rw [show (10000 : Nat) = 9999 + 1 from rfl]
    generalize 9999 = d
    cases a with
    | none => simp only [Op.equalIn, Sem.run_bind, run_underlying hu, Result.andThen_ok, Sem.run_pure]
    | some a => simp only [Op.equalIn, Sem.run_bind, run_underlying hu, Result.andThen_ok, Sem.run_pure]; rfl
  rcases hop with rfl | rfl
  · simp [eqGuard, binOp, he]
  · simp [eqGuard, binOp, he]

theorem flatten_rep_get {α : Type} (z : List α) (hz : z.length ≠ 0) : ∀ (n i : Nat), i < n * z.length → ((List.replicate n z).flatten)[i]? = z[i % z.length]?
  | 0, i, h => by simp at h
  | n + 1, i, h => by
    rw [List.replicate_succ, List.flatten_cons, List.getElem?_append]
    split
    · rename_i h1; rw [Nat.mod_eq_of_lt h1]
    · rename_i h1
      rw [flatten_rep_get z hz n (i - z.length) (by rw [Nat.add_mul] at h; omega)]
      congr 1
      rw [← Nat.mod_eq_sub_mod (by omega)]

theorem flatten_rep_len {α : Type} (z : List α) (n : Nat) : ((List.replicate n z).flatten).length = n * z.length := by simp

theorem rd_none {w : World} {S : Nat → Nat → Prop} {k c : Nat} {e : TypeId} {rows : List (List C)} (h : Rd P w S (.slice none k c) (.sl e rows)) : rows = [] := by
  generalize hx : C.sl e rows = x at h
  generalize hv : Value.slice none k c = v at h
  cases h with
  | emp => cases hx; rfl
  | sl => cases hv
  | _ => cases hx

theorem wrap_in {n : Int} (h1 : 0 ≤ n) (h2 : n ≤ 9223372036854775807) : IntKind.wrap .i64 n = n := by
  show (if (true && decide (n % (18446744073709551616 : Int) ≥ (9223372036854775808 : Int))) = true then n % (18446744073709551616 : Int) - (18446744073709551616 : Int) else n % (18446744073709551616 : Int)) = n
  simp only [Bool.true_and, decide_eq_true_eq]
  split <;> omega

theorem run_makeSlice {w : World} {ty e : TypeId} {k k' : IntKind} {n : Int} {i : TypeInfo} {z : Value} (hu : P.underlying ty = some (.slice e)) (hi : P.info? e = some i) (hz : i.zero = some z)
    (h0 : 0 ≤ n) (h1 : n * P.bytesOf e ≤ 140737488355328) (h2 : n ≤ 9223372036854775807) :
    ∃ Z : Array Value, Z.size = n.toNat * P.cellsOf e ∧ (∀ q, q < n.toNat * P.cellsOf e → Z[q]? = some (z.cells[q % z.cells.size]!)) ∧
      (Instr.makeSlice ty (.int k n) (.int k' n)).run P w = .ok (.slice (some ⟨w.heap.size, 0, none⟩) n.toNat n.toNat) (w.alloc (.cells Z e)) := by
  have hbyt : i.bytes = P.bytesOf e := by simp [Program.bytesOf, hi]
  have hs : ∀ w, (sizeOf e).run P w = .ok (P.cellsOf e) w := run_sizeOf (by rw [hi]; rfl)
  have hti : ∀ w, (typeInfo e).run P w = .ok i w := by intro w; simp [typeInfo, hi]
  have hw := wrap_in h0 h2
  have hbig : ¬ ((P.bytesOf e : Int) * n > 2 ^ 48) := by
    have : (P.bytesOf e : Int) * n = n * P.bytesOf e := Int.mul_comm ..
    rw [this]
    have : (2 : Int) ^ 48 = 281474976710656 := rfl
    omega
  have hroom : ¬ (n.toNat * P.bytesOf e > roomBytes) := by
    have e1 : ((n.toNat : Nat) : Int) = n := by omega
    have e2 : ((n.toNat * P.bytesOf e : Nat) : Int) = n * P.bytesOf e := by push_cast; rw [e1]
    have e3 : roomBytes = 140737488355328 := rfl
    omega
  refine ⟨(Array.range (n.toNat * P.cellsOf e)).map ((if n.toNat * P.cellsOf e = 0 then #[] else z.cells)[· % (if n.toNat * P.cellsOf e = 0 then (#[] : Array Value) else z.cells).size]!), by simp, ?_, ?_⟩
  · intro q hq
    have hne : n.toNat * P.cellsOf e ≠ 0 := by omega
    simp only [hne, if_false]
    simp [hq]
  · have hn0 : ¬ (n < 0) := by omega
    have hnn : ¬ (n > n) := by omega
    by_cases hne : n.toNat * P.cellsOf e = 0
    · simp only [Instr.makeSlice, Sem.run_bind, run_underlying hu, Result.andThen_ok, asInt, run_asIntOf, Sem.run_pure, hti, hbyt, hw, hbig, hn0, hnn, decide_false, Bool.or_false, Bool.or_self, Bool.false_eq_true, if_false, askRoom, hroom, hs, if_pos hne, newRow, newObj]
      rfl
    · simp only [Instr.makeSlice, Sem.run_bind, run_underlying hu, Result.andThen_ok, asInt, run_asIntOf, Sem.run_pure, hti, hbyt, hw, hbig, hn0, hnn, decide_false, Bool.or_false, Bool.or_self, Bool.false_eq_true, if_false, askRoom, hroom, hs, if_neg hne, newRow, newObj,
        zeroValue, hz]
      rfl

/-- A block that is forgotten. -/
theorem killed {E : Env} {s : RSt} {a : Act} (hwi : WI P B X w0 S0 E s) (hv : ∀ i, VR P E (a.tmps.getD i undef) (s.t i)) (hp : ∀ l b, pa l = some b → E.A l ∧ (E.β l, E.cp l) = b) (l : Nat) (hl : pa l = none) :
    WI P B X w0 S0 (envKill E (fun k => k == l)) { s with t := killT l s.t, m := killM l s.m } ∧ (∀ i, VR P (envKill E (fun k => k == l)) (a.tmps.getD i undef) (killT l s.t i)) ∧
      ∀ k b, pa k = some b → (envKill E (fun k => k == l)).A k ∧ ((envKill E (fun k => k == l)).β k, (envKill E (fun k => k == l)).cp k) = b := by
  have hml : ∀ k, killM l s.m k ≠ [] ↔ s.m k ≠ [] ∧ (k == l) = false := by
    intro k
    show (if k = l then [] else (s.m k).map _) ≠ [] ↔ _
    by_cases hk : k = l <;> simp [hk]
  refine ⟨⟨hwi.fr, hwi.hB, hwi.s0, hwi.sNew, hwi.slt, fun k => ?_, ?_, ?_, ?_, hwi.ownne, hwi.new, hwi.deadn, hwi.deado⟩, fun i => vr_kill3 _ _ (hv i), ?_⟩
  · show E.A k ∧ (k == l) = false ↔ killM l s.m k ≠ []
    rw [hml, hwi.hA k]
  · intro k hk
    obtain ⟨h1, h2⟩ := (hml k).1 hk
    obtain ⟨cs, e, hh, hc, hs, hb⟩ := hwi.loc k h1
    refine ⟨cs, e, hh, ?_, hs, hb⟩
    have h3 : ¬ (k = l) := by simpa using h2
    have : killM l s.m k = (s.m k).map (kill1 (fun k => k == l)) := by simp only [killM, if_neg h3]
    show BlkR _ _ _ _ (killM l s.m k)
    rw [this]
    refine ⟨hc.1, by show ((s.m k).map _).length ≤ E.cp k; rw [List.length_map]; exact hc.2.1, fun i v y hv hy => ?_⟩
    rw [List.getElem?_map, Option.map_eq_some_iff] at hy
    obtain ⟨x, hx, rfl⟩ := hy
    exact ⟨vr_own_kill (hc.2.2 i v x hv hx).1, (hc.2.2 i v x hv hx).2⟩
  · intro k k' hk hk' he
    exact hwi.locne k k' ((hml k).1 hk).1 ((hml k').1 hk').1 he
  · intro nw k v e hr
    obtain ⟨h1, h2⟩ := hwi.own nw k v e hr
    exact ⟨h1, fun l hl => h2 l ((hml l).1 hl).1⟩
  · intro k b hk
    refine ⟨⟨(hp k b hk).1, ?_⟩, (hp k b hk).2⟩
    by_cases h1 : k = l
    · subst h1; rw [hl] at hk; cases hk
    · simpa using h1

set_option maxHeartbeats 1000000 in
theorem arrT_sound {a : Act} {w : World} {s : RSt} {o : Oper} {N : RSt → Prop} (hX : ∀ b, X b → ∃ l c, pa l = some (b, c)) (hpn : ∀ l, 2000 ≤ l → pa l = none) (h : Rel P B X w0 S0 pa n a w s) (hd : ∀ d, o.dst = some d → d < n) (hs : ArrT P s o N)
    {K : Act → World → Prop} {Q : Exit → Act → World → Prop} (hK : ∀ a' w' s', Rel P B X w0 S0 pa n a' w' s' → N s' → K a' w') : o.wp P a w K Q := by
  obtain ⟨E, rfl, hwi, hv, hde, hn, hpa⟩ := h
  have hdst : ∀ d, o.dst = some d → d < a.tmps.size := fun d hd' => by rw [hn]; exact hd d hd'
  have hev : ∀ x, VR P E (a.eval x) (evO s.t x) := by
    intro x
    cases x with
    | tmp i => exact hv i
    | const v => exact vr_cv P E v
    | func f => exact .fn f #[] [] rfl (by simp)
    | global g => exact .any _
  have hput : ∀ v, (a.put o.dst v).defers = [] ∧ (a.put o.dst v).tmps.size = n := by
    intro v
    cases o.dst <;> simp [Act.put, hde, hn]
  obtain ⟨dst, op, ty, pos, after, guard⟩ := o
  simp only at hdst hd hput
  unfold ArrT at hs
  simp only at hs
  split at hs
  · -- a slice held against nil
    rename_i op' T x y yt
    obtain ⟨hop, e, hu, hy, hs⟩ := hs
    have hvy := hev y
    rw [hy] at hvy
    have hvx := hev x
    have key : ∀ (ad : Option Addr) (k c : Nat), a.eval x = .slice ad k c → N { s with t := putT s.t dst (.c (.bool (if op' = .eql then ad.isNone else !ad.isNone))) } →
        Oper.wp P { dst, op := .binOp op' T x y yt, type := ty, pos, after, guard } a E.w K Q := by
      intro ad k c hx hN
      unfold Oper.wp
      have hr := run_nilcmp (P := P) (w := E.w) (x := x) (y := y) (a := ad) (k := k) (c := c) hop hu
      have hyv : a.eval y = .slice none 0 0 := by generalize a.eval y = q at hvy; cases hvy; rfl
      rw [← hx, ← hyv] at hr
      rw [show (execOp a.eval { dst, op := .binOp op' T x y yt, type := ty, pos, after, guard }).run P E.w = _ from run_val hr]
      exact hK _ _ _ (rel_val hwi hv hde hn hpa hdst (.c _ _ (.bool _))) hN
    rcases hs with ⟨rows, hr, hs⟩ | ⟨l, off, len, cap, hr, hs⟩
    · have hd := hvx.rows hr
      obtain ⟨ad, cap, hx, _⟩ := hd.slice
      rw [hx] at hd
      refine key ad _ _ hx (hs ad.isNone fun hb => ?_)
      cases ad with
      | none => exact rd_none hd
      | some ad => cases hb
    · rw [hr] at hvx
      generalize hq : a.eval x = q at hvx
      cases hvx with
      | arr _ _ _ _ c _ hA hc hl hsz hm => exact key _ _ _ hq (hs false (by simp))
      | arr0 _ _ ad _ => exact key ad _ _ hq (hs ad.isNone fun _ => rfl)
  · -- an array is made
    rename_i t ln cp
    obtain ⟨d, e, k, z, hd0, hmd, hu, hln, hcp, h0, h1, h2, hz, hzl, hz0, hN⟩ := hs
    have hl := hev ln
    rw [hln] at hl
    have hl' := vr_int hl
    have hc := hev cp
    rw [hcp] at hc
    have hc' := vr_int hc
    obtain ⟨i, zv, hi, hiz, hzs, hz1⟩ := zc_info (n := z.length) (by rw [hz]; rfl)
    obtain ⟨Z, hZs, hZ, hrun⟩ := run_makeSlice (P := P) (w := E.w) (k := .i64) (k' := .i64) hu hi hiz h0 h1 h2
    obtain ⟨zv', hzr, hzc⟩ := run_zeroValue E hz
    have hzv : zv' = zv := by
      simp [zeroValue, typeInfo, hi, hiz] at hzr
      exact hzr.symm
    subst hzv
    have hcr : CellsR P E Z ((List.replicate k.toNat z).flatten) := by
      refine ⟨by rw [hZs, flatten_rep_len, hzl], fun j v x hv hx => ?_⟩
      have hj : j < k.toNat * P.cellsOf e := by rw [← hZs]; exact (Array.getElem?_eq_some_iff.1 hv).1
      rw [hZ j hj] at hv
      cases hv
      rw [flatten_rep_get z (by omega) k.toNat j (by rw [hzl]; exact hj)] at hx
      have hjm : j % z.length < z.length := Nat.mod_lt _ (by omega)
      have hjm' : j % zv'.cells.size < zv'.cells.size := by rw [hzs]; exact hjm
      rw [hzs, getElem!_pos zv'.cells _ (by rw [hzs]; exact hjm)]
      exact hzc.2 _ _ x (Array.getElem?_eq_getElem (by rw [hzs]; exact hjm)) hx
    unfold Oper.wp
    rw [show (execOp a.eval { dst, op := .makeSlice t ln cp, type := ty, pos, after, guard }).run P E.w = .ok (.value (.slice (some ⟨E.w.heap.size, 0, none⟩) k.toNat k.toNat)) (E.w.alloc (.cells Z e)) from by
      simp only [execOp, hl', hc', Sem.run_bind, hrun, Result.andThen_ok, Sem.run_pure]]
    by_cases hk : k.toNat = 0
    · have hg : Grows E (E.w.alloc (.cells Z e)) none := ⟨rfl, rfl, rfl, by simp, fun k hk _ => heap_alloc_old E.w _ k hk, fun b o u hs hc => by
        rw [World.cell_of_block (heap_alloc_old E.w _ b (hwi.slt b o hs))]; exact hc⟩
      have hle := envApp_le (old := none) (id := none) (st := .none) hwi hg (S' := E.S) (fun _ _ h => h) (fun d hd => by cases hd)
      have hm0 : setM s.m d ((List.replicate k.toNat z).flatten) = s.m := by
        funext l
        simp only [setM, hk, List.replicate_zero, List.flatten_nil]
        split
        · rename_i h; rw [h, hmd]
        · rfl
      have hwi' : WI P B X w0 S0 (envApp E (E.w.alloc (.cells Z e)) E.S none none .none) { s with t := putT s.t dst (.arr d 0 k.toNat k.toNat e), m := setM s.m d ((List.replicate k.toNat z).flatten) } :=
        wi_app hwi hg (fun g hg => by cases hg) (fun _ _ h => h) (fun b o hb => .inl hb) (fun b o hb => by have := hwi.slt b o hb; simp; omega) (.inl rfl) (fun d hd => by cases hd) hm0 (fun k hk => by rcases hk with hk | hk; exact hk; cases hk)
            (fun k hk => by rcases hk with hk | hk; exact hk; cases hk) (fun k hk => by rcases hk with hk | hk; exact hk; cases hk) (fun k hk => by cases hk)
      refine hK _ _ _ ⟨_, rfl, hwi', act_put hv hle ?_ hdst, (hput _).1, (hput _).2, fun l b hl => ⟨(hle.A l (hpa l b hl).1).1, by rw [(hle.A l (hpa l b hl).1).2.1, (hle.A l (hpa l b hl).1).2.2]; exact (hpa l b hl).2⟩⟩ hN
      rw [hk]
      exact .arr0 _ _ _ _
    · have hne : (List.replicate k.toNat z).flatten ≠ [] := by
        intro h3
        have := flatten_rep_len z k.toNat
        rw [h3] at this
        have h4 : k.toNat * z.length ≠ 0 := Nat.mul_ne_zero hk (by omega)
        simp only [List.length_nil] at this
        omega
      obtain ⟨hwi', hle, hv'⟩ := wi_new (e := e) (s' := { s with t := putT s.t dst (.arr d 0 k.toNat k.toNat e), m := setM s.m d ((List.replicate k.toNat z).flatten) }) hwi hmd hne (hcr.1.symm ▸ hcr.blk) rfl rfl rfl rfl
      refine hK _ _ _ ⟨_, rfl, hwi', act_put hv hle ?_ hdst, (hput _).1, (hput _).2, fun l b hl => ⟨(hle.A l (hpa l b hl).1).1, by rw [(hle.A l (hpa l b hl).1).2.1, (hle.A l (hpa l b hl).1).2.2]; exact (hpa l b hl).2⟩⟩ hN
      have hA : (envNew E (E.w.alloc (.cells Z e)) d Z.size).A d := .inr rfl
      have := VR.arr (P := P) (E := envNew E (E.w.alloc (.cells Z e)) d Z.size) d 0 k.toNat k.toNat k.toNat e hA (Nat.le_refl _) (Nat.le_refl _) (by simp [envNew, hZs]) (by unfold maxLen; omega)
      simp only [envNew, if_true] at this
      exact this
  · -- nothing is assigned
    rename_i x
    obtain ⟨e, k, hx, hN⟩ := hs
    have hvx := hev x
    rw [hx] at hvx
    have hxv : a.eval x = .slice none 0 0 := by generalize a.eval x = q at hvx; cases hvx; rfl
    unfold Oper.wp
    rw [show (execOp a.eval { dst, op := .assign x, type := ty, pos, after, guard }).run P E.w = .ok (.value (.slice none 0 0)) E.w from by simp [execOp, hxv]]
    exact hK _ _ _ (rel_val hwi hv hde hn hpa hdst (.own _ _ _ _ _ (.emp _ _ _) (.inl ⟨_, _, rfl⟩))) hN
  · -- nothing is taken of an array
    rename_i T x lo hi mx
    obtain ⟨rfl, rfl, hh, k, e, rfl, hhk, hu, hi, hs⟩ := hs
    have hvh := hev hh
    rw [hhk] at hvh
    have hvh' := vr_int hvh
    have hvx := hev x
    rcases hs with ⟨hx, hN⟩ | ⟨l, len, cap, d, hx, hl2, hdd, hpd, hN⟩
    · rw [hx] at hvx
      have hxv : a.eval x = .slice none 0 0 := by generalize a.eval x = q at hvx; cases hvx; rfl
      unfold Oper.wp
      rw [show (execOp a.eval { dst, op := .slice T x none (some hh) none, type := ty, pos, after, guard }).run P E.w = .ok (.value (.slice none 0 0)) E.w from by
        cases hq : P.info? e with
        | none => simp [hq] at hi
        | some i => simp [execOp, hxv, hvh', Instr.sliceAt, Instr.slice, Instr.sliceBounds, Instr.sliceBound, asIntOf, run_underlying hu, sizeOf, typeInfo, hq]]
      exact hK _ _ _ (rel_val hwi hv hde hn hpa hdst .nils) hN
    · rw [hx] at hvx
      obtain ⟨u, hr, hvu⟩ := yl_sound (a := a) (o := { dst, op := .slice T x none (some hh) none, type := ty, pos, after, guard }) (v := .arr l 0 0 cap e) hwi.memOK (fun y _ => hev y)
        (by simp only [yl, Option.map_none, Option.map_some, hx, hhk, yslice2, ysliceA, hu, hi, ybound, AV.int?]; simp)
      unfold Oper.wp
      rw [hr]
      subst hdd
      have hq := killed hwi hv hpa l (hpn l hl2)
      have hnone : E.ow true d = .none := by
        cases ho : E.ow true d with
        | none => rfl
        | _ => have := hwi.new d (by rw [ho]; simp); rw [hpd] at this; cases this
      have hp : ∀ k, s.p.testBit k = true → (s.p ||| 2 ^ d).testBit k = true := fun k hk => by simp [hk]
      have hpd' : (s.p ||| 2 ^ d).testBit d = true := by simp
      cases hvu with
      | arr0 _ _ ad _ =>
        have hwi' : WI P B X w0 S0 (envKill E (fun k => k == l)) { s with t := setT (killT l s.t) d (.own true d e []), m := killM l s.m, p := s.p ||| 2 ^ d } :=
          ⟨hq.1.fr, hq.1.hB, hq.1.s0, hq.1.sNew, hq.1.slt, hq.1.hA, hq.1.loc, hq.1.locne, hq.1.own, hq.1.ownne, fun k hk => hp k (hwi.new k hk), hwi.deadn, hwi.deado⟩
        exact hK _ _ _ ⟨envKill E (fun k => k == l), rfl, hwi', act_put hq.2.1 (Env.le.refl _) (.own _ _ _ _ _ (.emp _ _ _) (.inl ⟨_, _, rfl⟩)) hdst, (hput _).1, (hput _).2, hq.2.2⟩ hN
      | arr _ _ _ _ c _ hA hc hl0 hsz hm =>
        obtain ⟨cs, e', hh', hcs, hns, hbl⟩ := hwi.loc l ((hwi.hA l).1 hA)
        have hBl : B ≤ E.β l := by
          rcases hbl with hb | hb
          · exact hb
          · exfalso
            obtain ⟨l', c', hl'⟩ := hX _ hb
            have h1 := hpa l' _ hl'
            have h3 : E.β l' = E.β l := congrArg Prod.fst h1.2
            have h4 := hwi.locne l' l ((hwi.hA l').1 h1.1) ((hwi.hA l).1 hA) h3
            subst h4
            rw [hpn _ hl2] at hl'
            cases hl'
        obtain ⟨E1, hE1⟩ : ∃ E1 : Env, E1 = { envKill E (fun k => k == l) with ow := fun nw k => if nw = true ∧ k = d then .reg (.slice (some ⟨E.β l, 0, none⟩) 0 c) e else E.ow nw k } := ⟨_, rfl⟩
        have how : ∀ nw k, E1.ow nw k = if nw = true ∧ k = d then .reg (.slice (some ⟨E.β l, 0, none⟩) 0 c) e else E.ow nw k := by subst hE1; intro nw k; rfl
        have hle : (envKill E (fun k => k == l)).le E1 := by
          refine ⟨by subst hE1; exact fun _ _ _ _ h => h, by subst hE1; exact fun _ _ h => h, by subst hE1; exact fun _ h => ⟨h, rfl, rfl⟩, ?_, ?_⟩
          · intro nw k v e1 h1
            have h2 : E.ow nw k = .reg v e1 := h1
            left
            rw [how]
            split
            · rename_i hc; obtain ⟨rfl, rfl⟩ := hc; rw [hnone] at h2; cases h2
            · exact h2
          · intro nw k h1
            have h2 : E.ow nw k = .dead := h1
            rw [how]
            split
            · rename_i hc; obtain ⟨rfl, rfl⟩ := hc; rw [hnone] at h2; cases h2
            · exact h2
        have hb1 : ∀ k, killM l s.m k ≠ [] → E.β k ≠ E.β l := by
          intro k hk he
          have hkl : ¬ (k = l) := by rintro rfl; exact hk (by simp [killM])
          have hk1 : s.m k ≠ [] := by intro h0; exact hk (by simp [killM, hkl, h0])
          exact hkl (hwi.locne k l hk1 ((hwi.hA l).1 hA) he)
        have hwi' : WI P B X w0 S0 E1 { s with t := setT (killT l s.t) d (.own true d e []), m := killM l s.m, p := s.p ||| 2 ^ d } := by
          refine ⟨by subst hE1; exact hq.1.fr, by subst hE1; exact hq.1.hB, by subst hE1; exact hq.1.s0, by subst hE1; exact hq.1.sNew, by subst hE1; exact hq.1.slt, by subst hE1; exact hq.1.hA, ?_, by subst hE1; exact hq.1.locne, ?_, ?_, ?_, ?_, ?_⟩
          · intro k hk
            obtain ⟨cs2, e2, h1, h2, h3, h4⟩ := hq.1.loc k hk
            refine ⟨cs2, e2, ?_, ?_, ?_, ?_⟩
            · subst hE1; exact h1
            · have := h2.mono hle; subst hE1; exact this
            · subst hE1; exact h3
            · subst hE1; exact h4
          · intro nw k v e1 h1
            rw [how] at h1
            split at h1
            · rename_i hc
              cases h1
              refine ⟨⟨_, _, _, _, _, rfl, hBl, by subst hE1; exact hh', ?_, Nat.zero_le _, hm, ?_⟩, fun k' hk' => ?_⟩
              · rw [hcs.1]; omega
              · intro o ho; exact absurd (by subst hE1; exact ho) (hns o)
              · intro h5
                exact hb1 k' hk' (by subst hE1; simp only [Value.ownBlock, Option.some.injEq] at h5; exact h5.symm)
            · obtain ⟨h5, h6⟩ := hq.1.own nw k v e1 h1
              exact ⟨by subst hE1; exact h5, by subst hE1; exact h6⟩
          · intro nw k v e1 nw' k' v' e1' h1 h2 h3
            have hother : ∀ nw k v e1, E.ow nw k = .reg v e1 → v.ownBlock ≠ some (E.β l) := fun nw k v e1 hr => (hwi.own nw k v e1 hr).2 l ((hwi.hA l).1 hA)
            rw [how] at h1 h2
            split at h1 <;> split at h2
            · rename_i hc1 hc2; exact ⟨hc1.1.trans hc2.1.symm, hc1.2.trans hc2.2.symm⟩
            · cases h1; exact absurd h3.symm (hother _ _ _ _ h2)
            · cases h2; exact absurd h3 (hother _ _ _ _ h1)
            · exact hwi.ownne nw k v e1 nw' k' v' e1' h1 h2 h3
          · intro k hk
            rw [how] at hk
            split at hk
            · rename_i hc; obtain ⟨_, rfl⟩ := hc; exact hpd'
            · exact hp k (hwi.new k hk)
          · intro k hk
            rw [how] at hk
            split at hk
            · cases hk
            · exact hwi.deadn k hk
          · intro k hk
            rw [how] at hk
            split at hk
            · cases hk
            · exact hwi.deado k hk
        refine hK _ _ _ ⟨E1, by subst hE1; rfl, hwi', act_put hq.2.1 hle ?_ hdst, (hput _).1, (hput _).2, by subst hE1; exact hq.2.2⟩ hN
        exact .own _ _ _ _ _ (.emp _ _ _) (.inr (.inr (by rw [how]; simp)))
  · -- noughts are appended to nothing
    rename_i c
    obtain ⟨x, y, t1, tn, e, kn, k, q, d, z, hcal, hca, hct, hu, hun, hx, hy, h0, hby, hmx, hd0, hmd, hz, hzl, hz0, hN⟩ := hs
    have hvx := hev x
    rw [hx] at hvx
    have hxv : a.eval x = .slice none 0 0 := by generalize a.eval x = u at hvx; cases hvx; rfl
    have hvy := hev y
    rw [hy] at hvy
    have hyv := vr_int hvy
    obtain ⟨i, zv, hi, hiz, hzs, hz1⟩ := zc_info (n := z.length) (by rw [hz]; rfl)
    have hsize : i.size = P.cellsOf e := cellsOf_size hi
    have hbyt : i.bytes = P.bytesOf e := by simp [Program.bytesOf, hi]
    obtain ⟨zv', hzr, hzc⟩ := run_zeroValue E hz
    have hzv : zv' = zv := by
      simp [zeroValue, typeInfo, hi, hiz] at hzr
      exact hzr.symm
    subst hzv
    have hrun := Lib.run_append_nil_zeros (P := P) E.w t1 tn ty e i zv' k kn hu hun hi hiz q h0 (by omega) (by simp only [maxLen] at hmx; omega) (by rw [hbyt]; omega)
    generalize hZ : Builtin.zeroCells zv'.cells q ++ Builtin.zeroCells zv'.cells (grownCap E.w q 0 e - q) = Z at hrun
    have hZs : Z.size = grownCap E.w q 0 e * P.cellsOf e := by
      rw [← hZ, Array.size_append, zeroCells_size, zeroCells_size, ← Nat.add_mul, hzs, hzl]
      congr 1
      have := grownCap_ge E.w q 0 e
      omega
    obtain ⟨E2, hE2⟩ : ∃ E2 : Env, E2 = { E with w := E.w.drew } := ⟨_, rfl⟩
    have hle2 : E.le E2 := by subst hE2; exact ⟨fun _ _ _ _ h => h, fun _ _ h => h, fun _ h => ⟨h, rfl, rfl⟩, fun _ _ _ _ h => .inl h, fun _ _ h => h⟩
    have hwi2 : WI P B X w0 S0 E2 s := by
      refine ⟨by subst hE2; exact ⟨hwi.fr.os, hwi.fr.tape, hwi.fr.output, hwi.fr.size, hwi.fr.block⟩, by subst hE2; exact hwi.hB, by subst hE2; exact hwi.s0, by subst hE2; exact hwi.sNew, by subst hE2; exact hwi.slt, by subst hE2; exact hwi.hA, ?_, by subst hE2; exact hwi.locne, by subst hE2; exact hwi.own, by subst hE2; exact hwi.ownne, by subst hE2; exact hwi.new, by subst hE2; exact hwi.deadn, by subst hE2; exact hwi.deado⟩
      intro l hl
      obtain ⟨cs2, e2, h1, h2, h3, h4⟩ := hwi.loc l hl
      refine ⟨cs2, e2, ?_, ?_, ?_, ?_⟩
      · subst hE2; exact h1
      · have := h2.mono hle2; subst hE2; exact this
      · subst hE2; exact h3
      · subst hE2; exact h4
    have hblk : BlkR P E2 Z.size Z ((List.replicate q z).flatten) := by
      refine ⟨rfl, ?_, fun j v x hv hx => ?_⟩
      · rw [flatten_rep_len, hZs, hzl]; exact Nat.mul_le_mul_right _ (grownCap_ge E.w q 0 e)
      · have hj : j < q * z.length := by rw [← flatten_rep_len]; exact (List.getElem?_eq_some_iff.1 hx).1
        rw [flatten_rep_get z (by omega) q j hj] at hx
        have hjm : j % z.length < z.length := Nat.mod_lt _ (by omega)
        have hjm' : j % zv'.cells.size < zv'.cells.size := by rw [hzs]; exact hjm
        rw [← hZ, Array.getElem?_append_left (by rw [zeroCells_size, hzs]; exact hj)] at hv
        have hv2 : v = zv'.cells[j % zv'.cells.size]! := by
          have hj' : j < q * zv'.cells.size := by rw [hzs]; exact hj
          simp only [Builtin.zeroCells, Array.getElem?_map, Array.getElem?_range, hj', if_true, Option.map_some, Option.some.injEq] at hv
          exact hv.symm
        rw [getElem!_pos zv'.cells _ hjm'] at hv2
        subst hv2
        have h9 := hzc.2 _ _ x (Array.getElem?_eq_getElem hjm') (by rw [hzs]; exact hx)
        exact ⟨h9.1.mono hle2, h9.2⟩
    have hne : (List.replicate q z).flatten ≠ [] := by
      intro h3
      have := flatten_rep_len z q
      rw [h3] at this
      have h4 : q * z.length ≠ 0 := Nat.mul_ne_zero (by omega) (by omega)
      simp only [List.length_nil] at this
      omega
    obtain ⟨hwi', hle, hv'⟩ := wi_new (e := e) (s' := { s with t := putT s.t dst (.arr d 0 q q e), m := setM s.m d ((List.replicate q z).flatten) }) hwi2 hmd hne hblk rfl rfl rfl rfl
    have hlt := hle2.trans hle
    unfold Oper.wp
    rw [show (execOp a.eval { dst, op := .call c, type := ty, pos, after, guard }).run P E.w = .ok (.value (.slice (some ⟨E.w.heap.size, 0, none⟩) q (grownCap E.w q 0 e))) (E.w.drew.alloc (.cells Z e)) from by
      obtain ⟨cal, cargs, cts⟩ := c
      simp only at hcal hca hct
      subst hcal hca hct
      unfold execOp
      simp only [resolve, invoke, builtin, Sem.run_bind, Sem.run_pure, Result.andThen_ok, List.map_toArray, List.map_cons, List.map_nil, hxv, hyv, hrun]]
    refine hK _ _ _ ⟨envNew E2 (E2.w.alloc (.cells Z e)) d Z.size, by subst hE2; rfl, hwi', act_put hv hlt ?_ hdst, (hput _).1, (hput _).2, fun l b hl => ⟨(hlt.A l (hpa l b hl).1).1, by rw [(hlt.A l (hpa l b hl).1).2.1, (hlt.A l (hpa l b hl).1).2.2]; exact (hpa l b hl).2⟩⟩ hN
    have hA : (envNew E2 (E2.w.alloc (.cells Z e)) d Z.size).A d := .inr rfl
    have h8 := VR.arr (P := P) (E := envNew E2 (E2.w.alloc (.cells Z e)) d Z.size) d 0 q q (grownCap E.w q 0 e) e hA (grownCap_ge E.w q 0 e) (grownCap_ge E.w q 0 e) (by simp [envNew, hZs]) (grownCap_le_maxLen _ _ _ _ hmx)
    simp only [envNew, if_true] at h8
    subst hE2
    exact h8
  · exact hs.elim
end

end Go.Rb
