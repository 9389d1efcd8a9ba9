/-
  What is proved, part by part: a law's row holds if the law's body answers true on all data of its parameters' types. data of a type are typed data; a law's row holds if what its body comes to is true. tables of types and of functions; what must be shown of each entry. Conditions: none.
-/
import Derived.Test.YtoihccclnkhmaaaKEC
import Derived.Below
import Derived.OpenShut
import Derived.RowKit
set_option linter.unusedVariables false
set_option linter.unusedSimpArgs false
set_option linter.unnecessarySimpa false
set_option maxRecDepth 4000
namespace Go.Rb
open Go.ChangeShapes Go.WideShapes Go.Deep Go.RowKit

/-- What is known of an argument. -/
def argA (P : Program) (t : TypeId) (cs : List C) : AV :=
  match isAggT P t with
  | some true => .agg (cs.map .c)
  | _ => match cs with | [c] => .c c | _ => .any

inductive TyL (P : Program) : List TypeId → List (List C) → Prop where
  | nil : TyL P [] []
  | cons {t : TypeId} {ts : List TypeId} {cs : List C} {css : List (List C)} (h : Ty P t cs) (r : TyL P ts css) : TyL P (t :: ts) (cs :: css)

def argsA (P : Program) : List TypeId → List (List C) → List AV
  | t :: ts, cs :: css => argA P t cs :: argsA P ts css
  | _, _ => []

def env0 (W : World) : Env := { w := W, S := fun b _ => b < W.heap.size, β := fun l => l, ow := fun _ _ => .none, A := fun _ => False }

section
variable {H : Type} {enc : TypeId × Value → H} {P : Program} {W : World}

theorem open_arg {t : TypeId} {v : Value} {dd : DataW H} {p : List MemPlace} {d : Nat} {sp : Nat → Bool} {base : Nat} (hd : dataT P d t = true) (h : DataW.Trod enc P W 0 sp true t v dd p) (hv : Value.okWide P W .any base t v)
    (hw : ∀ k ∈ dd.weights P t, k ≤ reachBytes) : ∃ cs, Ty P t cs ∧ VR P (env0 W) v (argA P t cs) := by
  obtain ⟨n, h⟩ := h
  obtain ⟨cs, h1, h2, h3⟩ := trod_ty d n t _ _ hd hw h
  refine ⟨cs, h3, ?_⟩
  have single : v.cells = #[v] → isAggT P t ≠ some true → VR P (env0 W) v (argA P t cs) := by
    intro hc ha
    rw [hc] at h1 h2
    match cs, h1 with
    | [c], _ =>
      have : argA P t [c] = .c c := by unfold argA; split <;> simp_all
      rw [this]
      exact .c _ _ (h2 0 v c rfl rfl)
  cases d with
  | zero => cases hd
  | succ d =>
    unfold dataT at hd
    unfold Value.okWide at hv
    split at hd
    · rename_i hu
      rw [hu] at hv
      simp only [Cell.okWide, Cell.ok, hu] at hv
      refine single ?_ (by simp [isAggT, hu])
      cases v <;> first | rfl | exact hv.elim | (simp only at hv)
    · rename_i k hu
      rw [hu] at hv
      simp only [Cell.okWide, Cell.ok, hu] at hv
      refine single ?_ (by simp [isAggT, hu])
      cases v <;> first | rfl | exact hv.elim | (simp only at hv)
    · rename_i hu
      rw [hu] at hv
      simp only [Cell.okWide, Cell.ok, hu] at hv
      refine single ?_ (by simp [isAggT, hu])
      cases v <;> first | rfl | exact hv.elim | (simp only at hv)
    · rename_i e hu
      rw [hu] at hv
      simp only [Cell.okWide, Cell.ok, hu] at hv
      refine single ?_ (by simp [isAggT, hu])
      cases v <;> first | rfl | exact hv.elim | (simp only at hv)
    · rename_i fs hu
      rw [hu] at hv
      obtain ⟨vs, rfl, _, _⟩ := hv
      have ha : argA P t cs = .agg (cs.map .c) := by simp [argA, isAggT, hu]
      rw [ha]
      have hvs : Value.cells (.agg vs) = vs := rfl
      rw [hvs] at h1 h2
      have each : ∀ (i : Nat) (v : Value), vs[i]? = some v → ∃ c, cs[i]? = some c ∧ Rd P W (fun b _ => b < W.heap.size) v c := by
        intro i v hv
        have hi : i < cs.length := by rw [h1]; simpa using (Array.getElem?_eq_some_iff.1 hv).1
        exact ⟨cs[i], List.getElem?_eq_getElem hi, h2 i v _ (by simpa using hv) (List.getElem?_eq_getElem hi)⟩
      refine .agg _ _ (by simp at h1; simp [h1]) (fun i v hv => ?_) (fun i v x hv hx => ?_)
      · obtain ⟨c, _, hr⟩ := each i v hv
        exact hr.oneCell
      · obtain ⟨c, hc, hr⟩ := each i v hv
        rw [List.getElem?_map, hc] at hx
        simp at hx
        subst hx
        exact .c _ _ hr
    · cases hd

theorem open_all {sp : Nat → Bool} {base : Nat} : ∀ (ts : List TypeId) (vs : List Value) (ds : List (DataW H)) (p : List MemPlace), (∀ t ∈ ts, ∃ d, dataT P d t = true) → DataW.TrodAll enc P W 0 sp true ts vs ds p →
    (∀ (j : Nat) t v, ts[j]? = some t → vs[j]? = some v → Value.okWide P W .any base t v) → (∀ k ∈ DataW.weightsEach P ts ds, k ≤ reachBytes) →
    ∃ css, TyL P ts css ∧ vs.length = (argsA P ts css).length ∧ ∀ (i : Nat) (v : Value) (x : AV), vs[i]? = some v → (argsA P ts css)[i]? = some x → VR P (env0 W) v x
  | [], vs, ds, p, _, h, _, _ => by
    obtain ⟨rfl, rfl, rfl⟩ := trodAll_nil h
    exact ⟨[], .nil, rfl, by simp⟩
  | t :: ts, vs, ds, p, hT, h, hv, hw => by
    match vs, ds, h with
    | v :: vs, dd :: ds, ⟨p1, q1, h1, h2, _⟩ =>
      obtain ⟨d, hd⟩ := hT t List.mem_cons_self
      obtain ⟨cs, g1, g2⟩ := open_arg hd h1 (hv 0 t v rfl rfl) (fun k hk => hw k (by simp only [DataW.weightsEach, List.mem_append]; exact .inl hk))
      obtain ⟨css, k1, k2, k3⟩ := open_all ts vs ds q1 (fun t ht => hT t (List.mem_cons_of_mem _ ht)) h2 (fun j t v ht hvj => hv (j + 1) t v (by simpa using ht) (by simpa using hvj))
        (fun k hk => hw k (by simp only [DataW.weightsEach, List.mem_append]; exact .inr hk))
      refine ⟨cs :: css, .cons g1 k1, by simp [argsA, k2], fun i v x hi hx => ?_⟩
      cases i with
      | zero => simp [argsA] at hi hx; subst hi hx; exact g2
      | succ i => exact k3 i v x (by simpa using hi) (by simpa [argsA] using hx)

/-! ### The arguments read as they did -/

theorem tiles_sum : ∀ (fs : List Field) (o : Nat), tiles P o fs = true → ∀ (j : Nat) f, fs[j]? = some f → f.offset = o + ((fs.take j).map fun f => P.cellsOf f.type).sum
  | [], _, _, j, f, h => by simp at h
  | g :: fs, o, ht, j, f, h => by
    simp only [tiles, Bool.and_eq_true, beq_iff_eq] at ht
    cases j with
    | zero => simp at h; subst h; simp [ht.1]
    | succ j =>
      have := tiles_sum fs _ ht.2 j f (by simpa using h)
      rw [this]
      simp [Nat.add_assoc]

theorem tot_sum : ∀ (fs : List Field), tot P fs = (fs.map fun f => P.cellsOf f.type).sum
  | [] => rfl
  | f :: fs => by simp [tot, tot_sum fs]

theorem kids_data : Kids P (fun t => ∃ d, dataT P d t = true) where
  pointer := by
    rintro t e ⟨d, hd⟩ hu
    cases d with
    | zero => cases hd
    | succ d => unfold dataT at hd; simp [hu] at hd
  slice := by
    rintro t e ⟨d, hd⟩ hu
    cases d with
    | zero => cases hd
    | succ d => unfold dataT at hd; simp [hu] at hd; exact ⟨d, hd.2⟩
  array := by
    rintro t e n ⟨d, hd⟩ hu
    cases d with
    | zero => cases hd
    | succ d => unfold dataT at hd; simp [hu] at hd
  struct := by
    rintro t fs ⟨d, hd⟩ hu
    cases d with
    | zero => cases hd
    | succ d =>
      unfold dataT at hd
      simp only [hu, Bool.and_eq_true, beq_iff_eq, List.all_eq_true] at hd
      refine ⟨fun f hf => ⟨d, hd.2 f hf⟩, by rw [← hd.1.2, tot_sum], fun j f hf => ?_⟩
      have := tiles_sum fs.toList 0 hd.1.1 j f hf
      simpa using this
  map := by
    rintro t k e ⟨d, hd⟩ hu
    cases d with
    | zero => cases hd
    | succ d => unfold dataT at hd; simp [hu] at hd

theorem stay_all {W' : World} (hb : Below W.heap.size W W') {sp : Nat → Bool} : ∀ (ts : List TypeId) (vs : List Value) (ds : List (DataW H)) (p : List MemPlace), (∀ t ∈ ts, ∃ d, dataT P d t = true) →
    DataW.TrodAll enc P W 0 (fun _ => true) true ts vs ds p → (∀ q ∈ p, sp q.block = true) → DataW.TrodAll enc P W' 0 sp true ts vs ds p
  | [], vs, ds, p, _, h, _ => by
    obtain ⟨rfl, rfl, rfl⟩ := trodAll_nil h
    exact rfl
  | t :: ts, vs, ds, p, hT, h, hs => by
    match vs, ds, h with
    | v :: vs, dd :: ds, ⟨p1, q1, ⟨n, h1⟩, h2, he⟩ =>
      subst he
      refine ⟨p1, q1, ⟨n, ?_⟩, stay_all hb ts vs ds q1 (fun t ht => hT t (List.mem_cons_of_mem _ ht)) h2 (fun q hq => hs q (List.mem_append_right _ hq)), rfl⟩
      refine DataW.trod_stays kids_data (fun {t e} ⟨d, hd⟩ hu => ?_) (fun h => by cases h) (hT t List.mem_cons_self) h1 (fun q hq => hb.same (DataW.trod_lt n t _ _ h1 q hq)) (fun q hq => hs q (List.mem_append_left _ hq))
      cases d with
      | zero => cases hd
      | succ d => unfold dataT at hd; simp [hu] at hd; omega

theorem len_all {base : Nat} {sp : Nat → Bool} {held : Bool} : ∀ {ts : List TypeId} {vs : List Value} {ds : List (DataW H)} {p : List MemPlace}, DataW.TrodAll enc P W base sp held ts vs ds p → ds.length = ts.length
  | [], vs, ds, p, h => by
    obtain ⟨_, rfl, _⟩ := trodAll_nil h
    rfl
  | t :: ts, vs, ds, p, h => by
    match vs, ds, h with
    | v :: vs, dd :: ds, ⟨p1, q1, _, h2, _⟩ => simp [len_all h2]

theorem post_of_below {f : Func} {s : ChangeSpec} {apart fresh handsOn again : Bool} {W' : World} {args : Array Value} {v : Value} {ds gs : List (DataW H)} {before : List MemPlace}
    (hW : DataW.Whole enc P f.params.toList s.vars apart W args.toList ds gs before) (hb : Below W.heap.size W W')
    (hres : ∀ (b : Nat) (sp : Nat → Bool) (hd : Bool), DataW.TrodAll enc P W' b sp hd f.resultTypes.toList (v.resultList f.resultTypes.size) (s.fn H (ds ++ gs)).results [])
    (hargs : ∀ sp : Nat → Bool, (∀ p ∈ before, sp p.block = true) → DataW.TrodAll enc P W' 0 sp true f.params.toList args.toList (s.fn H (ds ++ gs)).args before)
    (hvars : ∀ sp : Nat → Bool, (∀ p ∈ before, sp p.block = true) → DataW.TrodVars enc P W' sp s.vars (s.fn H (ds ++ gs)).vars [])
    (hok : ∀ (j : Nat) (t : TypeId) (r : Value), f.resultTypes[j]? = some t → (v.resultList f.resultTypes.size)[j]? = some r → Value.okWide P W' .any 0 t r) :
    s.post enc P f apart fresh handsOn again W args v W' := by
  have hlt := hW.lt
  have hold : ∀ p ∈ before, (fun b => decide (b < W.heap.size)) p.block = true := fun p hp => by simpa using hlt p hp
  refine ⟨ds, gs, before, [], before, [], hW, hres _ _ _, hargs _ hold, hvars _ hold, World.keptBut_mono (fun p hp => ⟨hp, .inr (.inl hp)⟩) (hb.frame (· ∈ before)), fun _ => ?_⟩
  obtain ⟨_, _, _, _, _, hz, hn⟩ := hW
  refine ⟨hok, _, _, ([] ++ before) ++ [], ⟨[] ++ before, [], trodAll_append (hargs _ (fun _ _ => rfl)) (hres _ _ _), hvars _ (fun _ _ => rfl), rfl, ?_, ?_⟩, ?_⟩
  · intro b off hp
    have hp' : MemPlace.cell b off ∈ before := by simpa using hp
    rw [hb.frozen (p := ⟨b, off, none⟩) (hlt _ hp')]
    exact hz b off hp'
  · intro ha
    simpa using hn ha
  · intro p hp _
    simpa using hp

/-- **A law's row: its body answers true on all data of its parameters' types.** -/
theorem said_of_calls {a : Assume} {C : Checked} {os : Os} {f : FuncId} {fn : Func} {s : ChangeSpec} {conds : List PathCond} {apart fresh : Bool} {tb : TypeId}
    (own : ownKnob C.prog.godebug = none) (started : os.Started) (noInit : C.prog.inits.idxOf? f = none) (hfn : C.prog.funcs[f]? = some fn)
    (witness : ∃ (w : World) (tape : Tape) (i : Input), w.os = os ∧ (w.forCall tape i).Shaped C.prog ∧ i.vars = [] ∧ Input.okWide C.prog (w.forCall tape i) .any w.heap.size f i ∧
      s.pre6 enc C.prog fn conds apart (w.forCall tape i).memory i.args ∧ a.holds C.prog (lone (Frame.enter C.prog f i.args .normal) [] (w.forCall tape i)))
    (hT : ∀ t ∈ fn.params.toList, ∃ d, dataT C.prog d t = true) (hvars : s.vars = []) (hspec : ∀ (ds : List (DataW H)), ds.length = fn.params.toList.length → s.fn H ds = { results := [.lit (.bool true)], args := ds })
    (hres : fn.resultTypes = #[tb]) (hub : C.prog.underlying tb = some .bool)
    (hF : ∀ css, TyL C.prog fn.params.toList css → ∀ (W : World) (vs : Array Value), vs.size = (argsA C.prog fn.params.toList css).length → (∀ (i : Nat) (v : Value) (x : AV), vs[i]? = some v → (argsA C.prog fn.params.toList css)[i]? = some x → VR C.prog (env0 W) v x) →
      Calls C.prog f vs W fun e W' => ∃ v, e = .returned v ∧ v = .bool true ∧ W'.os = W.os ∧ W'.tape = W.tape ∧ W'.output = W.output ∧ W.heap.size ≤ W'.heap.size ∧ ∀ k, k < W.heap.size → W'.heap[k]? = W.heap[k]?) :
    ReturnsInHanded a C os f .any (s.pre6 enc C.prog fn conds apart) (s.post enc C.prog fn apart fresh false false) := by
  refine returnsInHanded_of_change_sized own started noInit hfn witness ?_
  intro W base args ds gs before hval hW _ hz _
  have hW' := hW
  obtain ⟨p, q, hA, hV, rfl, hfz, hnd⟩ := hW
  rw [hvars] at hV
  obtain ⟨rfl, rfl⟩ := trodVars_none hV
  have hlen : ds.length = fn.params.toList.length := len_all hA
  obtain ⟨css, hty, hl, hvr⟩ := open_all fn.params.toList args.toList ds p hT hA (fun j t v ht hv => hval j t v (by simpa using ht) (by simpa using hv)) (fun k hk => by
    have h1 : ∀ (ts : List TypeId) (ds : List (DataW H)) (ts' : List TypeId), ds.length = ts.length → DataW.weightsEach C.prog (ts ++ ts') ds = DataW.weightsEach C.prog ts ds := by
      intro ts
      induction ts with
      | nil => intro ds ts' h; cases ds <;> simp_all [DataW.weightsEach]
      | cons t ts ih =>
        intro ds ts' h
        cases ds with
        | nil => simp at h
        | cons d ds => simp only [List.cons_append, DataW.weightsEach, ih ds ts' (by simpa using h)]
    rw [List.append_nil, h1 _ _ _ hlen] at hz
    simpa using List.all_eq_true.1 hz k hk)
  have hcall := hF css hty W args (by simpa using hl) (fun i v x hi hx => hvr i v x (by simpa using hi) hx)
  refine hcall.mono fun e W' h => ?_
  obtain ⟨v, rfl, rfl, h1, h2, h3, h4, h5⟩ := h
  have hb : Below W.heap.size W W' := ⟨h1, h2, h3, h4, h5⟩
  refine ⟨_, rfl, post_of_below hW' hb ?_ ?_ ?_ ?_⟩
  · intro b sp hd
    rw [List.append_nil, hspec ds hlen, hres]
    exact trodAll_cons_mk (shut_bool hub _) trodAll_mk0
  · intro sp hs
    rw [List.append_nil, hspec ds hlen]
    simp only [List.append_nil] at hs ⊢
    exact stay_all hb _ _ _ _ hT hA hs
  · intro sp _
    rw [List.append_nil, hspec ds hlen, hvars]
    rfl
  · exact ok_one hres rfl (okWide_bool_mk hub _)
end
end Go.Rb
namespace Go.Kx
open Go.Rb

/-! ### Rows, one behind the other -/
def RT.app : RT → RT → RT
  | .one c, r => .cons c r
  | .cons c r, r' => .cons c (r.app r')

def joinR : (r r' : RT) → DenR r → DenR r' → DenR (r.app r')
  | .one _, _, x, y => (x, y)
  | .cons _ r, r', x, y => (Prod.fst x, joinR r r' (Prod.snd x) y)

theorem encR_join : ∀ (r r' : RT) (x : DenR r) (y : DenR r'), encR (r.app r') (joinR r r' x y) = encR r x ++ encR r' y
  | .one c, r', x, y => by simp [RT.app, joinR, encR]
  | .cons c r, r', x, y => by
    show enc c (Prod.fst x) :: encR (r.app r') (joinR r r' (Prod.snd x) y) = _
    rw [encR_join r r']; rfl

mutual
/-- Data are no larger than what fits into memory. -/
def Bd (P : Program) : (c : CT) → Den c → Prop
  | .int k, n => (Lit.int k n).wf = true
  | .bool, _ => True
  | .str, s => List.length s ≤ maxLen
  | .sl e r, xs => List.length xs * P.bytesOf e ≤ reachBytes ∧ ∀ x, x ∈ (show List (DenR r) from xs) → BdR P r x
def BdR (P : Program) : (r : RT) → DenR r → Prop
  | .one c, x => Bd P c x
  | .cons c r, x => Bd P c (Prod.fst x) ∧ BdR P r (Prod.snd x)
end

theorem bdR_join {P : Program} : ∀ (r r' : RT) (x : DenR r) (y : DenR r'), BdR P r x → BdR P r' y → BdR P (r.app r') (joinR r r' x y)
  | .one c, r', x, y, h, h' => ⟨h, h'⟩
  | .cons c r, r', x, y, h, h' => ⟨h.1, bdR_join r r' _ _ h.2 h'⟩

/-- The row of a type. -/
def catRT : List RT → Option RT
  | [] => none
  | [r] => some r
  | r :: rs => (catRT rs).map r.app

def rtP (P : Program) : Nat → TypeId → Option RT
  | 0, _ => none
  | d + 1, t => match P.underlying t with
    | some .bool => if P.cellsOf t = 1 then some (.one .bool) else none
    | some (.int k) => if P.cellsOf t = 1 then some (.one (.int k)) else none
    | some .string => if P.cellsOf t = 1 then some (.one .str) else none
    | some (.slice e) => if P.cellsOf t = 1 then (rtP P d e).map fun r => .one (.sl e r) else none
    | some (.struct fs) => if tiles P 0 fs.toList = true ∧ tot P fs.toList = P.cellsOf t then (fs.toList.mapM fun f => rtP P d f.type).bind catRT else none
    | _ => none

theorem rtP_len {P : Program} {t : TypeId} {cs : List C} {r : RT} {x : DenR r} (h : cs = encR r x) : cs.length = r.size := by rw [h, encR_len]

/-- The fields of a struct. -/
theorem fields_den {P : Program} {d : Nat} (ih : ∀ (t : TypeId) (cs : List C) (r : RT), Ty P t cs → rtP P d t = some r → (∃ x : DenR r, cs = encR r x ∧ BdR P r x) ∧ r.size = P.cellsOf t) : ∀ (fs : List Field) (o : Nat) (cs : List C) (rs : List RT) (r : RT), tiles P o fs = true → o + tot P fs = cs.length →
    (∀ f ∈ fs, Ty P f.type ((cs.drop f.offset).take (P.cellsOf f.type))) → fs.mapM (fun f => rtP P d f.type) = some rs → catRT rs = some r → ∃ x : DenR r, cs.drop o = encR r x ∧ BdR P r x
  | [], o, cs, rs, r, _, _, _, hm, hc => by
    simp at hm; subst hm; cases hc
  | f :: fs, o, cs, rs, r, ht, hl, hf, hm, hc => by
    simp only [tiles, Bool.and_eq_true, beq_iff_eq] at ht
    obtain ⟨ho, ht⟩ := ht
    simp only [tot] at hl
    simp only [List.mapM_cons, Option.bind_eq_bind, Option.bind_eq_some_iff, Option.pure_def, Option.some.injEq] at hm
    obtain ⟨r1, h1, rs', h2, rfl⟩ := hm
    obtain ⟨⟨x1, h3, h4⟩, hs1⟩ := ih _ _ _ (hf f List.mem_cons_self) h1
    rw [ho] at h3
    have hsplit : cs.drop o = ((cs.drop o).take (P.cellsOf f.type)) ++ cs.drop (o + P.cellsOf f.type) := by
      rw [← List.drop_drop, List.take_append_drop]
    cases rs' with
    | nil =>
      have hfs : fs = [] := by
        cases fs with
        | nil => rfl
        | cons g fs =>
          simp only [List.mapM_cons, Option.bind_eq_bind, Option.bind_eq_some_iff, Option.pure_def, Option.some.injEq] at h2
          obtain ⟨_, _, _, _, h⟩ := h2; cases h
      subst hfs
      simp only [catRT, Option.some.injEq] at hc
      subst hc
      refine ⟨x1, ?_, h4⟩
      rw [hsplit, h3, List.drop_of_length_le (by simp [tot] at hl; omega), List.append_nil]
    | cons r2 rs2 =>
      have hc' : (catRT (r2 :: rs2)).map r1.app = some r := hc
      rw [Option.map_eq_some_iff] at hc'
      obtain ⟨r3, h5, rfl⟩ := hc'
      obtain ⟨y, h6, h7⟩ := fields_den ih fs (o + P.cellsOf f.type) cs (r2 :: rs2) r3 ht (by omega) (fun g hg => hf g (List.mem_cons_of_mem _ hg)) h2 h5
      exact ⟨joinR r1 r3 x1 y, by rw [encR_join, hsplit, h3, h6], bdR_join _ _ _ _ h4 h7⟩

theorem catRT_size : ∀ {rs : List RT} {r : RT}, catRT rs = some r → r.size = (rs.map RT.size).sum
  | [], r, h => by cases h
  | [r0], r, h => by simp [catRT] at h; subst h; simp
  | r0 :: r1 :: rs, r, h => by
    have h' : (catRT (r1 :: rs)).map r0.app = some r := h
    rw [Option.map_eq_some_iff] at h'
    obtain ⟨r3, h5, rfl⟩ := h'
    have happ : ∀ a b : RT, (a.app b).size = a.size + b.size := by
      intro a b
      induction a using RT.rec (motive_1 := fun _ => True) with
      | int | bool | str | sl => trivial
      | one c => simp [RT.app, RT.size]; omega
      | cons c r _ ih => simp [RT.app, RT.size, ih]; omega
    rw [happ, catRT_size h5]; simp

theorem ty_den {P : Program} :
    ∀ (d : Nat) (t : TypeId) (cs : List C) (r : RT), Ty P t cs → rtP P d t = some r → (∃ x : DenR r, cs = encR r x ∧ BdR P r x) ∧ r.size = P.cellsOf t
  | 0, t, cs, r, _, hr => by cases hr
  | d + 1, t, cs, r, ht, hr => by
    unfold rtP at hr
    cases ht with
    | bool b h =>
      rw [h] at hr; simp only at hr
      split at hr
      · rename_i h1; cases hr; exact ⟨⟨b, rfl, trivial⟩, h1.symm⟩
      · cases hr
    | int n h hw =>
      rw [h] at hr; simp only at hr
      split at hr
      · rename_i h1; cases hr; exact ⟨⟨n, rfl, hw⟩, h1.symm⟩
      · cases hr
    | str s h hs =>
      rw [h] at hr; simp only at hr
      split at hr
      case isFalse => cases hr
      rename_i h1
      cases hr
      refine ⟨⟨s.data.toList, ?_, ?_⟩, h1.symm⟩
      · show [C.str s] = [C.str ⟨List.toArray s.data.toList⟩]
        rw [barr]
      · show List.length s.data.toList ≤ maxLen
        rw [Array.length_toList]; exact hs
    | @sl _ e rows h hn hrows =>
      rw [h] at hr; simp only at hr
      split at hr
      case isFalse => cases hr
      rename_i hcell
      simp only [Option.map_eq_some_iff] at hr
      obtain ⟨r', h1, rfl⟩ := hr
      have key : ∀ rows : List (List C), (∀ q ∈ rows, Ty P e q) → ∃ ys : List (DenR r'), rows = ys.map (encR r') ∧ ∀ y ∈ ys, BdR P r' y := by
        intro rows
        induction rows with
        | nil => intro _; exact ⟨[], rfl, by simp⟩
        | cons q rows ih =>
          intro hq
          obtain ⟨⟨y, h2, h3⟩, _⟩ := ty_den d e q r' (hq q List.mem_cons_self) h1
          obtain ⟨ys, h4, h5⟩ := ih fun q hq' => hq q (List.mem_cons_of_mem _ hq')
          exact ⟨y :: ys, by simp [h2, h4], fun z hz => by rcases List.mem_cons.1 hz with rfl | hz; exact h3; exact h5 z hz⟩
      obtain ⟨ys, h2, h3⟩ := key rows hrows
      subst h2
      exact ⟨⟨ys, rfl, by simpa using hn, h3⟩, hcell.symm⟩
    | struct cs h hl hf =>
      rw [h] at hr
      simp only at hr
      split at hr
      · rename_i htt
        rw [Option.bind_eq_some_iff] at hr
        obtain ⟨rs, h1, h2⟩ := hr
        obtain ⟨x, h3, h4⟩ := fields_den (fun t cs r => ty_den d t cs r) _ 0 cs rs r htt.1 (by rw [Nat.zero_add, hl]; exact htt.2) hf h1 h2
        refine ⟨⟨x, by simpa using h3, h4⟩, ?_⟩
        rw [← encR_len r x, ← h3, List.drop_zero, hl]
      · cases hr

/-! ### Laws -/
def parOK (P : Program) (t : TypeId) (it : IT) : Bool := match it with
  | .v r ag => (match rtP P 9 t with | some r' => (match RT.dec r' r with | .isTrue _ => true | .isFalse _ => false) | none => false) && ((isAggT P t == some ag) && (ag || Nat.beq r.size 1))
  | .f _ => false

def parsOK (P : Program) : List TypeId → List IT → Bool
  | [], [] => true
  | t :: ts, it :: is => parOK P t it && parsOK P ts is
  | _, _ => false

def BdI (P : Program) : (is : List IT) → PI is → Prop
  | [], _ => True
  | .f _ :: is, x => BdI P is x
  | [.v r _], x => BdR P r x
  | .v r _ :: i1 :: is, x => BdR P r (Prod.fst x) ∧ BdI P (i1 :: is) (Prod.snd x)

theorem arg_den {P : Program} {t : TypeId} {r : RT} {ag : Bool} (h : parOK P t (.v r ag) = true) {cs : List C} (ht : Ty P t cs) : ∃ x : DenR r, BdR P r x ∧ argA P t cs = av3 noH (.ofRow ag (projR r x)) := by
  simp only [parOK, Bool.and_eq_true, beq_iff_eq, Bool.or_eq_true] at h
  obtain ⟨h2, h3, h4⟩ := h
  split at h2
  · rename_i r' hr'
    split at h2
    · rename_i hrr _
      subst hrr
      obtain ⟨⟨x, h5, h6⟩, _⟩ := ty_den 9 t cs r' ht hr'
      refine ⟨x, h6, ?_⟩
      unfold argA
      rw [h3]
      cases ag with
      | true =>
        show AV.agg (cs.map .c) = .agg ((projR r' x).map (av1 noH))
        rw [projR_map, h5]
      | false =>
        have hsz : r'.size = 1 := Nat.eq_of_beq_eq_true (by simpa using h4)
        cases r' with
        | cons c r => simp [RT.size] at hsz; have := r_size_pos r; omega
        | one c => subst h5; rfl
    · cases h2
  · cases h2

theorem args_den {P : Program} : ∀ {ts : List TypeId} {is : List IT} {css : List (List C)}, parsOK P ts is = true → TyL P ts css → ∃ x : PI is, BdI P is x ∧ argsA P ts css = (argsR is x).map (av3 noH)
  | [], [], _, _, .nil => ⟨(), trivial, rfl⟩
  | t :: ts, .v r ag :: is, _, h, .cons hc hr => by
    simp only [parsOK, Bool.and_eq_true] at h
    obtain ⟨x, h2, h3⟩ := arg_den h.1 hc
    obtain ⟨y, h4, h5⟩ := args_den h.2 hr
    cases is with
    | nil =>
      refine ⟨x, h2, ?_⟩
      cases ts with
      | nil => cases hr; simp only [argsA, h3]; rfl
      | cons t ts => simp [parsOK] at h
    | cons i1 is => exact ⟨(x, y), ⟨h2, h4⟩, by simp only [argsA, h3, h5]; rfl⟩
  | t :: ts, .f _ :: is, _, h, _ => by simp [parsOK, parOK] at h
  | [], _ :: _, _, h, _ => by simp [parsOK] at h
  | _ :: _, [], _, h, _ => by simp [parsOK] at h

/-- Data are handed on as they are. -/
theorem asD_self (c : CT) (y : Den c) : asD c (.d c y) = some y := by
  unfold asD
  simp only
  split
  · rfl
  · rename_i h _; exact absurd rfl h

theorem rowI_data {σ : KS} : ∀ (r : RT) (x : DenR r), Rdr.run σ (rowI false r (projR r x)) = some (x, [])
  | .one c, x => by
    obtain ⟨x, rfl⟩ : ∃ x' : Den c, x' = x := ⟨x, rfl⟩
    show Rdr.run σ (cellI false c (.d c x)) = some (x, [])
    simp only [cellI, Bool.false_eq_true, if_false, frz0, Rdr.bind, asD_self, optR, Rdr.run]
  | .cons c r, x => by
    show Rdr.run σ (Rdr.bind (cellI false c (.d c (Prod.fst x))) fun q => Rdr.bind (rowI false r (projR r (Prod.snd x))) fun p => .ret ((q.1, p.1), q.2 ++ p.2)) = _
    have h1 : Rdr.run σ (cellI false c (.d c (Prod.fst x))) = some (Prod.fst x, []) := by
      simp only [cellI, Bool.false_eq_true, if_false, frz0, Rdr.bind, asD_self, optR, Rdr.run]
    rw [Rdr.run_bind, h1, Option.bind_some, Rdr.run_bind, rowI_data r (Prod.snd x)]
    rfl

theorem row_of {ag : Bool} {r : RT} {x : DenR r} (h : (ag || Nat.beq r.size 1) = true) : (RV.ofRow ag (projR r x)).row ag = projR r x := by
  cases ag with
  | true => rfl
  | false =>
    have hsz : r.size = 1 := Nat.eq_of_beq_eq_true (by simpa using h)
    cases r with
    | cons c r => simp [RT.size] at hsz; have := r_size_pos r; omega
    | one c => rfl

theorem insR_data {P : Program} {σ : KS} : ∀ {ts : List TypeId} {is : List IT} (x : PI is), parsOK P ts is = true → Rdr.run σ (insR false is (argsR is x)) = some (x, [])
  | [], [], x, _ => rfl
  | t :: ts, .v r ag :: is, x, h => by
    simp only [parsOK, parOK, Bool.and_eq_true] at h
    have hrow := fun y : DenR r => row_of (x := y) (ag := ag) h.1.2.2
    cases is with
    | nil =>
      obtain ⟨x, rfl⟩ : ∃ x' : DenR r, x' = x := ⟨x, rfl⟩
      show Rdr.run σ (rowI false r ((RV.ofRow ag (projR r x)).row ag)) = _
      rw [hrow]; exact rowI_data r x
    | cons i1 is =>
      show Rdr.run σ (Rdr.bind (rowI false r ((RV.ofRow ag (projR r (Prod.fst x))).row ag)) fun q => Rdr.bind (insR false (i1 :: is) (argsR (i1 :: is) (Prod.snd x))) fun p => .ret ((q.1, p.1), q.2 ++ p.2)) = _
      rw [hrow, Rdr.run_bind, rowI_data, Option.bind_some, Rdr.run_bind, insR_data (ts := ts) _ h.2]
      rfl
  | t :: ts, .f _ :: is, x, h => by simp [parsOK, parOK] at h
  | [], _ :: _, x, h => by simp [parsOK] at h
  | _ :: _, [], x, h => by simp [parsOK] at h

theorem argsR_ok (H : Nat → Hd) : ∀ (is : List IT) (x : PI is), ∀ y ∈ argsR is x, ok3 H y ∧ (∀ E P v, VR P E v (av3 noH y) → VR P E v (av3 H y)) := by
  have one : ∀ (r : RT) (ag : Bool) (x : DenR r), ok3 H (.ofRow ag (projR r x)) ∧ (∀ E P v, VR P E v (av3 noH (.ofRow ag (projR r x))) → VR P E v (av3 H (.ofRow ag (projR r x)))) := by
    intro r ag x
    cases ag with
    | true =>
      refine ⟨fun y hy => by obtain ⟨c, z, rfl⟩ := projR_cell r x y hy; trivial, fun E P v hv => ?_⟩
      replace hv : VR P E v (.agg ((projR r x).map (av1 noH))) := hv
      show VR P E v (.agg ((projR r x).map (av1 H)))
      rw [projR_map] at hv ⊢; exact hv
    | false => cases r with
      | one c => exact ⟨trivial, fun _ _ _ h => h⟩
      | cons c r => exact ⟨trivial, fun _ _ _ h => h⟩
  intro is
  induction is with
  | nil => intro x y hy; cases hy
  | cons it is ih =>
    intro x y hy
    cases it with
    | f id =>
      rcases List.mem_cons.1 (show y ∈ RV.fn id [] :: argsR is x from hy) with rfl | hy
      · exact ⟨(fun c hc => by cases hc), fun _ _ _ h => h⟩
      · exact ih x y hy
    | v r ag =>
      cases is with
      | nil =>
        have : y = .ofRow ag (projR r x) := List.mem_singleton.1 hy
        subst this; exact one r ag x
      | cons i1 is =>
        rcases List.mem_cons.1 (show y ∈ RV.ofRow ag (projR r (Prod.fst x)) :: argsR (i1 :: is) (Prod.snd x) from hy) with rfl | hy
        · exact one r ag _
        · exact ih (Prod.snd x) y hy

/-- **What a law's body comes to is true: so it answers.** -/
theorem law_calls {P : Program} {f : FuncId} {is : List IT} {ts : List TypeId} {F : PI is → Option Bool} (hs : SpecOK P f (mkS false is [⟨.one .bool, false, []⟩] F)) (hp : parsOK P ts is = true) (hF : ∀ x, BdI P is x → F x = some true) :
    ∀ css, TyL P ts css → ∀ (W : World) (vs : Array Value), vs.size = (argsA P ts css).length → (∀ (i : Nat) (v : Value) (x : AV), vs[i]? = some v → (argsA P ts css)[i]? = some x → VR P (env0 W) v x) →
      Calls P f vs W fun e W' => ∃ v, e = .returned v ∧ v = .bool true ∧ W'.os = W.os ∧ W'.tape = W.tape ∧ W'.output = W.output ∧ W.heap.size ≤ W'.heap.size ∧ ∀ k, k < W.heap.size → W'.heap[k]? = W.heap[k]? := by
  intro css hty W vs hl hv
  obtain ⟨x, hb, hx⟩ := args_den hp hty
  rw [hx] at hl hv
  rw [List.length_map] at hl
  let σ : KS := { T := fun _ => .any, H := noH, C := fun _ _ => .any }
  have hr : RelE P W.heap.size (fun _ => False) W (env0 W).S [] (env0 W) (fun _ => undef) σ :=
    ⟨⟨Fr.refl _ _ _, Nat.le_refl _, fun _ _ h => h, fun _ _ h => .inl h, fun _ _ h => h, fun l hl => absurd rfl hl, fun l hl => hl.elim, fun l l' hl => hl.elim, fun _ _ => rfl⟩, fun _ => .any _, fun _ => trivial, fun _ _ => trivial, fun _ => trivial, fun l hl => hl.elim, fun q hq => by cases hq⟩
  have hrun : Rdr.run σ (mkS false is [⟨.one .bool, false, []⟩] F 0 (argsR is x)) = some (.d .bool true, []) := by
    simp only [mkS, Bool.not_false, Bool.true_or, if_true, Rdr.run_bind, insR_data x hp, Option.bind_some, Rdr.run, hF x hb]
    rfl
  have hc := hs.2 W.heap.size (fun _ => False) W (env0 W).S [] (env0 W) σ (fun _ => undef) 0 (argsR is x) _ _ vs hr hrun ⟨hl, fun i v y h2 h3 => by
    obtain ⟨h4, h5⟩ := argsR_ok σ.H is x y (List.mem_of_getElem? h3)
    exact ⟨h5 _ _ _ (hv i v _ h2 (by rw [List.getElem?_map, h3]; rfl)), h4⟩⟩
  refine hc.mono fun e W' h => ?_
  obtain ⟨v, rfl, E', rfl, h2, h3, _⟩ := h
  exact ⟨v, rfl, vr_bool (b := true) h3, h2.w3.fr.os, h2.w3.fr.tape, h2.w3.fr.output, h2.w3.fr.size, fun k hk => h2.w3.fr.block k hk (by simp)⟩
end Go.Kx
namespace Go.Kx
open Go.Rb

def bodyOf (fn : Func) : Code := fn.body.getD .skip
def resOf (fn : Func) : List ResultVar := fn.results.toList

def tabT : List (Nat × TD) → TT
  | [], _ => none
  | (j, d) :: r, i => bif Nat.beq i j then some d else tabT r i

def tabG : List (Nat × GS) → FuncId → Option GS
  | [], _ => none
  | (j, d) :: r, i => bif Nat.beq i j then some d else tabG r i

def tabL : List (Nat × LH) → Nat → LH
  | [], _ => .unroll 0
  | (j, d) :: r, i => bif Nat.beq i j then d else tabL r i

def tabH : List (Nat × List Gh) → Nat → List Gh
  | [], _ => []
  | (j, d) :: r, i => bif Nat.beq i j then d else tabH r i

def GSOK (P : Program) (f : FuncId) : GS → Prop
  | .r s => SpecOK P f s
  | .c c => CSOK P f c

theorem ΓOK_nil {P : Program} : ΓOK P (tabG []) := by
  constructor
  · intro _ _ h; cases h
  · intro _ _ h; cases h
theorem ΓOK_cons {P : Program} {j : Nat} {g : GS} {r : List (Nat × GS)} (h : GSOK P j g) (hr : ΓOK P (tabG r)) : ΓOK P (tabG ((j, g) :: r)) := by
  refine ⟨fun f sp hf => ?_, fun f cs hf => ?_⟩
  · simp only [tabG] at hf
    cases hb : Nat.beq f j with
    | true => rw [hb] at hf; cases Nat.eq_of_beq_eq_true hb; cases hf; exact h
    | false => rw [hb] at hf; exact hr.r f sp hf
  · simp only [tabG] at hf
    cases hb : Nat.beq f j with
    | true => rw [hb] at hf; cases Nat.eq_of_beq_eq_true hb; cases hf; exact h
    | false => rw [hb] at hf; exact hr.c f cs hf

structure OkTD (P : Program) (t : TypeId) (d : TD) : Prop where
  c : P.cellsOf t = d.cells ∧ P.bytesOf t = d.bytes ∧ (P.info? t).isSome = true
  k : match d.k with
    | .int k => P.underlying t = some (.int k)
    | .bool => P.underlying t = some .bool
    | .str => P.underlying t = some .string
    | .sl e => P.underlying t = some (.slice e) ∧ (P.info? e).isSome = true
    | .st fs => ∃ fs', P.underlying t = some (.struct fs') ∧ fs = fs'.toList.map (fun f => (f.offset, P.cellsOf f.type)) ∧ fs'.all (fun f => (P.info? f.type).isSome) = true
    | .other => True
  rt : match d.rt with
    | none => True
    | some r => r.size = d.cells ∧ zc P t = some ((zeros r).map (av1 noH))
  eq : match d.k, d.rt with
    | .st _, some r => intsR (zeros r) ≠ none → EqInts P t d.cells
    | _, _ => True

theorem tok_of {P : Program} {L : List (Nat × TD)} (h : ∀ q ∈ L, OkTD P q.1 q.2) : TOK P (tabT L) := by
  have hL : ∀ t d, tabT L t = some d → OkTD P t d := by
    intro t d
    induction L with
    | nil => intro h; cases h
    | cons q r ih =>
      obtain ⟨j, dd⟩ := q
      intro hq
      simp only [tabT] at hq
      cases hb : Nat.beq t j with
      | true => rw [hb] at hq; cases Nat.eq_of_beq_eq_true hb; cases hq; exact h _ List.mem_cons_self
      | false => rw [hb] at hq; exact ih (fun q hq => h q (List.mem_cons_of_mem _ hq)) hq
  refine ⟨fun t d h => (hL t d h).c, fun t d k h hk => ?_, fun t d h hk => ?_, fun t d h hk => ?_, fun t d e h hk => ?_, fun t d fs h hk => ?_, fun t d r h hk => ?_, fun t d fs r h hk hr hz => ?_⟩
  · have := (hL t d h).k; rw [hk] at this; exact this
  · have := (hL t d h).k; rw [hk] at this; exact this
  · have := (hL t d h).k; rw [hk] at this; exact this
  · have := (hL t d h).k; rw [hk] at this; exact this
  · have := (hL t d h).k; rw [hk] at this; exact this
  · have := (hL t d h).rt; rw [hk] at this; exact this
  · have := (hL t d h).eq; rw [hk, hr] at this; exact this hz

/-! ### Structs of numbers, of which some are structs of numbers -/
def intsF (P : Program) (t : TypeId) : Bool := match P.underlying t with
  | some (.struct fs) => flatInts P 0 fs.toList && !P.stoodInHeld t && (fs.size == P.cellsOf t)
  | _ => false

def flatIntsN (P : Program) : Nat → List Field → Bool
  | _, [] => true
  | i, f :: fs => (f.offset == i) && (f.name != "_") && (match P.underlying f.type with | some (.int .i64) => true | _ => intsF P f.type) && flatIntsN P (i + (match P.underlying f.type with | some (.int .i64) => 1 | _ => P.cellsOf f.type)) fs

def totN (P : Program) : List Field → Nat
  | [] => 0
  | f :: fs => (match P.underlying f.type with | some (.int .i64) => 1 | _ => P.cellsOf f.type) + totN P fs

theorem cons_split {α : Type} [DecidableEq α] (n i : Nat) (xs ys : List α) : decide (xs.drop i = ys.drop i) = (decide ((xs.drop i).take n = (ys.drop i).take n) && decide (xs.drop (i + n) = ys.drop (i + n))) := by
  rw [← Bool.decide_and]
  congr 1
  apply propext
  rw [← List.drop_drop, ← List.drop_drop]
  constructor
  · intro h; rw [h]; exact ⟨rfl, rfl⟩
  · rintro ⟨h1, h2⟩
    rw [← List.take_append_drop n (xs.drop i), ← List.take_append_drop n (ys.drop i), h1, h2]

theorem run_part_ints {P : Program} {w : World} {t : TypeId} {fs : Array Field} (hu : P.underlying t = some (.struct fs)) (hi : (P.info? t).isSome = true) (xs : List Int) (off : Nat) :
    (part t (xs.map (Value.int .i64)).toArray off).run P w = .ok (.agg (((xs.drop off).take (P.cellsOf t)).map (Value.int .i64)).toArray) w := by
  have hsz : (sizeOf t).run P w = .ok (P.cellsOf t) w := by
    obtain ⟨i, hi⟩ := Option.isSome_iff_exists.1 hi
    simp [sizeOf, run_typeInfo w hi, Program.cellsOf, hi]
  simp only [part, isAgg, Sem.run_bind, run_underlying hu, Result.andThen_ok, Sem.run_pure, if_true, hsz]
  congr 2
  apply Array.ext'
  simp only [Array.toList_extract, List.extract_eq_take_drop, List.map_take, List.map_drop]
  congr 1
  omega

theorem run_eqFields_intsN {P : Program} {d : Nat} {w : World} (xs ys : List Int) : ∀ (fs : List Field) (i : Nat), flatIntsN P i fs = true → (fs.all fun f => (P.info? f.type).isSome) = true → i + totN P fs = xs.length → i + totN P fs = ys.length →
    (Op.eqFields (d + 2) (xs.map (Value.int .i64)).toArray (ys.map (Value.int .i64)).toArray fs).run P w = .ok (decide (xs.drop i = ys.drop i)) w
  | [], i, _, _, hx, hy => by
    simp only [totN, Nat.add_zero] at hx hy
    rw [List.drop_of_length_le (by omega), List.drop_of_length_le (by omega)]
    simp [Op.eqFields]
  | f :: fs, i, h, hinfo, hx, hy => by
    simp only [List.all_cons, Bool.and_eq_true] at hinfo
    by_cases hint : P.underlying f.type = some (.int .i64)
    · simp only [flatIntsN, totN, hint, Bool.and_true, Bool.and_eq_true, beq_iff_eq, bne_iff_ne] at h hx hy
      obtain ⟨⟨h1, h2⟩, h4⟩ := h
      have hix : i < xs.length := by omega
      have hiy : i < ys.length := by omega
      have ex : (xs.map (Value.int .i64)).toArray[f.offset]? = some (.int .i64 xs[i]) := by
        rw [h1]; simp [List.getElem?_eq_getElem hix]
      have ey : (ys.map (Value.int .i64)).toArray[f.offset]? = some (.int .i64 ys[i]) := by
        rw [h1]; simp [List.getElem?_eq_getElem hiy]
      have ih := run_eqFields_intsN (P := P) (d := d) (w := w) xs ys fs (i + 1) h4 hinfo.2 (by omega) (by omega)
      rw [List.drop_eq_getElem_cons hix, List.drop_eq_getElem_cons hiy]
      simp only [Op.eqFields, ne_eq, h2, not_false_iff, if_true, Sem.run_bind, run_part_int hint ex, run_part_int hint ey, Result.andThen_ok, run_equalIn_int w (d + 1) f.type .i64 .i64 xs[i] ys[i] hint]
      by_cases he : xs[i] = ys[i]
      · simp only [he, beq_self_eq_true, Bool.not_true, Bool.false_eq_true, if_false, List.cons.injEq, true_and]
        exact ih
      · have hb : (xs[i] == ys[i]) = false := by simpa using he
        simp only [hb, Bool.not_false, if_true, Sem.run_pure, List.cons.injEq, he, false_and, decide_false]
    · have e1 : (match P.underlying f.type with | some (.int .i64) => true | _ => intsF P f.type) = intsF P f.type := by
        split
        · rename_i h; exact absurd h hint
        · rfl
      have e2 : (match P.underlying f.type with | some (.int .i64) => 1 | _ => P.cellsOf f.type) = P.cellsOf f.type := by
        split
        · rename_i h; exact absurd h hint
        · rfl
      simp only [flatIntsN, totN, e1, e2, Bool.and_eq_true, beq_iff_eq, bne_iff_ne] at h hx hy
      obtain ⟨⟨⟨h1, h2⟩, h3⟩, h4⟩ := h
      unfold intsF at h3
      split at h3
      case h_2 => cases h3
      rename_i fs' hu
      simp only [Bool.and_eq_true, Bool.not_eq_true', beq_iff_eq] at h3
      obtain ⟨⟨h5, h6⟩, h7⟩ := h3
      have hfo : P.fieldsOf f.type = fs' := by simp [Program.fieldsOf, hu]
      have ih := run_eqFields_intsN (P := P) (d := d) (w := w) xs ys fs (i + P.cellsOf f.type) h4 hinfo.2 (by omega) (by omega)
      have hin := run_eqFields_ints (P := P) (d := d) (w := w) ((xs.drop i).take (P.cellsOf f.type)) ((ys.drop i).take (P.cellsOf f.type)) fs'.toList 0 h5 (by simp; omega) (by simp; omega)
      rw [List.drop_zero, List.drop_zero] at hin
      have heq : (Op.equalIn (d + 2) f.type (.agg (((xs.drop i).take (P.cellsOf f.type)).map (Value.int .i64)).toArray) (.agg (((ys.drop i).take (P.cellsOf f.type)).map (Value.int .i64)).toArray)).run P w = .ok (decide ((xs.drop i).take (P.cellsOf f.type) = (ys.drop i).take (P.cellsOf f.type))) w := by
        rw [run_equalIn_struct w (d + 1) f.type _ _ (by rw [hfo]; exact hu) h6, hfo]
        exact hin
      rw [cons_split (P.cellsOf f.type) i]
      simp only [Op.eqFields, ne_eq, h2, not_false_iff, if_true, Sem.run_bind, h1, run_part_ints hu hinfo.1, Result.andThen_ok, heq]
      by_cases he : (xs.drop i).take (P.cellsOf f.type) = (ys.drop i).take (P.cellsOf f.type)
      · simp only [he, decide_true, Bool.not_true, Bool.false_eq_true, if_false, Bool.true_and]
        exact ih
      · simp only [he, decide_false, Bool.not_false, if_true, Sem.run_pure, Bool.false_and]

theorem eqInts_nest {P : Program} {T n : Nat} {fs : Array Field} (hu : P.underlying T = some (.struct fs)) (hn : totN P fs.toList = n) (hf : flatIntsN P 0 fs.toList = true) (hi : (fs.toList.all fun f => (P.info? f.type).isSome) = true) (hp : P.stoodInHeld T = false) (hm : P.eqGuardType P.depth T = false) : EqInts P T n := by
  intro op xs ys xo yo w hop hx hy
  have hfo : P.fieldsOf T = fs := by simp [Program.fieldsOf, hu]
  have he : (Op.equalIn 10000 T (.agg (xs.map (Value.int .i64)).toArray) (.agg (ys.map (Value.int .i64)).toArray)).run P w = .ok (decide (xs = ys)) w := by
    rw [run_equalIn_struct w 9999 T _ _ (by rw [hfo]; exact hu) hp, hfo]
    have := run_eqFields_intsN (P := P) (d := 9997) (w := w) xs ys fs.toList 0 hf hi (by omega) (by omega)
    simpa using this
  rcases hop with rfl | rfl
  · simp only [Sem.run_bind, run_eqGuard_agg w _ T xo yo _ _ hm, Result.andThen_ok, run_eql_struct, he, if_true]
  · simp only [Sem.run_bind, run_eqGuard_agg w _ T xo yo _ _ hm, Result.andThen_ok, run_neq_struct, he, reduceCtorEq, if_false]

end Go.Kx
