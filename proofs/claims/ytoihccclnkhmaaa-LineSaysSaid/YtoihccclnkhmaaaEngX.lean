/-
  What is proved: a law's row holds if the law's body answers true on all data of its parameters' types. Conditions: none.
-/
import Derived.Test.YtoihccclnkhmaaaEngW
import Derived.Below
import Derived.OpenShut
import Derived.RowKit
set_option linter.unusedVariables false
set_option linter.unusedSimpArgs false
set_option maxRecDepth 4000
namespace Go.Rb
open Go.ChangeShapes Go.WideShapes Go.Deep Go.RowKit

/-- What is known of an argument. -/
def argA (P : Program) (t : TypeId) (cs : List C) : AV :=
  match isAggT P t with
  | some true => .agg (cs.map .c)
  | _ => match cs with | [c] => .c c | _ => .any

inductive TyL (P : Program) : List TypeId → List (List C) → Prop where
  | nil : TyL P [] []
  | cons {t : TypeId} {ts : List TypeId} {cs : List C} {css : List (List C)} (h : Ty P t cs) (r : TyL P ts css) : TyL P (t :: ts) (cs :: css)

def argsA (P : Program) : List TypeId → List (List C) → List AV
  | t :: ts, cs :: css => argA P t cs :: argsA P ts css
  | _, _ => []

def env0 (W : World) : Env := { w := W, S := fun b _ => b < W.heap.size, β := fun l => l, ow := fun _ _ => .none, A := fun _ => False }

section
variable {H : Type} {enc : TypeId × Value → H} {P : Program} {W : World}

theorem open_arg {t : TypeId} {v : Value} {dd : DataW H} {p : List MemPlace} {d : Nat} {sp : Nat → Bool} {base : Nat} (hd : dataT P d t = true) (h : DataW.Trod enc P W 0 sp true t v dd p) (hv : Value.okWide P W .any base t v)
    (hw : ∀ k ∈ dd.weights P t, k ≤ reachBytes) : ∃ cs, Ty P t cs ∧ VR P (env0 W) v (argA P t cs) := by
  obtain ⟨n, h⟩ := h
  obtain ⟨cs, h1, h2, h3⟩ := trod_ty d n t _ _ hd hw h
  refine ⟨cs, h3, ?_⟩
  have single : v.cells = #[v] → isAggT P t ≠ some true → VR P (env0 W) v (argA P t cs) := by
    intro hc ha
    rw [hc] at h1 h2
    match cs, h1 with
    | [c], _ =>
      have : argA P t [c] = .c c := by unfold argA; split <;> simp_all
      rw [this]
      exact .c _ _ (h2 0 v c rfl rfl)
  cases d with
  | zero => cases hd
  | succ d =>
    unfold dataT at hd
    unfold Value.okWide at hv
    split at hd
    · rename_i hu
      rw [hu] at hv
      simp only [Cell.okWide, Cell.ok, hu] at hv
      refine single ?_ (by simp [isAggT, hu])
      cases v <;> first | rfl | exact hv.elim | (simp only at hv)
    · rename_i k hu
      rw [hu] at hv
      simp only [Cell.okWide, Cell.ok, hu] at hv
      refine single ?_ (by simp [isAggT, hu])
      cases v <;> first | rfl | exact hv.elim | (simp only at hv)
    · rename_i hu
      rw [hu] at hv
      simp only [Cell.okWide, Cell.ok, hu] at hv
      refine single ?_ (by simp [isAggT, hu])
      cases v <;> first | rfl | exact hv.elim | (simp only at hv)
    · rename_i e hu
      rw [hu] at hv
      simp only [Cell.okWide, Cell.ok, hu] at hv
      refine single ?_ (by simp [isAggT, hu])
      cases v <;> first | rfl | exact hv.elim | (simp only at hv)
    · rename_i fs hu
      rw [hu] at hv
      obtain ⟨vs, rfl, _, _⟩ := hv
      have ha : argA P t cs = .agg (cs.map .c) := by simp [argA, isAggT, hu]
      rw [ha]
      have hvs : Value.cells (.agg vs) = vs := rfl
      rw [hvs] at h1 h2
      have each : ∀ (i : Nat) (v : Value), vs[i]? = some v → ∃ c, cs[i]? = some c ∧ Rd P W (fun b _ => b < W.heap.size) v c := by
        intro i v hv
        have hi : i < cs.length := by rw [h1]; simpa using (Array.getElem?_eq_some_iff.1 hv).1
        exact ⟨cs[i], List.getElem?_eq_getElem hi, h2 i v _ (by simpa using hv) (List.getElem?_eq_getElem hi)⟩
      refine .agg _ _ (by simp at h1; simp [h1]) (fun i v hv => ?_) (fun i v x hv hx => ?_)
      · obtain ⟨c, _, hr⟩ := each i v hv
        exact hr.oneCell
      · obtain ⟨c, hc, hr⟩ := each i v hv
        rw [List.getElem?_map, hc] at hx
        simp at hx
        subst hx
        exact .c _ _ hr
    · cases hd

theorem open_all {sp : Nat → Bool} {base : Nat} : ∀ (ts : List TypeId) (vs : List Value) (ds : List (DataW H)) (p : List MemPlace), (∀ t ∈ ts, ∃ d, dataT P d t = true) → DataW.TrodAll enc P W 0 sp true ts vs ds p →
    (∀ (j : Nat) t v, ts[j]? = some t → vs[j]? = some v → Value.okWide P W .any base t v) → (∀ k ∈ DataW.weightsEach P ts ds, k ≤ reachBytes) →
    ∃ css, TyL P ts css ∧ vs.length = (argsA P ts css).length ∧ ∀ (i : Nat) (v : Value) (x : AV), vs[i]? = some v → (argsA P ts css)[i]? = some x → VR P (env0 W) v x
  | [], vs, ds, p, _, h, _, _ => by
    obtain ⟨rfl, rfl, rfl⟩ := trodAll_nil h
    exact ⟨[], .nil, rfl, by simp⟩
  | t :: ts, vs, ds, p, hT, h, hv, hw => by
    match vs, ds, h with
    | v :: vs, dd :: ds, ⟨p1, q1, h1, h2, _⟩ =>
      obtain ⟨d, hd⟩ := hT t List.mem_cons_self
      obtain ⟨cs, g1, g2⟩ := open_arg hd h1 (hv 0 t v rfl rfl) (fun k hk => hw k (by simp only [DataW.weightsEach, List.mem_append]; exact .inl hk))
      obtain ⟨css, k1, k2, k3⟩ := open_all ts vs ds q1 (fun t ht => hT t (List.mem_cons_of_mem _ ht)) h2 (fun j t v ht hvj => hv (j + 1) t v (by simpa using ht) (by simpa using hvj))
        (fun k hk => hw k (by simp only [DataW.weightsEach, List.mem_append]; exact .inr hk))
      refine ⟨cs :: css, .cons g1 k1, by simp [argsA, k2], fun i v x hi hx => ?_⟩
      cases i with
      | zero => simp [argsA] at hi hx; subst hi hx; exact g2
      | succ i => exact k3 i v x (by simpa using hi) (by simpa [argsA] using hx)

/-! ### The arguments read as they did -/

theorem tiles_sum : ∀ (fs : List Field) (o : Nat), tiles P o fs = true → ∀ (j : Nat) f, fs[j]? = some f → f.offset = o + ((fs.take j).map fun f => P.cellsOf f.type).sum
  | [], _, _, j, f, h => by simp at h
  | g :: fs, o, ht, j, f, h => by
    simp only [tiles, Bool.and_eq_true, beq_iff_eq] at ht
    cases j with
    | zero => simp at h; subst h; simp [ht.1]
    | succ j =>
      have := tiles_sum fs _ ht.2 j f (by simpa using h)
      rw [this]
      simp [Nat.add_assoc]

theorem tot_sum : ∀ (fs : List Field), tot P fs = (fs.map fun f => P.cellsOf f.type).sum
  | [] => rfl
  | f :: fs => by simp [tot, tot_sum fs]

theorem kids_data : Kids P (fun t => ∃ d, dataT P d t = true) where
  pointer := by
    rintro t e ⟨d, hd⟩ hu
    cases d with
    | zero => cases hd
    | succ d => unfold dataT at hd; simp [hu] at hd
  slice := by
    rintro t e ⟨d, hd⟩ hu
    cases d with
    | zero => cases hd
    | succ d => unfold dataT at hd; simp [hu] at hd; exact ⟨d, hd.2⟩
  array := by
    rintro t e n ⟨d, hd⟩ hu
    cases d with
    | zero => cases hd
    | succ d => unfold dataT at hd; simp [hu] at hd
  struct := by
    rintro t fs ⟨d, hd⟩ hu
    cases d with
    | zero => cases hd
    | succ d =>
      unfold dataT at hd
      simp only [hu, Bool.and_eq_true, beq_iff_eq, List.all_eq_true] at hd
      refine ⟨fun f hf => ⟨d, hd.2 f hf⟩, by rw [← hd.1.2, tot_sum], fun j f hf => ?_⟩
      have := tiles_sum fs.toList 0 hd.1.1 j f hf
      simpa using this
  map := by
    rintro t k e ⟨d, hd⟩ hu
    cases d with
    | zero => cases hd
    | succ d => unfold dataT at hd; simp [hu] at hd

theorem stay_all {W' : World} (hb : Below W.heap.size W W') {sp : Nat → Bool} : ∀ (ts : List TypeId) (vs : List Value) (ds : List (DataW H)) (p : List MemPlace), (∀ t ∈ ts, ∃ d, dataT P d t = true) →
    DataW.TrodAll enc P W 0 (fun _ => true) true ts vs ds p → (∀ q ∈ p, sp q.block = true) → DataW.TrodAll enc P W' 0 sp true ts vs ds p
  | [], vs, ds, p, _, h, _ => by
    obtain ⟨rfl, rfl, rfl⟩ := trodAll_nil h
    exact rfl
  | t :: ts, vs, ds, p, hT, h, hs => by
    match vs, ds, h with
    | v :: vs, dd :: ds, ⟨p1, q1, ⟨n, h1⟩, h2, he⟩ =>
      subst he
      refine ⟨p1, q1, ⟨n, ?_⟩, stay_all hb ts vs ds q1 (fun t ht => hT t (List.mem_cons_of_mem _ ht)) h2 (fun q hq => hs q (List.mem_append_right _ hq)), rfl⟩
      refine DataW.trod_stays kids_data (fun {t e} ⟨d, hd⟩ hu => ?_) (fun h => by cases h) (hT t List.mem_cons_self) h1 (fun q hq => hb.same (DataW.trod_lt n t _ _ h1 q hq)) (fun q hq => hs q (List.mem_append_left _ hq))
      cases d with
      | zero => cases hd
      | succ d => unfold dataT at hd; simp [hu] at hd; omega

theorem len_all {base : Nat} {sp : Nat → Bool} {held : Bool} : ∀ {ts : List TypeId} {vs : List Value} {ds : List (DataW H)} {p : List MemPlace}, DataW.TrodAll enc P W base sp held ts vs ds p → ds.length = ts.length
  | [], vs, ds, p, h => by
    obtain ⟨_, rfl, _⟩ := trodAll_nil h
    rfl
  | t :: ts, vs, ds, p, h => by
    match vs, ds, h with
    | v :: vs, dd :: ds, ⟨p1, q1, _, h2, _⟩ => simp [len_all h2]

theorem post_of_below {f : Func} {s : ChangeSpec} {apart fresh handsOn again : Bool} {W' : World} {args : Array Value} {v : Value} {ds gs : List (DataW H)} {before : List MemPlace}
    (hW : DataW.Whole enc P f.params.toList s.vars apart W args.toList ds gs before) (hb : Below W.heap.size W W')
    (hres : ∀ (b : Nat) (sp : Nat → Bool) (hd : Bool), DataW.TrodAll enc P W' b sp hd f.resultTypes.toList (v.resultList f.resultTypes.size) (s.fn H (ds ++ gs)).results [])
    (hargs : ∀ sp : Nat → Bool, (∀ p ∈ before, sp p.block = true) → DataW.TrodAll enc P W' 0 sp true f.params.toList args.toList (s.fn H (ds ++ gs)).args before)
    (hvars : ∀ sp : Nat → Bool, (∀ p ∈ before, sp p.block = true) → DataW.TrodVars enc P W' sp s.vars (s.fn H (ds ++ gs)).vars [])
    (hok : ∀ (j : Nat) (t : TypeId) (r : Value), f.resultTypes[j]? = some t → (v.resultList f.resultTypes.size)[j]? = some r → Value.okWide P W' .any 0 t r) :
    s.post enc P f apart fresh handsOn again W args v W' := by
  have hlt := hW.lt
  have hold : ∀ p ∈ before, (fun b => decide (b < W.heap.size)) p.block = true := fun p hp => by simpa using hlt p hp
  refine ⟨ds, gs, before, [], before, [], hW, hres _ _ _, hargs _ hold, hvars _ hold, World.keptBut_mono (fun p hp => ⟨hp, .inr (.inl hp)⟩) (hb.frame (· ∈ before)), fun _ => ?_⟩
  obtain ⟨_, _, _, _, _, hz, hn⟩ := hW
  refine ⟨hok, _, _, ([] ++ before) ++ [], ⟨[] ++ before, [], trodAll_append (hargs _ (fun _ _ => rfl)) (hres _ _ _), hvars _ (fun _ _ => rfl), rfl, ?_, ?_⟩, ?_⟩
  · intro b off hp
    have hp' : MemPlace.cell b off ∈ before := by simpa using hp
    rw [hb.frozen (p := ⟨b, off, none⟩) (hlt _ hp')]
    exact hz b off hp'
  · intro ha
    simpa using hn ha
  · intro p hp _
    simpa using hp

/-- **A law's row: its body answers true on all data of its parameters' types.** -/
theorem said_of_fun {a : Assume} {C : Checked} {os : Os} {f : FuncId} {fn : Func} {s : ChangeSpec} {conds : List PathCond} {apart fresh : Bool} {tb : TypeId}
    (own : ownKnob C.prog.godebug = none) (started : os.Started) (noInit : C.prog.inits.idxOf? f = none) (hfn : C.prog.funcs[f]? = some fn)
    (witness : ∃ (w : World) (tape : Tape) (i : Input), w.os = os ∧ (w.forCall tape i).Shaped C.prog ∧ i.vars = [] ∧ Input.okWide C.prog (w.forCall tape i) .any w.heap.size f i ∧
      s.pre6 enc C.prog fn conds apart (w.forCall tape i).memory i.args ∧ a.holds C.prog (lone (Frame.enter C.prog f i.args .normal) [] (w.forCall tape i)))
    (hT : ∀ t ∈ fn.params.toList, ∃ d, dataT C.prog d t = true) (hvars : s.vars = []) (hspec : ∀ (ds : List (DataW H)), ds.length = fn.params.toList.length → s.fn H ds = { results := [.lit (.bool true)], args := ds })
    (hres : fn.resultTypes = #[tb]) (hub : C.prog.underlying tb = some .bool)
    (hF : ∀ css, TyL C.prog fn.params.toList css → Fun C.prog f (argsA C.prog fn.params.toList css) nomem (.c (.bool true)) nomem) :
    ReturnsInHanded a C os f .any (s.pre6 enc C.prog fn conds apart) (s.post enc C.prog fn apart fresh false false) := by
  refine returnsInHanded_of_change_sized own started noInit hfn witness ?_
  intro W base args ds gs before hval hW _ hz _
  have hW' := hW
  obtain ⟨p, q, hA, hV, rfl, hfz, hnd⟩ := hW
  rw [hvars] at hV
  obtain ⟨rfl, rfl⟩ := trodVars_none hV
  have hlen : ds.length = fn.params.toList.length := len_all hA
  obtain ⟨css, hty, hl, hvr⟩ := open_all fn.params.toList args.toList ds p hT hA (fun j t v ht hv => hval j t v (by simpa using ht) (by simpa using hv)) (fun k hk => by
    have h1 : ∀ (ts : List TypeId) (ds : List (DataW H)) (ts' : List TypeId), ds.length = ts.length → DataW.weightsEach C.prog (ts ++ ts') ds = DataW.weightsEach C.prog ts ds := by
      intro ts
      induction ts with
      | nil => intro ds ts' h; cases ds <;> simp_all [DataW.weightsEach]
      | cons t ts ih =>
        intro ds ts' h
        cases ds with
        | nil => simp at h
        | cons d ds => simp only [List.cons_append, DataW.weightsEach, ih ds ts' (by simpa using h)]
    rw [List.append_nil, h1 _ _ _ hlen] at hz
    simpa using List.all_eq_true.1 hz k hk)
  have hcall := (hF css hty).2 (env0 W) args (fun _ _ => rfl) (fun l => ⟨fun h => h.elim, fun h => (h rfl).elim⟩) (fun b o h => h) (by simpa using hl) (fun i v x hi hx => hvr i v x (by simpa using hi) hx)
    (fun l hl => (hl rfl).elim) (fun l l' hl => (hl rfl).elim)
  refine hcall.mono fun e W' h => ?_
  obtain ⟨v, E', rfl, hE, _, _, hfr, _, _, _, hv, _⟩ := h
  have hb : Below W.heap.size W W' := ⟨hfr.os, hfr.tape, hfr.output, hfr.size, fun k hk => hfr.block k hk (by rintro ⟨l, hl, _⟩; exact hl rfl)⟩
  have := vr_bool hv
  subst this
  refine ⟨_, rfl, post_of_below hW' hb ?_ ?_ ?_ ?_⟩
  · intro b sp hd
    rw [List.append_nil, hspec ds hlen, hres]
    exact trodAll_cons_mk (shut_bool hub _) trodAll_mk0
  · intro sp hs
    rw [List.append_nil, hspec ds hlen]
    simp only [List.append_nil] at hs ⊢
    exact stay_all hb _ _ _ _ hT hA hs
  · intro sp _
    rw [List.append_nil, hspec ds hlen, hvars]
    rfl
  · exact ok_one hres rfl (okWide_bool_mk hub _)
end
end Go.Rb
