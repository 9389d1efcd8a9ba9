/-
  What is proved: a function's body does what its state says: branches, blocks, loops with what a round keeps, returns; so a function keeps what is promised of its calls. Conditions: none.
-/
import Derived.Test.YtoihccclnkhmaaaEngS
import Derived.Deep.LoopGhost
set_option linter.unusedVariables false
set_option linter.unusedSimpArgs false
set_option maxRecDepth 4000
namespace Go.Rb

def dstsOps : List Oper → List Nat
  | [] => []
  | o :: l => match o.dst with | some d => d :: dstsOps l | none => dstsOps l

def allocsOps : List Oper → List Nat
  | [] => []
  | o :: l => match o.op, o.dst with
    | .alloc _, some d => d :: allocsOps l
    | .box .., some d => d :: allocsOps l
    | _, _ => allocsOps l

/-- The temporaries that a code writes. -/
def dsts : Code → List Nat
  | .region _ ops _ => dstsOps ops.toList
  | .seq a b => dsts a ++ dsts b
  | .cond _ a b => dsts a ++ dsts b
  | .block _ c => dsts c
  | .loop c => dsts c
  | _ => []

/-- The local blocks that a code makes. -/
def allocs : Code → List Nat
  | .region _ ops _ => allocsOps ops.toList
  | .seq a b => allocs a ++ allocs b
  | .cond _ a b => allocs a ++ allocs b
  | .block _ c => allocs c
  | .loop c => allocs c
  | _ => []

def codeOK (n : Nat) : Code → Bool
  | .region _ ops _ => ops.toList.all (dstOK n)
  | .seq a b => codeOK n a && codeOK n b
  | .cond _ a b => codeOK n a && codeOK n b
  | .block _ c => codeOK n c
  | .loop c => codeOK n c
  | _ => true

def thenA (K : St → Prop) (Q : Exit → St → Prop) : Exit → St → Prop
  | .normal, s => K s
  | e, s => Q e s

def blockA (id : Nat) (Q : Exit → St → Prop) : Exit → St → Prop
  | .exit j, s => if j = id then Q .normal s else Q (.exit j) s
  | e, s => Q e s

/-- Some temporaries are forgotten. -/
def forget (F : List Nat) (t : Nat → AV) : Nat → AV := fun i => if F.contains i then .any else t i

/-- At a region's end some arrays are frozen or forgotten. -/
def finG (P : Program) (Q : Exit → St → Prop) (r : RSt) : Prop := ∃ s', Gh P r.fin s' ∧ Q .normal s'

/-- **What a code does to the state of an activation.** -/
def awp (P : Program) : Code → (Exit → St → Prop) → St → Prop
  | .skip, Q, s => Q .normal s
  | .region _ ops dr, Q, s => ((dr = true → drOK P ops = true) ∧ aops P dr ops (finG P Q) ops.toList s.R) ∨
      (dr = true ∧ ∃ κ F, drK P ops κ = true ∧ (∀ i, F.contains i = true → i ∈ dstsOps ops.toList) ∧ Cl κ (forget F s.t) ∧ aops P dr ops (finG P Q) ops.toList (St.R ⟨forget F s.t, s.m⟩))
  | .seq a b, Q, s => awp P a (thenA (awp P b Q) Q) s
  | .cond c a b, Q, s => ∃ t, evO s.t c = .c (.bool t) ∧ (t = true → awp P a Q s) ∧ (t = false → awp P b Q s)
  | .block id c, Q, s => awp P c (blockA id Q) s
  | .loop c, Q, s => ∃ (I : Nat → St → Prop) (k0 : Nat), I k0 (s.cut (dsts c) (allocs c)) ∧
      ∀ k s', (∀ i, (dsts c).contains i = false → (s.t i).na = true → s'.t i = vk (inM (allocs c)) (s.t i)) → I k s' → awp P c (thenA (fun s'' => ∃ k', k' < k ∧ I k' (s''.cut (dsts c) (allocs c))) Q) s'
  | .exit id, Q, s => Q (.exit id) s
  | .ret, Q, s => Q .ret s
  | _, _, _ => False

theorem aops_mono {P : Program} {dr : Bool} {ops : Array Oper} {K K' : RSt → Prop} (h : ∀ s, K s → K' s) : ∀ (l : List Oper) (s : RSt), aops P dr ops K l s → aops P dr ops K' l s
  | [], s, hk => h s hk
  | _ :: l, _, .inl ⟨s', hs, hk⟩ => .inl ⟨s', hs, aops_mono h l s' hk⟩
  | _ :: l, _, .inr ⟨hd, hw, hk⟩ => .inr ⟨hd, hw, arrT_mono (fun s' _ hn => aops_mono h l s' hn) hk⟩

theorem finG_mono {P : Program} {Q Q' : Exit → St → Prop} (h : ∀ e s, Q e s → Q' e s) (r : RSt) : finG P Q r → finG P Q' r := fun ⟨s', hg, hq⟩ => ⟨s', hg, h _ _ hq⟩

theorem awp_mono {P : Program} : ∀ (c : Code) (Q Q' : Exit → St → Prop) (s : St), (∀ e s, Q e s → Q' e s) → awp P c Q s → awp P c Q' s
  | .skip, Q, Q', s, h, hq => h _ _ hq
  | .region _ ops dr, Q, Q', s, h, .inl hq => .inl ⟨hq.1, aops_mono (finG_mono h) _ _ hq.2⟩
  | .region _ ops dr, Q, Q', s, h, .inr ⟨hd, κ, F, h1, h2, h3, hq⟩ => .inr ⟨hd, κ, F, h1, h2, h3, aops_mono (finG_mono h) _ _ hq⟩
  | .seq a b, Q, Q', s, h, hq => awp_mono a _ _ s (fun e s' hs => by
      cases e <;> first | exact awp_mono b _ _ s' h hs | exact h _ _ hs) hq
  | .cond c a b, Q, Q', s, h, ⟨t, ht, h1, h2⟩ => ⟨t, ht, fun e => awp_mono a _ _ s h (h1 e), fun e => awp_mono b _ _ s h (h2 e)⟩
  | .block id c, Q, Q', s, h, hq => awp_mono c _ _ s (fun e s' hs => by
      cases e with
      | exit j => simp only [blockA] at hs ⊢; split at hs <;> rename_i hj <;> simp only [hj, if_true, if_false] <;> exact h _ _ hs
      | _ => exact h _ _ hs) hq
  | .loop c, Q, Q', s, h, ⟨I, k0, h0, hr⟩ => ⟨I, k0, h0, fun k s' hf hI => awp_mono c _ _ s' (fun e s'' hs => by cases e <;> first | exact hs | exact h _ _ hs) (hr k s' hf hI)⟩
  | .exit id, Q, Q', s, h, hq => h _ _ hq
  | .ret, Q, Q', s, h, hq => h _ _ hq
  | .rangeFunc .., _, _, _, _, hq => hq.elim
  | .scope _, _, _, _, _, hq => hq.elim
  | .label _, _, _, _, _, hq => hq.elim
  | .goto _, _, _, _, _, hq => hq.elim
  | .refuse _, _, _, _, _, hq => hq.elim

/-! ### What a code does not write stays -/

def Sub (L W : List Nat) : Prop := ∀ i, i ∈ L → W.contains i = true

theorem step_frame {P : Program} {dr : Bool} {ops : Array Oper} {s s' : RSt} {o : Oper} (h : AStep P dr ops s o s') (i : Nat) (hi : o.dst ≠ some i) : s'.t i = s.t i := by
  have key : ∀ f : Eff, (s.app o.dst f).t i = s.t i := by
    intro f
    simp only [RSt.app, putT]
    cases hd : o.dst with
    | none => rfl
    | some d =>
      simp only [setT]
      rw [if_neg]
      rintro rfl
      exact hi hd
  rcases h with ⟨_, f, _, rfl⟩ | ⟨_, rfl⟩
  · exact key f
  · exact key _

theorem aops_frame {P : Program} {dr : Bool} {ops : Array Oper} {K : RSt → Prop} {W : List Nat} : ∀ (l : List Oper) (s : RSt), Sub (dstsOps l) W → aops P dr ops K l s →
    aops P dr ops (fun s' => K s' ∧ ∀ i, W.contains i = false → (s.t i).na = true → s'.t i = s.t i) l s
  | [], s, _, h => ⟨h, fun _ _ _ => rfl⟩
  | o :: l, s, hW, h => by
    have hW' : Sub (dstsOps l) W := by
      intro i hi
      apply hW
      unfold dstsOps
      split
      · exact List.mem_cons_of_mem _ hi
      · exact hi
    have hdst : ∀ i, W.contains i = false → o.dst ≠ some i := by
      intro i hi hd
      have := hW i (by unfold dstsOps; rw [hd]; exact List.mem_cons_self)
      rw [hi] at this
      cases this
    rcases h with ⟨s', hs, h⟩ | ⟨hd, hw, h⟩
    · refine .inl ⟨s', hs, aops_mono (fun r hr => ⟨hr.1, fun i hi hna => ?_⟩) l s' (aops_frame l s' hW' h)⟩
      have h1 := step_frame hs i (hdst i hi)
      rw [hr.2 i hi (by rw [h1]; exact hna), h1]
    · refine .inr ⟨hd, hw, arrT_mono (fun s' hf hn => ?_) h⟩
      refine aops_mono (fun r hr => ⟨hr.1, fun i hi hna => ?_⟩) l s' (aops_frame l s' hW' hn)
      have h1 := hf i (hdst i hi) hna
      rw [hr.2 i hi (by rw [h1]; exact hna), h1]

theorem fin_vk {s : RSt} {K : Nat → Bool} (i : Nat) : vk K (s.fin.t i) = vk K (s.t i) := by
  unfold RSt.fin
  split
  · rfl
  · show kill3 K (vw3 (fin3 _ _ _ _)) = _
    rw [vw3_fin3]; rfl

theorem fin_na {s : RSt} {i : Nat} (h : (s.t i).na = true) : (s.fin.t i).na = true := by
  unfold RSt.fin
  split
  · exact h
  · exact na_fin _ _ _ h

theorem finG_frame {P : Program} {Q : Exit → St → Prop} {s : St} {W M : List Nat} {F : List Nat} {r : RSt} (hF : ∀ i, F.contains i = true → W.contains i = true) (h : finG P Q r)
    (hf : ∀ i, W.contains i = false → (forget F s.t i).na = true → r.t i = forget F s.t i) :
    finG P (fun e s' => Q e s' ∧ ∀ i, W.contains i = false → (s.t i).na = true → vk (inM M) (s'.t i) = vk (inM M) (s.t i) ∧ (s'.t i).na = true) r := by
  obtain ⟨s', hg, hq⟩ := h
  refine ⟨s', hg, hq, fun i hi hna => ?_⟩
  have h0 : forget F s.t i = s.t i := by
    unfold forget
    rw [if_neg]
    intro hc
    have := hF i hc
    rw [hi] at this
    cases this
  have h1 : r.t i = s.t i := by rw [hf i hi (by rw [h0]; exact hna), h0]
  have h2 : (r.fin.t i).na = true := fin_na (by rw [h1]; exact hna)
  have h3 := gh_na hg i h2
  rw [h3, fin_vk, h1]
  exact ⟨rfl, h2⟩

theorem awp_frame {P : Program} {W M : List Nat} : ∀ (c : Code) (Q : Exit → St → Prop) (s : St), Sub (dsts c) W → Sub (allocs c) M → awp P c Q s →
    awp P c (fun e s' => Q e s' ∧ ∀ i, W.contains i = false → (s.t i).na = true → vk (inM M) (s'.t i) = vk (inM M) (s.t i) ∧ (s'.t i).na = true) s
  | .skip, Q, s, _, _, h => ⟨h, fun _ _ h => ⟨rfl, h⟩⟩
  | .region _ ops dr, Q, s, hW, _, .inl h => .inl ⟨h.1, aops_mono (fun r hr => finG_frame (F := []) (fun i hi => by simp at hi) hr.1 (fun i hi hna => hr.2 i hi hna)) _ _ (aops_frame _ _ hW h.2)⟩
  | .region _ ops dr, Q, s, hW, _, .inr ⟨hd, κ, F, h1, h2, h3, h⟩ => .inr ⟨hd, κ, F, h1, h2, h3, aops_mono (fun r hr => finG_frame (F := F) (fun i hi => hW i (h2 i hi)) hr.1 (fun i hi hna => hr.2 i hi hna)) _ _ (aops_frame _ _ hW h)⟩
  | .seq a b, Q, s, hW, hM, h => by
    have ha := awp_frame a _ s (fun i hi => hW i (List.mem_append_left _ hi)) (fun i hi => hM i (List.mem_append_left _ hi)) h
    refine awp_mono a _ _ s (fun e s' hs => ?_) ha
    obtain ⟨h1, h2⟩ := hs
    cases e with
    | normal =>
      have hb := awp_frame b _ s' (fun i hi => hW i (List.mem_append_right _ hi)) (fun i hi => hM i (List.mem_append_right _ hi)) h1
      exact awp_mono b _ _ s' (fun e s'' hs => ⟨hs.1, fun i hi hna => ⟨(hs.2 i hi (h2 i hi hna).2).1.trans (h2 i hi hna).1, (hs.2 i hi (h2 i hi hna).2).2⟩⟩) hb
    | _ => exact ⟨h1, h2⟩
  | .cond c a b, Q, s, hW, hM, ⟨t, ht, h1, h2⟩ =>
    ⟨t, ht, fun e => awp_frame a _ s (fun i hi => hW i (List.mem_append_left _ hi)) (fun i hi => hM i (List.mem_append_left _ hi)) (h1 e),
      fun e => awp_frame b _ s (fun i hi => hW i (List.mem_append_right _ hi)) (fun i hi => hM i (List.mem_append_right _ hi)) (h2 e)⟩
  | .block id c, Q, s, hW, hM, h => by
    have hc := awp_frame c _ s hW hM h
    refine awp_mono c _ _ s (fun e s' hs => ?_) hc
    obtain ⟨h1, h2⟩ := hs
    cases e with
    | exit j =>
      simp only [blockA] at h1 ⊢
      split at h1 <;> rename_i hj <;> simp only [hj, if_true, if_false] <;> exact ⟨h1, h2⟩
    | _ => exact ⟨h1, h2⟩
  | .loop c, Q, s, hW, hM, ⟨I, k0, h0, hr⟩ => by
    refine ⟨I, k0, h0, fun k s' hf hI => ?_⟩
    have hc := awp_frame c _ s' hW hM (hr k s' hf hI)
    refine awp_mono c _ _ s' (fun e s'' hs => ?_) hc
    obtain ⟨h1, h2⟩ := hs
    have hsub : SubM (inM (allocs c)) (inM M) := fun l hl => hM l (show l ∈ allocs c by simpa [inM] using hl)
    have hfr : ∀ i, W.contains i = false → (s.t i).na = true → vk (inM M) (s''.t i) = vk (inM M) (s.t i) ∧ (s''.t i).na = true := by
      intro i hi hna
      have : (dsts c).contains i = false := by
        cases hq : (dsts c).contains i with
        | false => rfl
        | true => have := hW i (show i ∈ dsts c by simpa using hq); rw [hi] at this; cases this
      have h3 := hf i this hna
      have h4 : (s'.t i).na = true := by rw [h3]; exact na_vk _ hna
      obtain ⟨h5, h6⟩ := h2 i hi h4
      refine ⟨?_, h6⟩
      rw [h5, h3, vk_vk hsub]
    cases e with
    | normal => exact h1
    | _ => exact ⟨h1, hfr⟩
  | .exit id, Q, s, _, _, h => ⟨h, fun _ _ h => ⟨rfl, h⟩⟩
  | .ret, Q, s, _, _, h => ⟨h, fun _ _ h => ⟨rfl, h⟩⟩
  | .rangeFunc .., _, _, _, _, hq => hq.elim
  | .scope _, _, _, _, _, hq => hq.elim
  | .label _, _, _, _, _, hq => hq.elim
  | .goto _, _, _, _, _, hq => hq.elim
  | .refuse _, _, _, _, _, hq => hq.elim

/-! ### Soundness -/

section
variable {P : Program} {B : Nat} {X : Nat → Prop} {w0 : World} {S0 : Nat → Nat → Prop} {pa : Nat → Option (Nat × Nat)} {n : Nat}

theorem sub_self (L : List Nat) : Sub L L := fun i hi => by simpa using hi

theorem awp_sound (hX : ∀ b, X b → ∃ l c, pa l = some (b, c)) (hpn : ∀ l, 2000 ≤ l → pa l = none) : ∀ (c : Code) (Q : Exit → St → Prop) (s : St) (a : Act) (w : World) (Qc : Exit → Act → World → Prop), codeOK n c = true → (∀ l, l ∈ allocs c → pa l = none) → Rel P B X w0 S0 pa n a w s.R → awp P c Q s →
    (∀ e a' w' s', Rel P B X w0 S0 pa n a' w' s'.R → Q e s' → Qc e a' w') → c.wp P Qc a w
  | .skip, Q, s, a, w, Qc, _, _, hr, h, hq => wp_skip (hq _ _ _ s hr h)
  | .region id ops dr, Q, s, a, w, Qc, hok, _, hr, .inl h, hq => by
    cases dr
    · exact region_sound hX hpn (K := fun st => ∃ s', Gh P st s' ∧ Q .normal s') hok hr h.2 (fun a' w' s' h1 ⟨s2, hg, h2⟩ => hq _ _ _ s2 (gh_sound hX hpn hg h1) h2)
    · exact drawn_sound (K := fun st => ∃ s', Gh P st s' ∧ Q .normal s') (h.1 rfl) (cl_none _) hok hr h.2 (fun a' w' s' h1 ⟨s2, hg, h2⟩ => hq _ _ _ s2 (gh_sound hX hpn hg h1) h2)
  | .region id ops dr, Q, s, a, w, Qc, hok, _, hr, .inr ⟨hd, κ, F, h1, h2, h3, h⟩, hq => by
    subst hd
    have hr' : Rel P B X w0 S0 pa n a w (St.R ⟨forget F s.t, s.m⟩) := by
      obtain ⟨E, he, hwi, hv, hdf, hn, hpa⟩ := hr
      refine ⟨E, he, ⟨hwi.fr, hwi.hB, hwi.s0, hwi.sNew, hwi.slt, hwi.hA, hwi.loc, hwi.locne, hwi.own, hwi.ownne, hwi.new, hwi.deadn, hwi.deado⟩, fun i => ?_, hdf, hn, hpa⟩
      show VR P E _ (if F.contains i = true then AV.any else s.t i)
      split
      · exact .any _
      · exact hv i
    exact drawn_sound (K := fun st => ∃ s', Gh P st s' ∧ Q .normal s') h1 h3 hok hr' h (fun a' w' s' h1 ⟨s2, hg, h2⟩ => hq _ _ _ s2 (gh_sound hX hpn hg h1) h2)
  | .seq x y, Q, s, a, w, Qc, hok, hpa, hr, h, hq => by
    simp only [codeOK, Bool.and_eq_true] at hok
    refine wp_seq (awp_sound hX hpn x _ s a w _ hok.1 (fun l hl => hpa l (List.mem_append_left _ hl)) hr h (fun e a' w' s' h1 h2 => ?_))
    cases e with
    | normal => exact awp_sound hX hpn y Q s' a' w' Qc hok.2 (fun l hl => hpa l (List.mem_append_right _ hl)) h1 h2 hq
    | _ => exact hq _ _ _ s' h1 h2
  | .cond c x y, Q, s, a, w, Qc, hok, hpa, hr, ⟨t, ht, hx, hy⟩, hq => by
    simp only [codeOK, Bool.and_eq_true] at hok
    have hc : a.eval c = .bool t := by
      obtain ⟨E, _, _, hv, _⟩ := hr
      have : VR P E (a.eval c) (evO s.t c) := by
        cases c with
        | tmp i => exact hv i
        | const v => exact vr_cv P E v
        | func f => exact .fn f #[] [] rfl (by simp)
        | global g => exact .any _
      rw [ht] at this
      exact vr_bool this
    exact wp_cond_split hc (fun e => awp_sound hX hpn x Q s a w Qc hok.1 (fun l hl => hpa l (List.mem_append_left _ hl)) hr (hx e) hq)
      (fun e => awp_sound hX hpn y Q s a w Qc hok.2 (fun l hl => hpa l (List.mem_append_right _ hl)) hr (hy e) hq)
  | .block id c, Q, s, a, w, Qc, hok, hpa, hr, h, hq => by
    refine wp_block (awp_sound hX hpn c _ s a w _ hok hpa hr h (fun e a' w' s' h1 h2 => ?_))
    cases e with
    | exit j =>
      simp only [blockA] at h2
      simp only [Exit.inBlock]
      split at h2 <;> rename_i hj <;> simp only [hj, if_true, if_false] <;> exact hq _ _ _ s' h1 h2
    | _ => exact hq _ _ _ s' h1 h2
  | .loop c, Q, s, a, w, Qc, hok, hpa, hr, ⟨I, k0, h0, hround⟩, hq => by
    have hpa' : ∀ l, (allocs c).contains l = true → pa l = none := fun l hl => hpa l (show l ∈ allocs c by simpa using hl)
    refine wp_loop_ghost (fun k a w => ∃ s', Rel P B X w0 S0 pa n a w s'.R ∧ (∀ i, (dsts c).contains i = false → (s.t i).na = true → s'.t i = vk (inM (allocs c)) (s.t i)) ∧ I k s') k0
      ⟨_, rel_cut hr hpa', fun i hi _ => by simp only [St.cut, hi, Bool.false_eq_true, if_false]; rfl, h0⟩ ?_
    rintro k a' w' ⟨s', hr', hf, hI⟩
    have hb := awp_frame c _ s' (sub_self _) (sub_self _) (hround k s' hf hI)
    refine awp_sound hX hpn c _ s' a' w' _ hok hpa hr' hb (fun e a'' w'' s'' h1 h2 => ?_)
    obtain ⟨h2, h3⟩ := h2
    cases e with
    | normal =>
      obtain ⟨k', hk', hI'⟩ := h2
      refine ⟨k', hk', _, rel_cut h1 hpa', fun i hi hna => ?_, hI'⟩
      simp only [St.cut, hi, Bool.false_eq_true, if_false]
      have h4 := hf i hi hna
      show vk (inM (allocs c)) (s''.t i) = _
      rw [(h3 i hi (by rw [h4]; exact na_vk _ hna)).1, h4, vk_vk (fun l hl => hl)]
    | _ => exact hq _ _ _ s'' h1 h2
  | .exit id, Q, s, a, w, Qc, _, _, hr, h, hq => wp_exit (hq _ _ _ s hr h)
  | .ret, Q, s, a, w, Qc, _, _, hr, h, hq => wp_ret (hq _ _ _ s hr h)
  | .rangeFunc .., _, _, _, _, _, _, _, _, h, _ => h.elim
  | .scope _, _, _, _, _, _, _, _, _, h, _ => h.elim
  | .label _, _, _, _, _, _, _, _, _, h, _ => h.elim
  | .goto _, _, _, _, _, _, _, _, _, h, _ => h.elim
  | .refuse _, _, _, _, _, _, _, _, _, h, _ => h.elim
end

/-! ### Functions -/

/-- What comes back: the results. -/
def resA (P : Program) (s : St) : List ResultVar → Option (List AV)
  | [] => some []
  | .tmp t :: r => (resA P s r).map (s.t t :: ·)
  | .cell a ty :: r => match s.t a with
    | .ptr l off => match yload P ty s.m (.ptr l off) with | some x => (resA P s r).map (x :: ·) | none => none
    | _ => none

def packA : List AV → AV
  | [x] => x
  | xs => .tup xs

/-- The knowledge x of a result may be handed back as y; number R is the slice of one's own that goes with it. -/
def WkR (P : Program) (A : Nat → Prop) (R : Nat) (x y : AV) : Prop :=
  ∀ (E : Env) (v : Value), (∀ nw k, E.ow nw k ≠ .dead) → (∀ l, A l → E.A l) → VR P E v x → VR P { E with A := A, ow := fun nw k => if nw = false ∧ k = 0 then E.ow false R else .none } v y

def postA (P : Program) (rs : List ResultVar) (pm : Nat → List AV) (r : AV) (pm' : Nat → List AV) : Exit → St → Prop
  | .normal, s | .ret, s => ∃ xs R, resA P s rs = some xs ∧ WkR P (fun l => pm' l ≠ []) R (packA xs) r ∧ (∀ l, pm l ≠ [] → pm' l ≠ []) ∧ ∀ l, pm' l ≠ [] → s.m l ≠ [] ∧ WkL P (fun l => pm' l ≠ []) (s.m l) (pm' l)
  | _, _ => False

def startA (args : List AV) (pm : Nat → List AV) : St := { t := fun i => args.getD i .und, m := pm }

theorem resA_sound {P : Program} {B : Nat} {X : Nat → Prop} {w0 : World} {S0 : Nat → Nat → Prop} {E : Env} {a : Act} {s : St} (hwi : WI P B X w0 S0 E s.R) (hv : ∀ i, VR P E (a.tmps.getD i undef) (s.t i)) :
    ∀ (rs : List ResultVar) (xs : List AV), resA P s rs = some xs → ∃ vs : List Value, (rs.mapM fun r => match r with | .tmp t => pure (a.tmps.getD t undef) | .cell ad ty => do loadVar ty (← asAddr (a.tmps.getD ad undef)) : Sem (List Value)).run P E.w = .ok vs E.w ∧
      vs.length = xs.length ∧ ∀ (i : Nat) (v : Value) (x : AV), vs[i]? = some v → xs[i]? = some x → VR P E v x
  | [], xs, h => by simp [resA] at h; subst h; exact ⟨[], rfl, rfl, by simp⟩
  | .tmp t :: r, xs, h => by
    simp only [resA, Option.map_eq_some_iff] at h
    obtain ⟨ys, hy, rfl⟩ := h
    obtain ⟨vs, hr, hl, hx⟩ := resA_sound hwi hv r ys hy
    refine ⟨a.tmps.getD t undef :: vs, ?_, by simp [hl], ?_⟩
    · simp only [List.mapM_cons, Sem.run_bind, Sem.run_pure, Result.andThen_ok, hr]
    · intro i v x h1 h2
      cases i with
      | zero => simp only [List.getElem?_cons_zero, Option.some.injEq] at h1 h2; subst h1 h2; exact hv t
      | succ i => exact hx i v x (by simpa using h1) (by simpa using h2)
  | .cell ad ty :: r, xs, h => by
    simp only [resA] at h
    split at h
    · rename_i l off hp
      split at h
      · rename_i y hy
        simp only [Option.map_eq_some_iff] at h
        obtain ⟨ys, hys, rfl⟩ := h
        obtain ⟨vs, hr, hl, hx⟩ := resA_sound hwi hv r ys hys
        have hva := hv ad
        rw [hp] at hva
        obtain ⟨u, hu, huv⟩ := yload_sound hwi.memOK hva hy
        refine ⟨u :: vs, ?_, by simp [hl], ?_⟩
        · generalize hq : a.tmps.getD ad undef = q at *
          cases hva
          simp only [Instr.loadAt, Instr.sureAddr, Sem.run_bind, Sem.run_pure, Result.andThen_ok] at hu
          have ha : (asAddr (.pointer (some ⟨E.β l, off, none⟩))).run P E.w = .ok ⟨E.β l, off, none⟩ E.w := rfl
          simp only [List.mapM_cons, Sem.run_bind, Sem.run_pure, Result.andThen_ok, hq, ha, hu, hr]
        · intro i v x h1 h2
          cases i with
          | zero => simp only [List.getElem?_cons_zero, Option.some.injEq] at h1 h2; subst h1 h2; exact huv
          | succ i => exact hx i v x (by simpa using h1) (by simpa using h2)
      · cases h
    · cases h


theorem pack_sound {P : Program} {E : Env} {vs : List Value} {xs : List AV} (hl : vs.length = xs.length) (hx : ∀ (i : Nat) (v : Value) (x : AV), vs[i]? = some v → xs[i]? = some x → VR P E v x) :
    VR P E (if h : vs.toArray.size = 1 then vs.toArray[0] else .tuple vs.toArray) (packA xs) := by
  match vs, xs, hl with
  | [], [], _ => exact .tup _ _ rfl (by simp)
  | [v], [x], _ => exact hx 0 v x rfl rfl
  | v :: v' :: vs, x :: x' :: xs, hl =>
    have : ¬ ((v :: v' :: vs).toArray.size = 1) := by simp
    rw [dif_neg this]
    exact .tup _ _ (by simpa using hl) fun i v x h1 h2 => hx i v x (by simpa using h1) h2

/-- **A function does what the state of its body says.** -/
theorem fun_of_awp {P : Program} {f : FuncId} {fn : Func} {c : Code} {args : List AV} {pm pm' : Nat → List AV} {r : AV} (hf : P.funcs[f]? = some fn) (hb : fn.body = some c) (hname : (fn.name == "runtime.NumGoroutine") = false)
    (hok : codeOK fn.ntmps c = true) (hn : args.length ≤ fn.ntmps) (hpm : ∀ l, l ∈ allocs c → pm l = []) (hpn : ∀ l, 2000 ≤ l → pm l = []) (h : awp P c (postA P fn.results.toList pm r pm') (startA args pm)) : Fun P f args pm r pm' := by
  refine ⟨⟨fn, c, hf, hb, hname⟩, ?_⟩
  intro E vs how hA hS hsz hvs hloc hne
  refine calls_of_wp hf hb ?_
  refine awp_sound (B := E.w.heap.size) (X := fun b => ∃ l, pm l ≠ [] ∧ E.β l = b) (w0 := E.w) (S0 := E.S) (pa := fun l => match pm l with | [] => none | _ => some (E.β l, E.cp l)) (n := fn.ntmps) ?_ ?_ c _ _ _ _ _ hok ?_ ?_ h ?_
  · rintro b ⟨l, hl, rfl⟩
    refine ⟨l, E.cp l, ?_⟩
    cases hp : pm l with
    | nil => exact absurd hp hl
    | cons x xs => simp
  · intro l hl
    simp [hpn l hl]
  · intro l hl
    simp [hpm l hl]
  · refine ⟨E, rfl, ⟨Fr.refl _ _ _, Nat.le_refl _, fun _ _ h => h, fun _ _ h => .inl h, hS, hA, ?_, hne, ?_, ?_, ?_, ?_, ?_⟩, ?_, rfl, ?_, ?_⟩
    · intro l hl
      obtain ⟨cs, e, hh, hc, hs⟩ := hloc l hl
      exact ⟨cs, e, hh, hc, hs, .inr ⟨l, hl, rfl⟩⟩
    · intro nw k v e hr; rw [how] at hr; cases hr
    · intro nw k v e _ _ _ _ hr; rw [how] at hr; cases hr
    · intro k hk; exact absurd (how _ _) hk
    · intro k hk; rw [how] at hk; cases hk
    · intro k hk; rw [how] at hk; cases hk
    · intro i
      show VR P E ((vs ++ Array.replicate (fn.ntmps - vs.size) undef).getD i undef) (args.getD i .und)
      by_cases hi : i < args.length
      · have h1 : i < vs.size := by omega
        have h2 : (vs ++ Array.replicate (fn.ntmps - vs.size) undef).getD i undef = vs[i] := by
          simp [Array.getD_eq_getD_getElem?, Array.getElem?_append_left h1, Array.getElem?_eq_getElem h1]
        rw [h2]
        have h3 : args.getD i .und = args[i] := by simp [List.getD, List.getElem?_eq_getElem hi]
        rw [h3]
        exact hvs i _ _ (Array.getElem?_eq_getElem h1) (List.getElem?_eq_getElem hi)
      · have h1 : vs.size ≤ i := by omega
        have h2 : (vs ++ Array.replicate (fn.ntmps - vs.size) undef).getD i undef = undef := by
          simp only [Array.getD_eq_getD_getElem?, Array.getElem?_append_right h1, Array.getElem?_replicate]
          split <;> rfl
        rw [h2]
        have h3 : args.getD i .und = .und := by simp [List.getD, List.getElem?_eq_none (by omega : args.length ≤ i)]
        rw [h3]
        exact .und
    · show (vs ++ Array.replicate (fn.ntmps - vs.size) undef).size = fn.ntmps
      simp; omega
    · intro l b hl
      cases hp : pm l with
      | nil => simp [hp] at hl
      | cons x xs => simp [hp] at hl; exact ⟨(hA l).2 (by rw [hp]; simp), hl⟩
  · rintro e a' w' s' ⟨E', rfl, hwi, hv, hd, hn', hpa⟩ hpost
    have main : (∃ xs R, resA P s' fn.results.toList = some xs ∧ WkR P (fun l => pm' l ≠ []) R (packA xs) r ∧ (∀ l, pm l ≠ [] → pm' l ≠ []) ∧ ∀ l, pm' l ≠ [] → s'.m l ≠ [] ∧ WkL P (fun l => pm' l ≠ []) (s'.m l) (pm' l)) →
        a'.defers = [] ∧ ∃ v, (results fn a'.tmps).run P E'.w = .ok v E'.w ∧ ∃ v' E2, Ending.returned v = .returned v' ∧ E2.w = E'.w ∧ (∀ l, pm l ≠ [] → pm' l ≠ [] ∧ E2.β l = E.β l ∧ E2.cp l = E.cp l) ∧ (∀ l, E2.A l ↔ pm' l ≠ []) ∧
          Fr E.w.heap.size (fun b => ∃ l, pm l ≠ [] ∧ E.β l = b) E.w E'.w ∧ (∀ b o, E.S b o → E2.S b o) ∧ (∀ b o, E2.S b o → E.S b o ∨ E.w.heap.size ≤ b) ∧
          (∀ b o, E2.S b o → b < E'.w.heap.size) ∧ VR P E2 v' r ∧
          (∀ l, pm' l ≠ [] → ∃ cs e, E'.w.heap[E2.β l]? = some (.cells cs e (0, 0)) ∧ BlkR P E2 (E2.cp l) cs (pm' l) ∧ (∀ o, ¬ E2.S (E2.β l) o) ∧ (pm l ≠ [] ∨ E.w.heap.size ≤ E2.β l)) ∧
          (∀ l l', pm' l ≠ [] → pm' l' ≠ [] → E2.β l = E2.β l' → l = l') ∧
          (∀ nw k, E2.ow nw k ≠ .dead) ∧ (∀ nw k u ty, E2.ow nw k = .reg u ty → nw = false ∧ k = 0 ∧ OwnBlk P E'.w E2.S E.w.heap.size u ty ∧ ∀ l, pm' l ≠ [] → u.ownBlock ≠ some (E2.β l)) := by
      rintro ⟨xs, R, hres, hwk, hpp, hpm'⟩
      obtain ⟨us, hrun, hl, hx⟩ := resA_sound hwi hv fn.results.toList xs hres
      have hvr := pack_sound hl hx
      have hnd : ∀ nw k, E'.ow nw k ≠ .dead := by
        intro nw k hk
        cases nw
        · have := hwi.deado k hk; simp [St.R] at this
        · have := hwi.deadn k hk; simp [St.R] at this
      have hAe : ∀ l, pm l ≠ [] → E'.A l ∧ (E'.β l, E'.cp l) = (E.β l, E.cp l) := by
        intro l hl
        refine hpa l (E.β l, E.cp l) ?_
        cases hp : pm l with
        | nil => exact absurd hp hl
        | cons x xs => simp [hp]
      have hAn : ∀ l, pm' l ≠ [] → E'.A l := fun l hl => (hwi.hA l).2 (hpm' l hl).1
      refine ⟨hd, (if h : us.toArray.size = 1 then us.toArray[0] else .tuple us.toArray), ?_, _, { w := E'.w, S := E'.S, β := E'.β, ow := fun nw k => if nw = false ∧ k = 0 then E'.ow false R else .none, A := fun l => pm' l ≠ [], cp := E'.cp }, rfl, rfl,
        fun l hl => ⟨hpp l hl, congrArg Prod.fst (hAe l hl).2, congrArg Prod.snd (hAe l hl).2⟩, fun l => Iff.rfl, hwi.fr, hwi.s0, hwi.sNew, hwi.slt, hwk E' _ hnd hAn hvr, ?_, ?_, ?_, ?_⟩
      · have hrun' : (fn.results.mapM fun r => match r with | .tmp t => pure (a'.tmps.getD t undef) | .cell ad ty => do loadVar ty (← asAddr (a'.tmps.getD ad undef)) : Sem (Array Value)).run P E'.w = .ok us.toArray E'.w := by
          rw [Array.mapM_eq_mapM_toList, Sem.run_map, hrun, Result.andThen_ok]
        unfold results
        rw [Sem.run_bind]
        exact (congrArg (fun x => Result.andThen x _) hrun').trans rfl
      · intro l hl
        obtain ⟨h0, hwl⟩ := hpm' l hl
        obtain ⟨h1, h2⟩ := wkL_get hwl
        obtain ⟨cs, e, hh, hc, hs, hb⟩ := hwi.loc l h0
        refine ⟨cs, e, hh, ⟨hc.1, by rw [← h1]; exact hc.2.1, fun i v y hvi hy => ?_⟩, hs, ?_⟩
        · have hi : i < (s'.m l).length := by rw [h1]; exact (List.getElem?_eq_some_iff.1 hy).1
          have h4 := List.getElem?_eq_getElem hi
          refine ⟨VR.mono ?_ (h2 i _ y h4 hy E' v hAn (hc.2.2 i v _ hvi h4).1), (hc.2.2 i v _ hvi h4).2⟩
          exact ⟨fun _ _ _ _ h => h, fun _ _ h => h, fun l hl => ⟨hl, rfl, rfl⟩, (fun _ _ _ _ h => by cases h), (fun _ _ h => by cases h)⟩
        · rcases hb with hb | ⟨k, hk, hkb⟩
          · exact .inr hb
          · have h5 := hAe k hk
            have h6 := hwi.locne k l ((hwi.hA k).1 h5.1) h0 ((congrArg Prod.fst h5.2).trans hkb)
            subst h6
            exact .inl hk
      · intro l l' hl hl' he
        exact hwi.locne l l' (hpm' l hl).1 (hpm' l' hl').1 he
      · intro nw k hk
        simp only at hk
        split at hk
        · exact hnd _ _ hk
        · cases hk
      · intro nw k u ty hr
        simp only at hr
        split at hr
        · rename_i hc
          exact ⟨hc.1, hc.2, (hwi.own _ _ _ _ hr).1, fun l hl => (hwi.own _ _ _ _ hr).2 l (hpm' l hl).1⟩
        · cases hr
    cases e with
    | normal => exact main hpost
    | ret => exact main hpost
    | _ => exact hpost.elim

end Go.Rb
