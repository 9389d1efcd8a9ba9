/-
  What is proved, part by part: what rainbooklaw.DiskKeeps comes to. what a disk keeps: the law's function is always true, in plain words. what a law is handed is no larger than memory. what the rows list of package-level variables is what the library's functions ask. Conditions: none.
-/
import Derived.Test.YtnkegapccacndaaDoorKPA
import Derived.Test.YtnkegapccacndaaDoorKED
import Derived.Test.YtnkegapccacndaaDoorProg
import Derived.KernelRfl
import Derived.Test.YtnkegapccacndaaDoorRows
set_option linter.unusedVariables false
set_option linter.unusedSimpArgs false
set_option linter.unnecessarySimpa false
set_option maxRecDepth 4000
namespace Go.Proofs.Y
open Go.Rb Go.Kx
noncomputable def C_rainbooklaw_DiskKeeps : Code := bodyOf Tryd.f5
noncomputable def G_rainbooklaw_DiskKeeps : FuncId → Option GS := tabG [(15, R_rainbooklaw_filed), (16, I_dkput), (18, R_disk_Sync), (20, R_rainbooklaw_at), (19, R_disk_Crash), (21, R_disk_Recover), (23, R_concatRc), (22, I_equalFuncRc), (9, R_note_Same), (24, R_disk_Same)]
theorem g_rainbooklaw_DiskKeeps : ΓOK Tryd.prog G_rainbooklaw_DiskKeeps := ΓOK_cons (R_rainbooklaw_filed_ok) (ΓOK_cons (I_dkput_ok) (ΓOK_cons (R_disk_Sync_ok) (ΓOK_cons (R_rainbooklaw_at_ok) (ΓOK_cons (R_disk_Crash_ok) (ΓOK_cons (R_disk_Recover_ok) (ΓOK_cons (R_concatRc_ok) (ΓOK_cons (I_equalFuncRc_ok) (ΓOK_cons (R_note_Same_ok) (ΓOK_cons (R_disk_Same_ok) (ΓOK_nil))))))))))
def H_rainbooklaw_DiskKeeps : HT := ⟨tabL [], tabH [(5, [.frz 9]), (9, [.frz 11])]⟩
abbrev is_rainbooklaw_DiskKeeps : List IT := [.v (.one (.sl 24 (.cons (.int .i64) (.cons (.int .i64) (.cons (.int .i64) (.one (.sl 56 (.cons (.int .i64) (.cons (.int .i64) (.one (.int .i64))))))))))) false, .v (.one (.sl 24 (.cons (.int .i64) (.cons (.int .i64) (.cons (.int .i64) (.one (.sl 56 (.cons (.int .i64) (.cons (.int .i64) (.one (.int .i64))))))))))) false, .v (.one (.int .i64)) false]
abbrev os_rainbooklaw_DiskKeeps : List OT := [⟨.one .bool, false, []⟩]
set_option maxRecDepth 100000
noncomputable def F_rainbooklaw_DiskKeeps : List (Int × Int × Int × List (Int × Int × Int)) → List (Int × Int × Int × List (Int × Int × Int)) → Int → Option Bool := fun (a b : List (Int × Int × Int × List (Int × Int × Int))) (c : Int) => bindO F_rainbooklaw_filed fun (y : Bool) => ifB (notB y) (some false) (ifB (in1 a (minI (lenI a) 20)) (loopN maxR (fun (x : Int × List Int × List Int × List (Int × Int × Int × List (Int × Int × Int))) => ifB (ltI x.1 (lenI (takeI a (minI (lenI a) 20)))) (bindO (atI (takeI a (minI (lenI a) 20)) x.1) fun (y : Int × Int × Int × List (Int × Int × Int)) => bindO (F_disk_Put (x.2.1, x.2.2.1) (y.1, y.2.1, y.2.2.1, y.2.2.2)) fun (y_1 : (List Int × List Int) × Int) => ifB (eqI y_1.2 0) (ifB (roomA 48 x.2.2.2 [(y.1, y.2.1, y.2.2.1, y.2.2.2)]) (some (Sum.inl (wadd .i64 x.1 1, y_1.1.1, y_1.1.2, cat x.2.2.2 [(y.1, y.2.1, y.2.2.1, y.2.2.2)]))) none) (some (Sum.inl (wadd .i64 x.1 1, x.2.1, x.2.2.1, x.2.2.2)))) (mapO Sum.inr (bindO (F_disk_Sync (x.2.1, x.2.2.1)) fun (y : (List Int × List Int) × Int) => ifB (neI y.2 0) (some false) (ifB (in1 b (minI (lenI b) 20)) (loopN maxR (fun (x_1 : Int × List Int × List Int × List (Int × Int × Int × List (Int × Int × Int))) => ifB (ltI x_1.1 (lenI (takeI b (minI (lenI b) 20)))) (bindO (atI (takeI b (minI (lenI b) 20)) x_1.1) fun (y : Int × Int × Int × List (Int × Int × Int)) => bindO (F_disk_Put (x_1.2.1, x_1.2.2.1) (y.1, y.2.1, y.2.2.1, y.2.2.2)) fun (y_1 : (List Int × List Int) × Int) => ifB (eqI y_1.2 0) (ifB (roomA 48 x_1.2.2.2 [(y.1, y.2.1, y.2.2.1, y.2.2.2)]) (some (Sum.inl (wadd .i64 x_1.1 1, y_1.1.1, y_1.1.2, cat x_1.2.2.2 [(y.1, y.2.1, y.2.2.1, y.2.2.2)]))) none) (some (Sum.inl (wadd .i64 x_1.1 1, x_1.2.1, x_1.2.2.1, x_1.2.2.2)))) (mapO Sum.inr (bindO (F_rainbooklaw_at c (wadd .i64 (lenI x_1.2.2.1) 1)) fun (y : Int) => bindO (F_disk_Crash (x_1.2.1, x_1.2.2.1) y) fun (y : (List Int × List Int) × Int) => ifB (neI y.2 0) (some false) (bindO (F_disk_Recover (y.1.1, y.1.2)) fun (y : (List Int × List Int) × List (Int × Int × Int × List (Int × Int × Int)) × Int) => ifB (neI y.2.2 0) (some false) (ifB (ltI (lenI y.2.1) (lenI x.2.2.2)) (some false) (ifB (gtI (lenI y.2.1) (wadd .i64 (lenI x.2.2.2) (lenI x_1.2.2.2))) (some false) (bindO (F_concatRc [x.2.2.2, x_1.2.2.2]) fun (y_1 : List (Int × Int × Int × List (Int × Int × Int))) => ifB (in1 y_1 (lenI y.2.1)) (ifB (neI (lenI y.2.1) (lenI (takeI y_1 (lenI y.2.1)))) (some false) (loopN maxR (fun (x : Int) => ifB (ltI x (lenI y.2.1)) (bindO (atI y.2.1 x) fun (y_2 : Int × Int × Int × List (Int × Int × Int)) => bindO (atI (takeI y_1 (lenI y.2.1)) x) fun (y : Int × Int × Int × List (Int × Int × Int)) => bindO (F_note_Same (y_2.1, y_2.2.1, y_2.2.2.1, y_2.2.2.2) (y.1, y.2.1, y.2.2.1, y.2.2.2)) fun (y : Bool) => ifB (notB y) (mapO Sum.inr (some false)) (some (Sum.inl (wadd .i64 x 1)))) (mapO Sum.inr (bindO (F_disk_Recover (y.1.1, y.1.2)) fun (y_2 : (List Int × List Int) × List (Int × Int × Int × List (Int × Int × Int)) × Int) => ifB (eqI y_2.2.2 0) (bindO (F_disk_Same (y_2.1.1, y_2.1.2) (y.1.1, y.1.2)) fun (y_3 : Bool) => ifB y_3 (ifB (neI (lenI y_2.2.1) (lenI y.2.1)) (some false) (loopN maxR (fun (x : Int) => ifB (ltI x (lenI y_2.2.1)) (bindO (atI y_2.2.1 x) fun (y_4 : Int × Int × Int × List (Int × Int × Int)) => bindO (atI y.2.1 x) fun (y : Int × Int × Int × List (Int × Int × Int)) => bindO (F_note_Same (y_4.1, y_4.2.1, y_4.2.2.1, y_4.2.2.2) (y.1, y.2.1, y.2.2.1, y.2.2.2)) fun (y : Bool) => ifB (notB y) (mapO Sum.inr (some false)) (some (Sum.inl (wadd .i64 x 1)))) (mapO Sum.inr (some (eqI (lenI y.1.2) 0)))) 0)) (some false)) (some false)))) 0)) none))))))) (0, y.1.1, y.1.2, [])) none)))) (0, [], [], [])) none)
theorem F_rainbooklaw_DiskKeeps_eq (x : PI is_rainbooklaw_DiskKeeps) : F_rainbooklaw_DiskKeeps (x.1) (x.2.1) (x.2.2) = fnE T G_rainbooklaw_DiskKeeps H_rainbooklaw_DiskKeeps C_rainbooklaw_DiskKeeps (resOf Tryd.f5) is_rainbooklaw_DiskKeeps os_rainbooklaw_DiskKeeps x := by kernel_rfl
noncomputable abbrev R_rainbooklaw_DiskKeeps : GS := mkSpec false is_rainbooklaw_DiskKeeps os_rainbooklaw_DiskKeeps fun x => F_rainbooklaw_DiskKeeps (x.1) (x.2.1) (x.2.2)
theorem R_rainbooklaw_DiskKeeps_ok : GSOK Tryd.prog 5 R_rainbooklaw_DiskKeeps := spec_ok tok g_rainbooklaw_DiskKeeps fmo (Ht := H_rainbooklaw_DiskKeeps) (fn := Tryd.f5) (Tryd.func5) (c := C_rainbooklaw_DiskKeeps) (by kernel_rfl) (by kernel_rfl) (by kernel_rfl) (by decide +kernel) (by decide) F_rainbooklaw_DiskKeeps_eq
end Go.Proofs.Y
namespace Go.Proofs.Y
open Go.Rb Go.Kx
theorem dRecover_text {L M : List Rc} {t : List UInt8} (hL : ∀ r ∈ L, chkRec r = 0) (hM : ∀ r ∈ M, chkRec r = 0) (ht : ∀ x ∈ t, x ≠ 10) (hn : L.length + M.length ≤ 60) (hl : (textL L).length + (textL M ++ t).length ≤ 60000) : dRecover (textL L, textL M ++ t) = ((textL (L ++ M), []), L ++ M, 0) := by
  have hc := dCheck_text (w := textL M ++ t) hL (by omega) hl
  have h1 := lnP_whole (most := 60) hL (by omega)
  have h2 := lnP_text (most := 60 - (L.length : Int)) (t := t) hM (by omega) ht
  unfold dRecover dMore
  rw [if_pos hc]
  simp only [h1, h2, Int.toNat_natCast, List.take_left, textL_app]
theorem dPut_text {aa bb : List Rc} {c : Rc} (hA : ∀ r ∈ aa, chkRec r = 0) (hn : aa.length ≤ 60) (hl : (textL aa).length + (textL bb).length ≤ 60000) :
    ¬ (dPut (textL aa, textL bb) c).2 = 0 ∨ (dPut (textL aa, textL bb) c = ((textL aa, textL (bb ++ [c])), 0) ∧ chkRec c = 0 ∧ (textL aa).length + (textL (bb ++ [c])).length ≤ 60000) := by
  have hc := dCheck_text (w := textL bb) hA hn hl
  unfold dPut
  rw [if_pos hc]
  by_cases h : chkRec c = 0
  · rw [if_pos h]
    split
    · exact .inl (by simp)
    · rename_i h2
      refine .inr ⟨by rw [textL_app]; simp [textL], h, ?_⟩
      have e : (textL [c]).length = (textR c).length + 1 := by simp [textL, lineT]
      rw [textL_app, List.length_append, e]
      simp only at h2
      omega
  · rw [if_neg h]; exact .inl h
theorem equalF_gen (p q : List Rc) (K : Option Bool) (hpq : p = q) (hs : ∀ r ∈ p, r.2.2.2.length < 4611686018427387904) (hl : p.length < 4611686018427387904) :
    loopN maxR (fun (x : Int) => ifB (ltI x (lenI p)) (bindO (atI p x) fun (y_2 : Int × Int × Int × List (Int × Int × Int)) => bindO (atI q x) fun (y : Int × Int × Int × List (Int × Int × Int)) =>
      bindO (F_note_Same (Prod.fst y_2, Prod.fst (Prod.snd y_2), Prod.fst (Prod.snd (Prod.snd y_2)), Prod.snd (Prod.snd (Prod.snd y_2))) (Prod.fst y, Prod.fst (Prod.snd y), Prod.fst (Prod.snd (Prod.snd y)), Prod.snd (Prod.snd (Prod.snd y))))
        fun (y : Bool) => ifB (notB y) (mapO Sum.inr (some false)) (some (Sum.inl (wadd IntKind.i64 x 1)))) (mapO Sum.inr K)) 0 = K := by
  subst hpq
  refine loop_range p (fun j (_ : Unit) => (j : Int)) (G := fun _ _ => K) (P := fun _ _ => True) (s0 := ()) ?_ ?_ trivial (by omega)
  · rintro j _ hj _ k hk
    have hat := atI_nat hj
    have hm : p.getD j default ∈ p := by simp [List.getD, List.getElem?_eq_getElem hj]
    have hr := hs _ hm
    generalize p.getD j default = r at *
    have e : F_note_Same (Prod.fst r, Prod.fst (Prod.snd r), Prod.fst (Prod.snd (Prod.snd r)), Prod.snd (Prod.snd (Prod.snd r))) (Prod.fst r, Prod.fst (Prod.snd r), Prod.fst (Prod.snd (Prod.snd r)), Prod.snd (Prod.snd (Prod.snd r))) = some (decide (r = r)) := same_eq r r hr
    rw [stepK_ifB, ifB_ltI, lenI_eq, if_pos (by omega), hat, bindO_some, bindO_some, e, bindO_some]
    simp only [decide_true]
    rw [stepK_ifB, ifB_not, ifB_t, stepK_inl, wadd_nat (by omega), hk () trivial]
  · rintro _ _ k
    rw [stepK_ifB, stepK_map, ifB_ltI, lenI_eq, if_neg (by omega)]
theorem concatRc_eq (a b : List Rc) (h : a.length + b.length ≤ 60) : F_concatRc [a, b] = some (a ++ b) := by
  unfold F_concatRc
  rw [← flatten2]
  refine concat_gen 48 (0, 0, 0, []) [a, b] (by simp) (by omega) ?_ (by omega)
  rw [flatten2, List.length_append]; omega
theorem small_rec {r : Rc} (h : chkRec r = 0) : r.2.2.2.length < 4611686018427387904 := by
  obtain ⟨k1, k2, k3, k4⟩ := chkRec_kind h
  by_cases hk : r.1 = 1
  · have := (k3 hk).2.2.1; omega
  · rw [(k4 hk).1]; decide
theorem diskKeeps_eq (a b : List Rc) (c : Int) (ha : a.length < 4611686018427387904) (hb : b.length < 4611686018427387904) (hra : ∀ r ∈ a, r.2.2.2.length < 4611686018427387904) (hrb : ∀ r ∈ b, r.2.2.2.length < 4611686018427387904) : F_rainbooklaw_DiskKeeps a b c = some true := by
  unfold F_rainbooklaw_DiskKeeps
  have hma : minI (lenI a) 20 = ((min a.length 20 : Nat) : Int) := by unfold minI; rw [lenI_eq]; omega
  have hmb : minI (lenI b) 20 = ((min b.length 20 : Nat) : Int) := by unfold minI; rw [lenI_eq]; omega
  rw [filed_eq, bindO_some, hma, hmb, ifB_not, ifB_t, ifB_in1, if_pos ⟨by omega, by omega⟩]
  simp only [takeI_eq, Int.toNat_natCast]
  have hla : (a.take (min a.length 20)).length ≤ 20 := by rw [List.length_take]; omega
  have hlb : (b.take (min b.length 20)).length ≤ 20 := by rw [List.length_take]; omega
  have hta : ∀ r ∈ a.take (min a.length 20), r.2.2.2.length < 4611686018427387904 := fun r hr => hra r (List.mem_of_mem_take hr)
  have htb : ∀ r ∈ b.take (min b.length 20), r.2.2.2.length < 4611686018427387904 := fun r hr => hrb r (List.mem_of_mem_take hr)
  generalize a.take (min a.length 20) = la at *
  generalize b.take (min b.length 20) = lb at *
  refine loop_range la (fun j (s : List Int × List Int × List Rc) => ((j : Int), s.1, s.2.1, s.2.2)) (G := fun _ _ => some true)
    (P := fun j s => ∃ aa : List Rc, s = ([], bytB (textL aa), aa) ∧ aa.length ≤ j ∧ (∀ r ∈ aa, chkRec r = 0) ∧ (textL aa).length ≤ 60000) (s0 := ([], [], [])) ?_ ?_ ⟨[], rfl, by simp, by simp, by simp [textL]⟩ (by omega)
  · rintro j s hj ⟨aa, rfl, h1, h2, h3⟩ k hk
    have hat := atI_nat hj
    have hm : la.getD j default ∈ la := by simp [List.getD, List.getElem?_eq_getElem hj]
    have hr := hta _ hm
    generalize la.getD j default = r at *
    have hp : F_disk_Put ([], bytB (textL aa)) (Prod.fst r, Prod.fst (Prod.snd r), Prod.fst (Prod.snd (Prod.snd r)), Prod.snd (Prod.snd (Prod.snd r))) = some (bD (dPut ([], textL aa) r).1, (dPut ([], textL aa) r).2) := dPut_eq ([], textL aa) r (by simp) (by simp only; omega) hr
    simp only [stepK_ifB, stepK_map, stepK_bind, stepK_inl, stepK_none]
    rw [ifB_ltI, lenI_eq, if_pos (by omega), hat, bindO_some, hp, bindO_some, ifB_eqI]
    rcases dPut_text (aa := []) (bb := aa) (c := r) (by simp) (by simp) (by simpa [textL] using h3) with h4 | ⟨h4, h5, h6⟩
    · rw [if_neg (by exact h4), wadd_nat (by omega)]
      exact hk ([], bytB (textL aa), aa) ⟨aa, rfl, by omega, h2, h3⟩
    · have h4' : dPut ([], textL aa) r = (([], textL (aa ++ [r])), 0) := h4
      simp only [h4']
      rw [if_pos trivial, ifB_roomA, if_pos (by simp; omega), wadd_nat (by omega)]
      exact hk ([], bytB (textL (aa ++ [r])), aa ++ [r]) ⟨aa ++ [r], rfl, by simp; omega, fun q hq => by
        rcases List.mem_append.1 hq with hq | hq
        · exact h2 q hq
        · rw [List.mem_singleton.1 hq]; exact h5, by simpa [textL] using h6⟩
  · rintro s ⟨aa, rfl, h1, h2, h3⟩ k
    simp only [stepK_ifB, stepK_map]
    rw [ifB_ltI, lenI_eq, if_neg (by omega)]
    have hsy : dSync ([], textL aa) = ((textL aa, []), 0) := by
      unfold dSync
      have c1 : dCheck (([] : List UInt8), textL aa) = 0 := dCheck_text (a := []) (w := textL aa) (by simp) (by simp) (by simpa [textL] using h3)
      have c2 : dCheck (textL aa, ([] : List UInt8)) = 0 := dCheck_text h2 (by omega) (by simpa using h3)
      rw [if_pos c1]
      simp only [List.nil_append]
      rw [if_pos c2]
    have hS : F_disk_Sync ([], bytB (textL aa)) = some (bD (dSync ([], textL aa)).1, (dSync ([], textL aa)).2) := dSync_eq ([], textL aa) (by simp) (by simp only; omega)
    simp only [hS, hsy, bindO_some]
    rw [ifB_neI, if_pos rfl, ifB_in1, if_pos ⟨by omega, by omega⟩]
    refine loop_range lb (fun j (s : List Int × List Int × List Rc) => ((j : Int), s.1, s.2.1, s.2.2)) (G := fun _ _ => some true)
      (P := fun j s => ∃ bb : List Rc, s = (bytB (textL aa), bytB (textL bb), bb) ∧ bb.length ≤ j ∧ (∀ r ∈ bb, chkRec r = 0) ∧ (textL aa).length + (textL bb).length ≤ 60000) (s0 := (bytB (textL aa), [], [])) ?_ ?_ ⟨[], rfl, by simp, by simp, by simpa [textL] using h3⟩ (by omega)
    · rintro j s hj ⟨bb, rfl, g1, g2, g3⟩ k hk
      have hat := atI_nat hj
      have hm : lb.getD j default ∈ lb := by simp [List.getD, List.getElem?_eq_getElem hj]
      have hr := htb _ hm
      generalize lb.getD j default = r at *
      have hp : F_disk_Put (bytB (textL aa), bytB (textL bb)) (Prod.fst r, Prod.fst (Prod.snd r), Prod.fst (Prod.snd (Prod.snd r)), Prod.snd (Prod.snd (Prod.snd r))) = some (bD (dPut (textL aa, textL bb) r).1, (dPut (textL aa, textL bb) r).2) := dPut_eq (textL aa, textL bb) r (by simp only; omega) (by simp only; omega) hr
      simp only [stepK_ifB, stepK_map, stepK_bind, stepK_inl, stepK_none]
      rw [ifB_ltI, lenI_eq, if_pos (by omega), hat, bindO_some, hp, bindO_some, ifB_eqI]
      rcases dPut_text (aa := aa) (bb := bb) (c := r) h2 (by omega) g3 with h4 | ⟨h4, h5, h6⟩
      · rw [if_neg (by exact h4), wadd_nat (by omega)]
        exact hk (bytB (textL aa), bytB (textL bb), bb) ⟨bb, rfl, by omega, g2, g3⟩
      · simp only [h4]
        rw [if_pos trivial, ifB_roomA, if_pos (by simp; omega), wadd_nat (by omega)]
        exact hk (bytB (textL aa), bytB (textL (bb ++ [r])), bb ++ [r]) ⟨bb ++ [r], rfl, by simp; omega, fun q hq => by
          rcases List.mem_append.1 hq with hq | hq
          · exact g2 q hq
          · rw [List.mem_singleton.1 hq]; exact h5, h6⟩
    · rintro s ⟨bb, rfl, g1, g2, g3⟩ k
      simp only [stepK_ifB, stepK_map]
      rw [ifB_ltI, lenI_eq, if_neg (by omega), lenI_eq, bytB_lenN, wadd_in ⟨by omega, by omega⟩]
      obtain ⟨n, hn, n1, n2⟩ := at_eq c ((textL bb).length + 1) (by omega) (by omega)
      rw [hn, bindO_some]
      have hck : dCheck (textL aa, textL bb) = 0 := dCheck_text h2 (by omega) g3
      have hcr : dCrash (textL aa, textL bb) n = ((textL aa, (textL bb).take n.toNat), 0) := by
        unfold dCrash
        rw [if_pos hck, if_neg (by simp only; omega)]
      rw [show F_disk_Crash (bytB (textL aa), bytB (textL bb)) n = _ from dCrash_eq (textL aa, textL bb) n (by simp only; omega) (by simp only; omega), hcr, bindO_some]
      obtain ⟨j, t, j1, j2, j3⟩ := take_text bb n.toNat g2
      have g2' : ∀ r ∈ bb.take j, chkRec r = 0 := fun r hr => g2 r (List.mem_of_mem_take hr)
      have hle : ((textL bb).take n.toNat).length ≤ (textL bb).length := by rw [List.length_take]; omega
      have hj' : (bb.take j).length = j := by rw [List.length_take]; omega
      rw [j2] at hle ⊢
      have hrc := dRecover_text (L := aa) (M := bb.take j) (t := t) h2 g2' j3 (by rw [hj']; omega) (by omega)
      have hL2 : ∀ r ∈ aa ++ bb.take j, chkRec r = 0 := fun r hr => by
        rcases List.mem_append.1 hr with hr | hr
        · exact h2 r hr
        · exact g2' r hr
      have htl : (textL (aa ++ bb.take j)).length ≤ 60000 := by rw [textL_app, List.length_append]; rw [List.length_append] at hle; omega
      have hrc2 := dRecover_text (L := aa ++ bb.take j) (M := []) (t := []) hL2 (by simp) (by simp) (by simp; omega) (by simpa [textL] using htl)
      simp only [bD]
      rw [ifB_neI, if_pos rfl, show F_disk_Recover (bytB (textL aa), bytB (textL (bb.take j) ++ t)) = _ from dRecover_eq (textL aa, textL (bb.take j) ++ t) (by simp only; omega) (by simp only; omega), hrc, bindO_some]
      simp only [bD]
      have hrr : F_disk_Recover (bytB (textL (aa ++ bb.take j)), bytB []) = some (bD (dRecover (textL (aa ++ bb.take j), [])).1, (dRecover (textL (aa ++ bb.take j), [])).2) := dRecover_eq (textL (aa ++ bb.take j), []) (by simp only; omega) (by simp)
      have hrr2 : dRecover (textL (aa ++ bb.take j), []) = ((textL (aa ++ bb.take j), []), aa ++ bb.take j, 0) := by simpa [textL] using hrc2
      have hsm : F_disk_Same (bytB (textL (aa ++ bb.take j)), bytB []) (bytB (textL (aa ++ bb.take j)), bytB []) = some (decide (((textL (aa ++ bb.take j), []) : List UInt8 × List UInt8) = (textL (aa ++ bb.take j), []))) := dSame_eq (textL (aa ++ bb.take j), []) (textL (aa ++ bb.take j), []) (by simp only; omega) (by simp)
      have hcc : F_concatRc [aa, bb] = some (aa ++ bb) := concatRc_eq aa bb (by omega)
      have htk : (aa ++ bb).take (aa ++ bb.take j).length = aa ++ bb.take j := by
        rw [List.length_append, hj', List.take_append, List.take_of_length_le (by omega)]
        congr 1
        congr 1; omega
      rw [hrr, hrr2]
      simp only [bD, bindO_some, hsm, hcc, lenI_eq, Int.toNat_natCast, htk, bytB_lenN]
      rw [ifB_neI, if_pos rfl, ifB_ltI, if_neg (by rw [List.length_append]; omega), ifB_gtI, wadd_in ⟨by omega, by omega⟩, if_neg (by rw [List.length_append, hj']; omega), ifB_in1, if_pos ⟨by omega, by rw [List.length_append, List.length_append, hj']; omega⟩, ifB_neI, if_pos rfl]
      have hs3 : ∀ r ∈ aa ++ bb.take j, r.2.2.2.length < 4611686018427387904 := fun r hr => small_rec (hL2 r hr)
      have hl3 : (aa ++ bb.take j).length < 4611686018427387904 := by rw [List.length_append, hj']; omega
      refine equalF_gen (aa ++ bb.take j) (aa ++ bb.take j) _ rfl hs3 hl3 |>.trans ?_
      rw [ifB_eqI, if_pos rfl]
      simp only [decide_true]
      rw [ifB_t, ifB_neI, if_pos rfl]
      exact equalF_gen (aa ++ bb.take j) (aa ++ bb.take j) _ rfl hs3 hl3
end Go.Proofs.Y
namespace Go.Proofs.Y
open Go.Rb Go.Kx
theorem by56 : Tryd.prog.bytesOf 56 = 24 := by kernel_rfl
theorem reach_eq : reachBytes = 140737488351232 := by decide +kernel
abbrev entR : RT := .cons (.int .i64) (.cons (.int .i64) (.one (.int .i64)))
abbrev recR : RT := .cons (.int .i64) (.cons (.int .i64) (.cons (.int .i64) (.one (.sl 56 entR))))
theorem op_rec (r : DenR recR) (h : BdR Tryd.prog recR r) : (r : Rc).2.2.2.length < 4611686018427387904 := by
  obtain ⟨_, _, _, h, _⟩ := h
  rw [by56, reach_eq] at h
  show List.length r.2.2.2 < _
  omega
theorem by24 : Tryd.prog.bytesOf 24 = 48 := by kernel_rfl
theorem op_recs (l : Den (.sl 24 recR)) (h : Bd Tryd.prog (.sl 24 recR) l) : List.length (show List Rc from l) < 4611686018427387904 ∧ ∀ r ∈ (show List Rc from l), r.2.2.2.length < 4611686018427387904 := by
  obtain ⟨h1, h2⟩ := h
  rw [by24, reach_eq] at h1
  refine ⟨?_, fun r hr => op_rec r (h2 r hr)⟩
  show List.length l < _; omega
end Go.Proofs.Y
namespace Go.Proofs.YtnkegapccacndaaDoor
open Go.Rb Go.Kx Go.RowKit
abbrev laidL : List (String × DataW Unit) := Rows.noteBackRow.laid
theorem row133 (u : TypeId) (h : Tryd.prog.typeName? 3 u = some "*errors.errorString") : u = 133 :=
  typeName_ptr_named (nm := "errors.errorString") (by kernel_rfl) (by kernel_rfl) (by decide) u h
theorem cells135 : Tryd.prog.cellsOf 135 = 1 := by kernel_rfl
theorem cells9 : Tryd.prog.cellsOf 9 = 1 := by kernel_rfl
theorem glob_of {W : World} (h : laidMetH Tryd.prog laidL W) (hsh : W.ShapedOpen Tryd.prog) : Glob Tryd.prog W ∧ NG Tryd.prog ≤ W.heap.size := by
  rw [MakeChecks.laidMetH_plain _ _ _ (by kernel_rfl)] at h
  have h3 : laidMet Tryd.prog (("internal/strconv.uint64pow10", Lib.tabData .u64 Lib.pow10Tab) :: laidL.drop 3) W := h.tail.tail
  have h5 := h.tail.tail.tail.tail
  have h6 := h5.tail
  refine ⟨⟨?_, ?_, ?_, ?_⟩, ng_le hsh (by kernel_rfl) (by kernel_rfl)⟩
  · exact Lib.tabIs_of_head (g := 3) (t := 128) (e := 104) (n := 20) (by kernel_rfl) (by kernel_rfl) Tryd.underlying128 Tryd.underlying104 (by kernel_rfl) (by kernel_rfl) h3
  · obtain ⟨a, s, hv, _⟩ := laid_sentinel (g := 0) (ti := 65) h6 (by kernel_rfl) (by kernel_rfl) Tryd.underlying65 row133 Tryd.underlying133 Tryd.underlying135 rfl rfl Tryd.underlying9 cells135 cells9
    exact ⟨_, _, hv⟩
  · obtain ⟨a, s, hv, _⟩ := laid_sentinel (g := 1) (ti := 65) h5 (by kernel_rfl) (by kernel_rfl) Tryd.underlying65 row133 Tryd.underlying133 Tryd.underlying135 rfl rfl Tryd.underlying9 cells135 cells9
    exact ⟨_, _, hv⟩
  · exact glob_int (g := 2) (t := 3) (zero := #[.int .i64 0]) hsh (by kernel_rfl) (by kernel_rfl) (by kernel_rfl) (by kernel_rfl) (by kernel_rfl) Tryd.underlying3
theorem own : ownKnob Tryd.prog.godebug = none := by kernel_rfl
theorem laid_fits (os : Os) : (World.holding Tryd.prog os ⟨#[], #[], []⟩).layFits Tryd.prog laidL [] = true := by kernel_rfl
theorem laid_ifaces (os : Os) : (World.holding Tryd.prog os ⟨#[], #[], []⟩).layIfaces Tryd.prog laidL (World.laidAll Tryd.prog os laidL) = true := by kernel_rfl
theorem laid_met (os : Os) (args : Array Value) : laidMetH Tryd.prog laidL ((World.laidAll Tryd.prog os laidL).forCall (fun _ _ => 0) ⟨#[], args, []⟩).memory := by
  rw [MakeChecks.laidMetH_plain _ _ _ (by kernel_rfl)]
  exact laidMet_laidAll _ (laid_fits os) (laid_ifaces os)
end Go.Proofs.YtnkegapccacndaaDoor
